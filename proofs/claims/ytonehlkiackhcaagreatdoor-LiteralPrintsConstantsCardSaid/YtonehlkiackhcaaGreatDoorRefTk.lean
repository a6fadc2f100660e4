/- The reference's Tokens: the tokens of a source, or its fault. Nothing is claimed here. -/
import Derived.Test.YtonehlkiackhcaaGreatDoorRefTf
set_option linter.unusedVariables false
set_option linter.unusedSimpArgs false
set_option maxRecDepth 100000
set_option maxHeartbeats 16000000
namespace Go.Proofs.YtonehlkiackhcaaGreatDoor
open Go.RowKit Go.Shelf Go.Lib Go.Maps
end Go.Proofs.YtonehlkiackhcaaGreatDoor
