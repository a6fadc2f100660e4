/-
  DERIVED. GIVEN WITH THE SEED: THE CARDS: each row of YtjoeojdciogcgaaDoorRows.lean that lists a variable, with what it lists TIED to the program's text (the seventh form; the later family's looks); each row that meets fmt, with fmt's text TOLD by the authors' own Lean function (tested against real Go, not proved from fmt's source: count such statements apart). THE CARD IS WHAT COUNTS. Prove the row's statement (the work); the ties are given (YtjoeojdciogcgaaDoorTie.lean); close each card by the builder's one call (the guide's Derived/Test/ToyasCard.lean, 'card_holds'). Laid BY PROGRAM, IN A SANDBOX (cutbox-door.mjs). By AI agents, Wed Nov 11 2026. No macro, syntax, notation, axiom, sorry.
-/
import Derived.Test.YtjoeojdciogcgaaDoorRows
import GoSem.ClaimSeven
namespace Go.Proofs.YtjoeojdciogcgaaDoor
namespace Rows

/-- THE TIED CARD OF 'brindlewoodlaw1.TokenScannedAgain'. -/
def tokenScannedAgainCard : Claim7 := { stood := { row := tokenScannedAgainRow, standIns := [], harness := (true, "cc5de26c0dd28791354dd4685fafde99614f57baeb4dc5451a66fa29e1dee30a"), looks := true }, kinds := [], alts := [], laidByText := true, laidKinds := [.data, .listed, .data, .pinned], laidTests := true, laidLooks := .later }
def TokenScannedAgainCardSaid : Prop := Claim7.holds Tryd.pinned (.plain (OpenSpec.ofChange tokenScannedAgainSpec)) tokenScannedAgainCard

/-- THE TIED CARD OF 'brindlewoodlaw1.TokenJoinsTokens'. -/
def tokenJoinsTokensCard : Claim7 := { stood := { row := tokenJoinsTokensRow, standIns := [], harness := (true, "cc5de26c0dd28791354dd4685fafde99614f57baeb4dc5451a66fa29e1dee30a"), looks := true }, kinds := [], alts := [], laidByText := true, laidKinds := [.data, .listed, .data, .pinned], laidTests := true, laidLooks := .later }
def TokenJoinsTokensCardSaid : Prop := Claim7.holds Tryd.pinned (.plain (OpenSpec.ofChange tokenJoinsTokensSpec)) tokenJoinsTokensCard

/-- THE TIED CARD OF 'brindlewoodlaw1.TokenScansSources'. -/
def tokenScansSourcesCard : Claim7 := { stood := { row := tokenScansSourcesRow, standIns := [], harness := (true, "cc5de26c0dd28791354dd4685fafde99614f57baeb4dc5451a66fa29e1dee30a"), looks := true }, kinds := [], alts := [], laidByText := true, laidKinds := [.data, .listed, .data, .pinned], laidTests := true, laidLooks := .later }
def TokenScansSourcesCardSaid : Prop := Claim7.holds Tryd.pinned (.plain (OpenSpec.ofChange tokenScansSourcesSpec)) tokenScansSourcesCard

/-- THE SECOND FORM's CARD OF 'brindlewoodlaw1.TokenScannedAgain'. -/
def tokenScannedAgainUptoCard : Claim7 := { stood := { row := tokenScannedAgainUptoRow, standIns := [], harness := (true, "cc5de26c0dd28791354dd4685fafde99614f57baeb4dc5451a66fa29e1dee30a"), looks := true }, kinds := [], alts := [], laidByText := true, laidKinds := [.data, .listed, .data, .pinned], laidTests := true, laidLooks := .later }
def TokenScannedAgainUptoCardSaid : Prop := Claim7.holds Tryd.pinned (.plain (OpenSpec.upto tokenScannedAgainSpec)) tokenScannedAgainUptoCard

/-- THE SECOND FORM's CARD OF 'brindlewoodlaw1.TokenJoinsTokens'. -/
def tokenJoinsTokensUptoCard : Claim7 := { stood := { row := tokenJoinsTokensUptoRow, standIns := [], harness := (true, "cc5de26c0dd28791354dd4685fafde99614f57baeb4dc5451a66fa29e1dee30a"), looks := true }, kinds := [], alts := [], laidByText := true, laidKinds := [.data, .listed, .data, .pinned], laidTests := true, laidLooks := .later }
def TokenJoinsTokensUptoCardSaid : Prop := Claim7.holds Tryd.pinned (.plain (OpenSpec.upto tokenJoinsTokensSpec)) tokenJoinsTokensUptoCard

/-- THE SECOND FORM's CARD OF 'brindlewoodlaw1.TokenScansSources'. -/
def tokenScansSourcesUptoCard : Claim7 := { stood := { row := tokenScansSourcesUptoRow, standIns := [], harness := (true, "cc5de26c0dd28791354dd4685fafde99614f57baeb4dc5451a66fa29e1dee30a"), looks := true }, kinds := [], alts := [], laidByText := true, laidKinds := [.data, .listed, .data, .pinned], laidTests := true, laidLooks := .later }
def TokenScansSourcesUptoCardSaid : Prop := Claim7.holds Tryd.pinned (.plain (OpenSpec.upto tokenScansSourcesSpec)) tokenScansSourcesUptoCard
end Rows
end Go.Proofs.YtjoeojdciogcgaaDoor
