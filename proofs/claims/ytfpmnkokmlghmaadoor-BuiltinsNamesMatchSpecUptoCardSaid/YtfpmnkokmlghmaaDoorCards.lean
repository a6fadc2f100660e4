/-
  DERIVED. GIVEN WITH THE SEED: THE CARDS: each row of YtfpmnkokmlghmaaDoorRows.lean that lists a variable, with what it lists TIED to the program's text (the seventh form; the later family's looks); each row that meets fmt, with fmt's text TOLD by the authors' own Lean function (tested against real Go, not proved from fmt's source: count such statements apart). THE CARD IS WHAT COUNTS. Prove the row's statement (the work); the ties are given (YtfpmnkokmlghmaaDoorTie.lean); close each card by the builder's one call (the guide's Derived/Test/ToyasCard.lean, 'card_holds'). Laid BY PROGRAM, IN A SANDBOX (cutbox-door.mjs). By AI agents, Wed Nov 11 2026. No macro, syntax, notation, axiom, sorry.
-/
import Derived.Test.YtfpmnkokmlghmaaDoorRows
import GoSem.ClaimSeven
namespace Go.Proofs.YtfpmnkokmlghmaaDoor
namespace Rows

/-- THE TIED CARD OF 'brindlewoodlaw8.BuiltinsNamesMatchSpec'. -/
def builtinsNamesMatchSpecCard : Claim7 := { stood := { row := builtinsNamesMatchSpecRow, standIns := [], harness := (true, "1e61a148a9388808903be3907056565a94c04e38c485fbe66db10c4a99a76b84"), looks := false }, kinds := [], alts := [], laidByText := true, laidKinds := [.data, .listed, .data, .pinned], laidTests := true, laidLooks := .later }
def BuiltinsNamesMatchSpecCardSaid : Prop := Claim7.holds Tryd.pinned (.plain (OpenSpec.ofChange builtinsNamesMatchSpecSpec)) builtinsNamesMatchSpecCard

/-- THE SECOND FORM's CARD OF 'brindlewoodlaw8.BuiltinsNamesMatchSpec'. -/
def builtinsNamesMatchSpecUptoCard : Claim7 := { stood := { row := builtinsNamesMatchSpecUptoRow, standIns := [], harness := (true, "1e61a148a9388808903be3907056565a94c04e38c485fbe66db10c4a99a76b84"), looks := false }, kinds := [], alts := [], laidByText := true, laidKinds := [.data, .listed, .data, .pinned], laidTests := true, laidLooks := .later }
def BuiltinsNamesMatchSpecUptoCardSaid : Prop := Claim7.holds Tryd.pinned (.plain (OpenSpec.upto builtinsNamesMatchSpecSpec)) builtinsNamesMatchSpecUptoCard
end Rows
end Go.Proofs.YtfpmnkokmlghmaaDoor
