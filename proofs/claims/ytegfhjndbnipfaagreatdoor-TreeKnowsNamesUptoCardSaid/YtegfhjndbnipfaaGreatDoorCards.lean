/-
  DERIVED. GIVEN WITH THE SEED: THE CARDS: each row of YtegfhjndbnipfaaGreatDoorRows.lean that lists a variable, with what it lists TIED to the program's text (the seventh form; the later family's looks); each row that meets fmt, with fmt's text TOLD by the authors' own Lean function (tested against real Go, not proved from fmt's source: count such statements apart). THE CARD IS WHAT COUNTS. Prove the row's statement (the work); the ties are given (YtegfhjndbnipfaaGreatDoorTie.lean); close each card by the builder's one call (the guide's Derived/Test/ToyasCard.lean, 'card_holds'). Laid BY PROGRAM, IN A SANDBOX (cutbox-door.mjs). By AI agents, Wed Nov 11 2026. No macro, syntax, notation, axiom, sorry.
-/
import Derived.Test.YtegfhjndbnipfaaGreatDoorRows
import GoSem.ClaimSeven
namespace Go.Proofs.YtegfhjndbnipfaaGreatDoor
namespace Rows

/-- THE TIED CARD OF 'brindlewoodlaw1.TreeKnowsNames'. -/
def treeKnowsNamesCard : Claim7 := { stood := { row := treeKnowsNamesRow, standIns := [], harness := (true, "c0551be57f30ac350b5cfbd1c13119cd50ce3a355070c4c0fc082f5660ca8841"), looks := true }, kinds := [], alts := [], laidByText := true, laidKinds := [.data, .data, .data, .data, .sentinel, .sentinel, .listed, .data, .pinned], laidTests := true, laidLooks := .later }
def TreeKnowsNamesCardSaid : Prop := Claim7.holds Tryz.pinned (.plain (OpenSpec.ofChange treeKnowsNamesSpec)) treeKnowsNamesCard

/-- THE SECOND FORM's CARD OF 'brindlewoodlaw1.TreeKnowsNames'. -/
def treeKnowsNamesUptoCard : Claim7 := { stood := { row := treeKnowsNamesUptoRow, standIns := [], harness := (true, "c0551be57f30ac350b5cfbd1c13119cd50ce3a355070c4c0fc082f5660ca8841"), looks := true }, kinds := [], alts := [], laidByText := true, laidKinds := [.data, .data, .data, .data, .sentinel, .sentinel, .listed, .data, .pinned], laidTests := true, laidLooks := .later }
def TreeKnowsNamesUptoCardSaid : Prop := Claim7.holds Tryz.pinned (.plain (OpenSpec.upto treeKnowsNamesSpec)) treeKnowsNamesUptoCard
end Rows
end Go.Proofs.YtegfhjndbnipfaaGreatDoor
