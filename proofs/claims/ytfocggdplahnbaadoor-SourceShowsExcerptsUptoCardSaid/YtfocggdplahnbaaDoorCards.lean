/-
  DERIVED. GIVEN WITH THE SEED: THE CARDS: each row of YtfocggdplahnbaaDoorRows.lean that lists a variable, with what it lists TIED to the program's text (the seventh form; the later family's looks); each row that meets fmt, with fmt's text TOLD by the authors' own Lean function (tested against real Go, not proved from fmt's source: count such statements apart). THE CARD IS WHAT COUNTS. Prove the row's statement (the work); the ties are given (YtfocggdplahnbaaDoorTie.lean); close each card by the builder's one call (the guide's Derived/Test/ToyasCard.lean, 'card_holds'). Laid BY PROGRAM, IN A SANDBOX (cutbox-door.mjs). By AI agents, Wed Nov 11 2026. No macro, syntax, notation, axiom, sorry.
-/
import Derived.Test.YtfocggdplahnbaaDoorRows
import GoSem.ClaimSeven
namespace Go.Proofs.YtfocggdplahnbaaDoor
namespace Rows

/-- THE TIED CARD OF 'brindlewoodlaw1.SourcePlacesLeadBack'. -/
def sourcePlacesLeadBackCard : Claim7 := { stood := { row := sourcePlacesLeadBackRow, standIns := [], harness := (true, "32d80ec8f9d9a11868bc27e74d21dd683281de5cd602e39cf5914f1bc9240bc4"), looks := false }, kinds := [], alts := [], laidByText := true, laidKinds := [.data, .pinned], laidTests := true, laidLooks := .later }
def SourcePlacesLeadBackCardSaid : Prop := Claim7.holds Tryd.pinned (.plain (OpenSpec.ofChange sourcePlacesLeadBackSpec)) sourcePlacesLeadBackCard

/-- THE TIED CARD OF 'brindlewoodlaw1.SourceTellsPlaces'. -/
def sourceTellsPlacesCard : Claim7 := { stood := { row := sourceTellsPlacesRow, standIns := [], harness := (true, "32d80ec8f9d9a11868bc27e74d21dd683281de5cd602e39cf5914f1bc9240bc4"), looks := false }, kinds := [], alts := [], laidByText := true, laidKinds := [.data, .pinned], laidTests := true, laidLooks := .later }
def SourceTellsPlacesCardSaid : Prop := Claim7.holds Tryd.pinned (.plain (OpenSpec.ofChange sourceTellsPlacesSpec)) sourceTellsPlacesCard

/-- THE TIED CARD OF 'brindlewoodlaw1.SourceShowsExcerpts'. -/
def sourceShowsExcerptsCard : Claim7 := { stood := { row := sourceShowsExcerptsRow, standIns := [], harness := (true, "32d80ec8f9d9a11868bc27e74d21dd683281de5cd602e39cf5914f1bc9240bc4"), looks := false }, kinds := [], alts := [], laidByText := true, laidKinds := [.data, .pinned], laidTests := true, laidLooks := .later }
def SourceShowsExcerptsCardSaid : Prop := Claim7.holds Tryd.pinned (.plain (OpenSpec.ofChange sourceShowsExcerptsSpec)) sourceShowsExcerptsCard

/-- THE SECOND FORM's CARD OF 'brindlewoodlaw1.SourcePlacesLeadBack'. -/
def sourcePlacesLeadBackUptoCard : Claim7 := { stood := { row := sourcePlacesLeadBackUptoRow, standIns := [], harness := (true, "32d80ec8f9d9a11868bc27e74d21dd683281de5cd602e39cf5914f1bc9240bc4"), looks := false }, kinds := [], alts := [], laidByText := true, laidKinds := [.data, .pinned], laidTests := true, laidLooks := .later }
def SourcePlacesLeadBackUptoCardSaid : Prop := Claim7.holds Tryd.pinned (.plain (OpenSpec.upto sourcePlacesLeadBackSpec)) sourcePlacesLeadBackUptoCard

/-- THE SECOND FORM's CARD OF 'brindlewoodlaw1.SourceTellsPlaces'. -/
def sourceTellsPlacesUptoCard : Claim7 := { stood := { row := sourceTellsPlacesUptoRow, standIns := [], harness := (true, "32d80ec8f9d9a11868bc27e74d21dd683281de5cd602e39cf5914f1bc9240bc4"), looks := false }, kinds := [], alts := [], laidByText := true, laidKinds := [.data, .pinned], laidTests := true, laidLooks := .later }
def SourceTellsPlacesUptoCardSaid : Prop := Claim7.holds Tryd.pinned (.plain (OpenSpec.upto sourceTellsPlacesSpec)) sourceTellsPlacesUptoCard

/-- THE SECOND FORM's CARD OF 'brindlewoodlaw1.SourceShowsExcerpts'. -/
def sourceShowsExcerptsUptoCard : Claim7 := { stood := { row := sourceShowsExcerptsUptoRow, standIns := [], harness := (true, "32d80ec8f9d9a11868bc27e74d21dd683281de5cd602e39cf5914f1bc9240bc4"), looks := false }, kinds := [], alts := [], laidByText := true, laidKinds := [.data, .pinned], laidTests := true, laidLooks := .later }
def SourceShowsExcerptsUptoCardSaid : Prop := Claim7.holds Tryd.pinned (.plain (OpenSpec.upto sourceShowsExcerptsSpec)) sourceShowsExcerptsUptoCard
end Rows
end Go.Proofs.YtfocggdplahnbaaDoor
