/-
  DERIVED. GIVEN WITH THE SEED: THE CARDS: each row of YtonehlkiackhcaaGreatDoorRows.lean that lists a variable, with what it lists TIED to the program's text (the seventh form; the later family's looks); each row that meets fmt, with fmt's text TOLD by the authors' own Lean function (tested against real Go, not proved from fmt's source: count such statements apart). THE CARD IS WHAT COUNTS. Prove the row's statement (the work); the ties are given (YtonehlkiackhcaaGreatDoorTie.lean); close each card by the builder's one call (the guide's Derived/Test/ToyasCard.lean, 'card_holds'). Laid BY PROGRAM, IN A SANDBOX (cutbox-door.mjs). By AI agents, Wed Nov 11 2026. No macro, syntax, notation, axiom, sorry.
-/
import Derived.Test.YtonehlkiackhcaaGreatDoorRows
import GoSem.ClaimSeven
namespace Go.Proofs.YtonehlkiackhcaaGreatDoor
namespace Rows

/-- THE TIED CARD OF 'brindlewoodlaw1.LiteralPrintsConstants'. -/
def literalPrintsConstantsCard : Claim7 := { stood := { row := literalPrintsConstantsRow, standIns := [], harness := (true, "49588a4301f742a84d65c2bc5aa26e8b9edb254122889fb7b47b04d355d30f6f"), looks := true }, kinds := [], alts := [], laidByText := true, laidKinds := [.data, .data, .data, .data, .sentinel, .sentinel, .listed, .data, .pinned], laidTests := true, laidLooks := .later }
def LiteralPrintsConstantsCardSaid : Prop := Claim7.holds Tryz.pinned (.plain (OpenSpec.ofChange literalPrintsConstantsSpec)) literalPrintsConstantsCard

/-- THE TIED CARD OF 'brindlewoodlaw1.LiteralReadsConstants'. -/
def literalReadsConstantsCard : Claim7 := { stood := { row := literalReadsConstantsRow, standIns := [], harness := (true, "49588a4301f742a84d65c2bc5aa26e8b9edb254122889fb7b47b04d355d30f6f"), looks := true }, kinds := [], alts := [], laidByText := true, laidKinds := [.data, .data, .data, .data, .sentinel, .sentinel, .listed, .data, .pinned, .pinned], laidTests := true, laidLooks := .later }
def LiteralReadsConstantsCardSaid : Prop := Claim7.holds Tryz.pinned (.plain (OpenSpec.ofChange literalReadsConstantsSpec)) literalReadsConstantsCard

/-- THE TIED CARD OF 'brindlewoodlaw1.LiteralReadsParts'. -/
def literalReadsPartsCard : Claim7 := { stood := { row := literalReadsPartsRow, standIns := [], harness := (true, "49588a4301f742a84d65c2bc5aa26e8b9edb254122889fb7b47b04d355d30f6f"), looks := true }, kinds := [], alts := [], laidByText := true, laidKinds := [.data, .data, .data, .data, .sentinel, .sentinel, .listed, .data, .pinned, .pinned], laidTests := true, laidLooks := .later }
def LiteralReadsPartsCardSaid : Prop := Claim7.holds Tryz.pinned (.plain (OpenSpec.ofChange literalReadsPartsSpec)) literalReadsPartsCard

/-- THE TIED CARD OF 'brindlewoodlaw1.LiteralJoinsParts'. -/
def literalJoinsPartsCard : Claim7 := { stood := { row := literalJoinsPartsRow, standIns := [], harness := (true, "49588a4301f742a84d65c2bc5aa26e8b9edb254122889fb7b47b04d355d30f6f"), looks := true }, kinds := [], alts := [], laidByText := true, laidKinds := [.data, .data, .data, .data, .sentinel, .sentinel, .listed, .data, .pinned, .pinned], laidTests := true, laidLooks := .later }
def LiteralJoinsPartsCardSaid : Prop := Claim7.holds Tryz.pinned (.plain (OpenSpec.ofChange literalJoinsPartsSpec)) literalJoinsPartsCard

/-- THE SECOND FORM's CARD OF 'brindlewoodlaw1.LiteralPrintsConstants'. -/
def literalPrintsConstantsUptoCard : Claim7 := { stood := { row := literalPrintsConstantsUptoRow, standIns := [], harness := (true, "49588a4301f742a84d65c2bc5aa26e8b9edb254122889fb7b47b04d355d30f6f"), looks := true }, kinds := [], alts := [], laidByText := true, laidKinds := [.data, .data, .data, .data, .sentinel, .sentinel, .listed, .data, .pinned], laidTests := true, laidLooks := .later }
def LiteralPrintsConstantsUptoCardSaid : Prop := Claim7.holds Tryz.pinned (.plain (OpenSpec.upto literalPrintsConstantsSpec)) literalPrintsConstantsUptoCard

/-- THE SECOND FORM's CARD OF 'brindlewoodlaw1.LiteralReadsConstants'. -/
def literalReadsConstantsUptoCard : Claim7 := { stood := { row := literalReadsConstantsUptoRow, standIns := [], harness := (true, "49588a4301f742a84d65c2bc5aa26e8b9edb254122889fb7b47b04d355d30f6f"), looks := true }, kinds := [], alts := [], laidByText := true, laidKinds := [.data, .data, .data, .data, .sentinel, .sentinel, .listed, .data, .pinned, .pinned], laidTests := true, laidLooks := .later }
def LiteralReadsConstantsUptoCardSaid : Prop := Claim7.holds Tryz.pinned (.plain (OpenSpec.upto literalReadsConstantsSpec)) literalReadsConstantsUptoCard

/-- THE SECOND FORM's CARD OF 'brindlewoodlaw1.LiteralReadsParts'. -/
def literalReadsPartsUptoCard : Claim7 := { stood := { row := literalReadsPartsUptoRow, standIns := [], harness := (true, "49588a4301f742a84d65c2bc5aa26e8b9edb254122889fb7b47b04d355d30f6f"), looks := true }, kinds := [], alts := [], laidByText := true, laidKinds := [.data, .data, .data, .data, .sentinel, .sentinel, .listed, .data, .pinned, .pinned], laidTests := true, laidLooks := .later }
def LiteralReadsPartsUptoCardSaid : Prop := Claim7.holds Tryz.pinned (.plain (OpenSpec.upto literalReadsPartsSpec)) literalReadsPartsUptoCard

/-- THE SECOND FORM's CARD OF 'brindlewoodlaw1.LiteralJoinsParts'. -/
def literalJoinsPartsUptoCard : Claim7 := { stood := { row := literalJoinsPartsUptoRow, standIns := [], harness := (true, "49588a4301f742a84d65c2bc5aa26e8b9edb254122889fb7b47b04d355d30f6f"), looks := true }, kinds := [], alts := [], laidByText := true, laidKinds := [.data, .data, .data, .data, .sentinel, .sentinel, .listed, .data, .pinned, .pinned], laidTests := true, laidLooks := .later }
def LiteralJoinsPartsUptoCardSaid : Prop := Claim7.holds Tryz.pinned (.plain (OpenSpec.upto literalJoinsPartsSpec)) literalJoinsPartsUptoCard
end Rows
end Go.Proofs.YtonehlkiackhcaaGreatDoor
