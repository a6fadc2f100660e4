/-
  DERIVED. GIVEN WITH THE SEED: THE CARDS: each row of YtdajaddgdmoneaaDoorRows.lean that lists a variable, with what it lists TIED to the program's text (the seventh form; the later family's looks); each row that meets fmt, with fmt's text TOLD by the authors' own Lean function (tested against real Go, not proved from fmt's source: count such statements apart). THE CARD IS WHAT COUNTS. Prove the row's statement (the work); the ties are given (YtdajaddgdmoneaaDoorTie.lean); close each card by the builder's one call (the guide's Derived/Test/ToyasCard.lean, 'card_holds'). Laid BY PROGRAM, IN A SANDBOX (cutbox-door.mjs). By AI agents, Wed Nov 11 2026. No macro, syntax, notation, axiom, sorry.
-/
import Derived.Test.YtdajaddgdmoneaaDoorRows
import GoSem.ClaimSeven
namespace Go.Proofs.YtdajaddgdmoneaaDoor
namespace Rows

/-- THE TIED CARD OF 'brindlewoodlaw8.OpcodeDecodeMatchesSpec'. -/
def opcodeDecodeMatchesSpecCard : Claim7 := { stood := { row := opcodeDecodeMatchesSpecRow, standIns := [], harness := (true, "dc8c24cdfcc98e4168d4b1b8b6fb504db3e8359a3c61625c41f433f4bb3d5985"), looks := false }, kinds := [], alts := [], laidByText := true, laidKinds := [.listed, .data], laidTests := true, laidLooks := .later }
def OpcodeDecodeMatchesSpecCardSaid : Prop := Claim7.holds Tryd.pinned (.plain (OpenSpec.ofChange opcodeDecodeMatchesSpecSpec)) opcodeDecodeMatchesSpecCard

/-- THE TIED CARD OF 'brindlewoodlaw8.OpcodeEncodeMatchesSpec'. -/
def opcodeEncodeMatchesSpecCard : Claim7 := { stood := { row := opcodeEncodeMatchesSpecRow, standIns := [], harness := (true, "dc8c24cdfcc98e4168d4b1b8b6fb504db3e8359a3c61625c41f433f4bb3d5985"), looks := false }, kinds := [], alts := [], laidByText := true, laidKinds := [.listed, .data], laidTests := true, laidLooks := .later }
def OpcodeEncodeMatchesSpecCardSaid : Prop := Claim7.holds Tryd.pinned (.plain (OpenSpec.ofChange opcodeEncodeMatchesSpecSpec)) opcodeEncodeMatchesSpecCard

/-- THE SECOND FORM's CARD OF 'brindlewoodlaw8.OpcodeDecodeMatchesSpec'. -/
def opcodeDecodeMatchesSpecUptoCard : Claim7 := { stood := { row := opcodeDecodeMatchesSpecUptoRow, standIns := [], harness := (true, "dc8c24cdfcc98e4168d4b1b8b6fb504db3e8359a3c61625c41f433f4bb3d5985"), looks := false }, kinds := [], alts := [], laidByText := true, laidKinds := [.listed, .data], laidTests := true, laidLooks := .later }
def OpcodeDecodeMatchesSpecUptoCardSaid : Prop := Claim7.holds Tryd.pinned (.plain (OpenSpec.upto opcodeDecodeMatchesSpecSpec)) opcodeDecodeMatchesSpecUptoCard

/-- THE SECOND FORM's CARD OF 'brindlewoodlaw8.OpcodeEncodeMatchesSpec'. -/
def opcodeEncodeMatchesSpecUptoCard : Claim7 := { stood := { row := opcodeEncodeMatchesSpecUptoRow, standIns := [], harness := (true, "dc8c24cdfcc98e4168d4b1b8b6fb504db3e8359a3c61625c41f433f4bb3d5985"), looks := false }, kinds := [], alts := [], laidByText := true, laidKinds := [.listed, .data], laidTests := true, laidLooks := .later }
def OpcodeEncodeMatchesSpecUptoCardSaid : Prop := Claim7.holds Tryd.pinned (.plain (OpenSpec.upto opcodeEncodeMatchesSpecSpec)) opcodeEncodeMatchesSpecUptoCard
end Rows
end Go.Proofs.YtdajaddgdmoneaaDoor
