/- The reference's signs: what it computes of them. Nothing is claimed here. -/
import Derived.Test.YtjoeojdciogcgaaDoorRefV
import Derived.Test.YtjoeojdciogcgaaDoorRefS
import Derived.Test.YtjoeojdciogcgaaDoorTokR
namespace Go.Proofs.YtjoeojdciogcgaaDoor
open Go.RowKit Go.Shelf Go.Lib Go.Maps
set_option linter.unusedVariables false

/-- the library's limit lies where it was laid -/
def Lim (w : World) : Prop := ∃ m, w.cell? ⟨4, 0, none⟩ = some (.int .i64 m)
theorem Lim.keepB {w w' : World} (h : Lim w) (hb : Below w.heap.size w w') : Lim w' := by
  obtain ⟨m, hm⟩ := h
  exact ⟨m, (hb.cell (p := ⟨_, 0, none⟩) (lt_of_cell hm)).trans hm⟩
def spacedR : List (List UInt8) → List UInt8
  | [] => []
  | [x] => x
  | x :: y :: l => x ++ 32 :: spacedR (y :: l)
theorem sgR_len : sgR.length = 43 := by kernel_rfl
theorem split_signs : ((Lib.splitB ⟨#[32]⟩ 0 (Lib.countB ⟨(spacedR sgR).toArray⟩ ⟨#[32]⟩) ⟨(spacedR sgR).toArray⟩).map Value.string) = strs sgR := by kernel_rfl
theorem count_signs : Lib.countB ⟨(spacedR sgR).toArray⟩ ⟨#[32]⟩ = 42 := by kernel_rfl
theorem split_any (s : ByteArray) (w : World) (h : s = ⟨(spacedR sgR).toArray⟩) (hm : Lim w) :
    Calls Tryd.prog 81 #[.string s, .string ⟨#[32]⟩] w fun e w' => e = .returned (.slice (some ⟨w.heap.size, 0, none⟩) 43 43) ∧ w' = w.alloc (.cells (strs sgR).toArray 9) := by
  subst h
  obtain ⟨m, hm⟩ := hm
  refine (Tryd.strings_Split ⟨(spacedR sgR).toArray⟩ ⟨#[32]⟩ m w (by decide) hm (by decide)).mono ?_
  rintro e w' ⟨rfl, rfl⟩
  rw [count_signs, ← count_signs, split_signs, count_signs]
  exact ⟨rfl, rfl⟩

end Go.Proofs.YtjoeojdciogcgaaDoor
