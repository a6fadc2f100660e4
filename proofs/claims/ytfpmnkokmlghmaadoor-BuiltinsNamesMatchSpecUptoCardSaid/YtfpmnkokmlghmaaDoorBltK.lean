/- The built-in names: the reference's default values. Nothing is claimed here. -/
import Derived.Test.YtfpmnkokmlghmaaDoorBltJ
namespace Go.Proofs.YtfpmnkokmlghmaaDoor
open Go.RowKit Go.Lib Go.Shelf
set_option linter.unusedVariables false

/-- a value of the language, with some digits -/
def digC (k : Int) (b' : Bool) (B : Option Addr) (n c : Nat) (t : ByteArray) (r : Int) : Array Value := #[.int .i64 k, .bool b', .slice B n c, .bool false, .slice none 0 0, .string t, .int .i64 r]
def anyV (v : Value) : Prop := ∃ (k : Int) (b' : Bool) (B : Option Addr) (n c : Nat) (t : ByteArray) (r : Int), v = .agg (digC k b' B n c t r)
theorem fN_any (x : Int) (hx : x = 0 ∨ x = 1 ∨ x = 10 ∨ x = -1) (w : World) : Calls Tryd.prog 72 #[.int .i64 x] w fun e w' => (∃ v, e = .returned v ∧ anyV v) ∧ Below w.heap.size w w' := by
  have hR := Blk.new w 26 (digC 0 false none 0 0 ⟨#[]⟩ 0)
  have hb := (Below.refl w.heap.size w).alloc (Nat.le_refl _) (.cells (digC 0 false none 0 0 ⟨#[]⟩ 0) 26)
  have HX := Lib.hid hx
  clear hx
  go_enter Tryd.func72, Tryd.ntmps72
  go_wp2_with fail
  refine (number_any x HX.out _).mono ?_
  rintro e w1 ⟨⟨ng, A, k, d, m, rfl, hkm, hr, hml⟩, ba⟩
  have hR1 := hR.belowS ba
  have hb1 := below_then hb ba hb.size
  clear ba hR hb
  go_wp2_with fail
  refine (whole_any ng A m k d hkm hml hr).mono ?_
  rintro e w2 ⟨⟨b', B, n, c, rfl⟩, ba⟩
  have hR2 := hR1.belowS ba
  have hb2 := below_then hb1 ba hb1.size
  clear ba hR1 hb1 hr
  obtain ⟨a, ha⟩ : ∃ a, w.heap.size = a := ⟨_, rfl⟩
  have HA := Lib.hid ha
  rw [ha] at hR2 hb2 ⊢
  clear ha
  unfold digC at hR2
  obtain ⟨q1, q2, q3⟩ := hR2.rules
  go_wp2_with fail
  refine ret_blk rfl rfl (((((((hR2.set_ 0 _).set_ 1 _).set_ 2 _).set_ 3 _).set_ 4 _).set_ 5 _).set_ 6 _) _ Tryd.underlying26 rfl (by kernel_rfl) rfl ⟨⟨_, rfl, 2, b', B, n, c, ⟨#[]⟩, 0, rfl⟩, ?_⟩
  rw [HA.out]
  exact ((((((hb2.setCell (p := ⟨a, 0, none⟩) (by simp) _).setCell (p := ⟨a, 1, none⟩) (by simp) _).setCell (p := ⟨a, 2, none⟩) (by simp) _).setCell (p := ⟨a, 3, none⟩) (by simp) _).setCell (p := ⟨a, 4, none⟩) (by simp) _).setCell (p := ⟨a, 5, none⟩) (by simp) _).setCell (p := ⟨a, 6, none⟩) (by simp) _
theorem fT_any (t : ByteArray) (w : World) : Calls Tryd.prog 71 #[.string t] w fun e w' => (∃ v, e = .returned v ∧ anyV v) ∧ Below w.heap.size w w' := by
  go_enter Tryd.func71, Tryd.ntmps71
  go_wp2
  exact ret_blk rfl rfl (Blk.new w 26 (digC 4 false none 0 0 t 0)) _ Tryd.underlying26 rfl (by kernel_rfl) rfl ⟨⟨_, rfl, 4, false, none, 0, 0, t, 0, rfl⟩, (Below.refl _ _).alloc (Nat.le_refl _) _⟩
theorem fB_any (w : World) : Calls Tryd.prog 70 #[.bool false] w fun e w' => (∃ v, e = .returned v ∧ anyV v) ∧ Below w.heap.size w w' := by
  go_enter Tryd.func70, Tryd.ntmps70
  go_wp2
  exact ret_blk rfl rfl (Blk.new w 26 (digC 1 false none 0 0 ⟨#[]⟩ 0)) _ Tryd.underlying26 rfl (by kernel_rfl) rfl ⟨⟨_, rfl, 1, false, none, 0, 0, ⟨#[]⟩, 0, rfl⟩, (Below.refl _ _).alloc (Nat.le_refl _) _⟩
end Go.Proofs.YtfpmnkokmlghmaaDoor
