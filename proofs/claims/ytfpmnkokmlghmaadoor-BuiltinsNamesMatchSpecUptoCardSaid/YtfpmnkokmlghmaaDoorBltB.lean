/- The built-in names: the small functions. Nothing is claimed here. -/
import Derived.Test.YtfpmnkokmlghmaaDoorCore
import Derived.Test.YtfpmnkokmlghmaaDoorBltA
import Derived.Test.YtfpmnkokmlghmaaDoorProg
namespace Go.Proofs.YtfpmnkokmlghmaaDoor
open Go.RowKit Go.Lib
set_option linter.unusedVariables false

/-- a value of the language without numbers -/
def valC (k : Int) (t : List UInt8) (r : Int) : Array Value := #[.int .i64 k, .bool false, .slice none 0 0, .bool false, .slice none 0 0, .string ⟨t.toArray⟩, .int .i64 r]
def valA (k : Int) (t : List UInt8) (r : Int) : Value := .agg (valC k t r)

/-- the base of a class stands ahead of it -/
theorem parent_any (i : Int) (w : World) : Calls Tryd.prog 47 #[.int .i64 i] w fun e w' => (∃ p : Int, e = .returned (.int .i64 p) ∧ 0 ≤ p ∧ (0 < i → p < i)) ∧ w = w' := by
  go_enter Tryd.func47, Tryd.ntmps47
  go_wp2 <;> (go_ret; (try simp only [beq_iff_eq] at *); first | exact ⟨⟨_, rfl, by omega, by omega⟩, rfl⟩ | exact ⟨⟨_, rfl, by omega, by omega⟩, trivial⟩)
theorem hRef_any (r : Int) (w : World) : Calls Tryd.prog 16 #[.int .i64 r] w fun e w' => e = .returned (valA 6 [] r) ∧ Below w.heap.size w w' := by
  go_enter Tryd.func16, Tryd.ntmps16
  go_wp2
  exact ret_blk rfl rfl (Blk.new w 26 (valC 6 [] r)) _ Tryd.underlying26 rfl (by kernel_rfl) rfl ⟨rfl, (Below.refl _ _).alloc (Nat.le_refl _) _⟩
theorem fO_any (r : Int) (w : World) : Calls Tryd.prog 34 #[.int .i64 r] w fun e w' => e = .returned (valA 6 [] r) ∧ Below w.heap.size w w' := by
  go_enter Tryd.func34, Tryd.ntmps34
  go_wp2
  exact ret_blk rfl rfl (Blk.new w 26 (valC 6 [] r)) _ Tryd.underlying26 rfl (by kernel_rfl) rfl ⟨rfl, (Below.refl _ _).alloc (Nat.le_refl _) _⟩
theorem eqU32_nil (w : World) : Calls Tryd.prog 36 #[.slice none 0 0, .slice none 0 0] w fun e w' => e = .returned (.bool true) ∧ w = w' := by
  go_enter Tryd.func36, Tryd.ntmps36
  go_wp2_with fail
  go_loop [13] (fun v => v = .int .i64 0) (fun _ => 0)
  case atStart => rfl
  case round =>
    subst hrel
    go_wp2
    go_ret
    exact ⟨rfl, rfl⟩
theorem sameInt_nil (w : World) : Calls Tryd.prog 20 #[.agg #[.bool false, .slice none 0 0], .agg #[.bool false, .slice none 0 0]] w fun e w' => e = .returned (.bool true) ∧ Below w.heap.size w w' := by
  have h1 := (Blk.new w 24 #[.bool false, .slice none 0 0]).alloc (.cells #[.bool false, .slice none 0 0] 24)
  have h2 := Blk.new (w.alloc (.cells #[.bool false, .slice none 0 0] 24)) 24 #[.bool false, .slice none 0 0]
  have hb := ((Below.refl w.heap.size w).alloc (Nat.le_refl _) (.cells #[.bool false, .slice none 0 0] 24)).alloc (by simp) (.cells #[.bool false, .slice none 0 0] 24)
  have hs : (w.alloc (.cells #[.bool false, .slice none 0 0] 24)).heap.size = w.heap.size + 1 := by simp
  go_enter Tryd.func20, Tryd.ntmps20
  go_wp2_with fail
  refine (eqU32_nil _).mono ?_
  rintro e w1 ⟨rfl, rfl⟩
  go_wp2_with fail
  go_ret
  exact ⟨rfl, hb⟩
/-- two values without numbers that are the same -/
theorem sameValue_any (k : Int) (t : List UInt8) (r : Int) (w : World) : Calls Tryd.prog 6 #[valA k t r, valA k t r] w fun e w' => e = .returned (.bool true) ∧ Below w.heap.size w w' := by
  have h1 := (Blk.new w 26 (valC k t r)).alloc (.cells (valC k t r) 26)
  have h2 := Blk.new (w.alloc (.cells (valC k t r) 26)) 26 (valC k t r)
  have hb := ((Below.refl w.heap.size w).alloc (Nat.le_refl _) (.cells (valC k t r) 26)).alloc (by simp) (.cells (valC k t r) 26)
  have hs : (w.alloc (.cells (valC k t r) 26)).heap.size = w.heap.size + 1 := by simp
  rw [hs] at h2
  unfold valC at h1 h2 hb
  have t1 : (k == k) = true := by simp
  have t2 : (r == r) = true := by simp
  have t3 : (t == t) = true := by simp
  unfold valA valC
  go_enter Tryd.func6, Tryd.ntmps6
  go_wp2_with fail
  refine (sameInt_nil _).mono ?_
  rintro e w3 ⟨rfl, ba⟩
  have h1b := h1.belowS ba
  have h2b := h2.belowS ba
  have hb3 := below_then hb ba hb.size
  obtain ⟨q1, q2, q3⟩ := h1b.rules
  obtain ⟨r1, r2, r3⟩ := h2b.rules
  clear h1 h2 hb ba hs h1b h2b
  go_wp2_with fail
  refine (sameInt_nil _).mono ?_
  rintro e w4 ⟨rfl, ba⟩
  have hb4 := below_then hb3 ba hb3.size
  clear q1 q2 q3 r1 r2 r3 hb3 ba
  go_wp2_with fail
  go_ret
  exact ⟨rfl, hb4⟩
end Go.Proofs.YtfpmnkokmlghmaaDoor
