/- Walks: how many operands an instruction has. Nothing is claimed here. -/
import Derived.Test.YtdajaddgdmoneaaDoorOpD
namespace Go.Proofs.YtdajaddgdmoneaaDoor
open Go.RowKit
set_option linter.unusedVariables false

theorem wtn_yes {n b : Int} (h1 : 0 ≤ n) (h2 : n < b) : wtn n b = true := by simp [wtn, h1, h2]
theorem wtn_no {n b : Int} (h : n < 0 ∨ b ≤ n) : wtn n b = false := by
  rcases h with h | h
  · simp only [wtn]; rw [decide_eq_false (by omega)]; rfl
  · simp only [wtn]; rw [decide_eq_false (p := n < b) (by omega)]; simp
theorem within_yes (n lim : Int) (w : World) (h1 : 0 ≤ n) (h2 : n < lim) :
    Calls Tryd.prog 17 #[.int .i64 n, .int .i64 lim] w fun e w' => e = .returned (.bool true) ∧ w = w' := by
  have := within_any n lim w
  rwa [wtn_yes h1 h2] at this
theorem within_no (n lim : Int) (w : World) (h : n < 0 ∨ lim ≤ n) :
    Calls Tryd.prog 17 #[.int .i64 n, .int .i64 lim] w fun e w' => e = .returned (.bool false) ∧ w = w' := by
  have := within_any n lim w
  rwa [wtn_no h] at this
theorem btw_yes {n a b : Int} (h1 : a ≤ n) (h2 : n ≤ b) : btw n a b = true := by simp [btw, h1, h2]
theorem btw_no {n a b : Int} (h : n < a ∨ b < n) : btw n a b = false := by
  rcases h with h | h
  · simp only [btw]; rw [decide_eq_false (by omega)]; rfl
  · simp only [btw]; rw [decide_eq_false (p := n ≤ b) (by omega)]; simp
theorem between_yes (n lo hi : Int) (w : World) (h1 : lo ≤ n) (h2 : n ≤ hi) :
    Calls Tryd.prog 26 #[.int .i64 n, .int .i64 lo, .int .i64 hi] w fun e w' => e = .returned (.bool true) ∧ w = w' := by
  have := between_any n lo hi w
  rwa [btw_yes h1 h2] at this
theorem between_no (n lo hi : Int) (w : World) (h : n < lo ∨ hi < n) :
    Calls Tryd.prog 26 #[.int .i64 n, .int .i64 lo, .int .i64 hi] w fun e w' => e = .returned (.bool false) ∧ w = w' := by
  have := between_any n lo hi w
  rwa [btw_no h] at this

/-- how many operands the instruction k has -/
def opk (k : Nat) : Nat := match opTab[k]? with
  | some e => opn e.2.1 e.2.2
  | none => 0
theorem opk_of {k : Nat} {s : List UInt8} {x y : Nat} (h : opTab[k]? = some (s, x, y)) : opk k = opn x y := by rw [opk, h]
theorem opk_le (k : Nat) : opk k ≤ 2 := by
  unfold opk opn
  split
  · split
    · split <;> omega
    · omega
  · omega
def opc (n : Int) : Nat := if 0 ≤ n ∧ n < 80 then opk n.toNat else 0

set_option maxHeartbeats 400000 in
theorem operands_all (n : Int) (w : World) :
    Calls Tryd.prog 13 #[.int .i64 n] w fun e w' => e = .returned (.int .i64 (opc n)) ∧ Below w.heap.size w w' := by
  by_cases h : 0 ≤ n ∧ n < 80
  · obtain ⟨h1, h2⟩ := h
    obtain ⟨k, rfl⟩ := Int.eq_ofNat_of_zero_le h1
    have hk : k < 80 := by omega
    go_enter Tryd.func13, Tryd.ntmps13
    go_wp2_with fail
    refine (table_row _).mono ?_
    rintro e w1 ⟨tb, rfl, hrow, hb1⟩
    obtain ⟨b, off, s, x, y, hA, had, hE, g1, g2, g3⟩ := hrow.ent (k := k) hk
    injection hA with hA
    injection hA with hA1 hA2
    subst hA1 hA2
    simp only [Nat.zero_add] at g1 g2 g3
    go_wp2_with (go_at_call 17; refine (within_yes _ _ _ (by omega) (by omega)).mono ?_; rintro e w' ⟨rfl, rfl⟩)
    refine (operands_any _ _ _ _).mono ?_
    rintro e w2 ⟨rfl, hb2⟩
    go_wp2_with fail
    go_ret
    refine ⟨ret_int ?_, below_then hb1 hb2 hb1.size⟩
    rw [opc, if_pos (by omega), Int.toNat_natCast, opk_of hE.out]
  · have h' : n < 0 ∨ 80 ≤ n := by omega
    have H := Lib.hid h
    clear h
    go_enter Tryd.func13, Tryd.ntmps13
    go_wp2_with fail
    refine (table_row _).mono ?_
    rintro e w1 ⟨tb, rfl, hrow, hb1⟩
    go_wp2_with (go_at_call 17; refine (within_no _ _ _ (by omega)).mono ?_; rintro e w' ⟨rfl, rfl⟩)
    go_ret
    refine ⟨ret_int ?_, hb1⟩
    rw [opc, if_neg H.out]
    rfl

def cnt (l : List (List UInt8)) (n : Int) : Nat := if 0 ≤ n ∧ n < l.length then (l.getD n.toNat []).length else 0

set_option maxHeartbeats 400000 in
theorem count_any (A : Option Addr) (c : Nat) (l : List (List UInt8)) (n : Int) (w : World) (hr : Row w A (strs l)) :
    Calls Tryd.prog 14 #[.slice A l.length c, .int .i64 n] w fun e w' => e = .returned (.int .i64 (cnt l n)) ∧ w = w' := by
  by_cases h : 0 ≤ n ∧ n < l.length
  · obtain ⟨h1, h2⟩ := h
    obtain ⟨k, rfl⟩ := Int.eq_ofNat_of_zero_le h1
    have hk : k < l.length := by omega
    obtain ⟨b, off, rfl, had, g1⟩ := hr.str hk
    go_enter Tryd.func14, Tryd.ntmps14
    go_wp2_with fail
    go_ret
    refine ⟨ret_int ?_, rfl⟩
    rw [cnt, if_pos (by omega), Int.toNat_natCast]
    simp [hk, ByteArray.size]
  · have H := Lib.hid h
    have h' : n < 0 ∨ (l.length : Int) ≤ n := by omega
    clear h
    rcases h' with h' | h'
    · go_enter Tryd.func14, Tryd.ntmps14
      go_wp2_with fail
      go_ret
      refine ⟨ret_int ?_, rfl⟩
      rw [cnt, if_neg H.out]
      rfl
    · have h0 : ¬ n < 0 := by omega
      go_enter Tryd.func14, Tryd.ntmps14
      go_wp2_with fail
      go_ret
      refine ⟨ret_int ?_, rfl⟩
      rw [cnt, if_neg H.out]
      rfl

end Go.Proofs.YtdajaddgdmoneaaDoor
