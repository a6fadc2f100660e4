/- The reference's small functions on tokens: what they compute. Nothing is claimed here. -/
import Derived.Great.BuildSlice
import Derived.Lib.IndexAny
import Derived.Test.YtjoeojdciogcgaaDoorRefE
import Derived.Test.YtjoeojdciogcgaaDoorScanB
namespace Go.Proofs.YtjoeojdciogcgaaDoor
open Go.RowKit Go.Shelf Go.Lib Go.Maps
set_option linter.unusedVariables false

def letL : List UInt8 := [97, 98, 99, 100, 101, 102, 103, 104, 105, 106, 107, 108, 109, 110, 111, 112, 113, 114, 115, 116, 117, 118, 119, 120, 121, 122, 65, 66, 67, 68, 69, 70, 71, 72, 73, 74, 75, 76, 77, 78, 79, 80, 81, 82, 83, 84, 85, 86, 87, 88, 89, 90, 95]
def digL : List UInt8 := [48, 49, 50, 51, 52, 53, 54, 55, 56, 57]
def wrdL : List UInt8 := [97, 98, 99, 100, 101, 102, 103, 104, 105, 106, 107, 108, 109, 110, 111, 112, 113, 114, 115, 116, 117, 118, 119, 120, 121, 122, 65, 66, 67, 68, 69, 70, 71, 72, 73, 74, 75, 76, 77, 78, 79, 80, 81, 82, 83, 84, 85, 86, 87, 88, 89, 90, 95, 48, 49, 50, 51, 52, 53, 54, 55, 56, 57]
def hexL : List UInt8 := [48, 49, 50, 51, 52, 53, 54, 55, 56, 57, 97, 98, 99, 100, 101, 102]
theorem byte_all (p : UInt8 → Bool) (h : ((List.range 256).all fun n => p (UInt8.ofNat n)) = true) (c : UInt8) : p c = true := by
  have := List.all_eq_true.1 h c.toNat (List.mem_range.2 c.toNat_lt)
  simpa using this
theorem letL_is (c : UInt8) : letL.contains c = isLet c := by
  have := byte_all (fun c => letL.contains c == isLet c) (by decide +kernel) c
  simpa using this
theorem digL_is (c : UInt8) : digL.contains c = isDig c := by
  have := byte_all (fun c => digL.contains c == isDig c) (by decide +kernel) c
  simpa using this
theorem wrdL_is (c : UInt8) : wrdL.contains c = isWrd c := by
  have := byte_all (fun c => wrdL.contains c == isWrd c) (by decide +kernel) c
  simpa using this
theorem hexL_is (c : UInt8) : hexL.contains c = isHex c := by
  have := byte_all (fun c => hexL.contains c == isHex c) (by decide +kernel) c
  simpa using this
theorem binL_is (c : UInt8) : ([48, 49] : List UInt8).contains c = isBin c := by
  have := byte_all (fun c => ([48, 49] : List UInt8).contains c == isBin c) (by decide +kernel) c
  simpa using this

/-- is the byte at an offset one of some? -/
def hasB (l : List UInt8) (i : Nat) (S : List UInt8) : Bool := decide (i < l.length) && S.contains (at0 l i)
theorem has_any (l S : List UInt8) (i : Nat) (x : Int) (hx : x = (i : Int)) (w : World) (hl : l.length ≤ 16000) (hi : i ≤ 20000) :
    Calls Tryd.prog 56 #[.string ⟨l.toArray⟩, .int .i64 x, .string ⟨S.toArray⟩] w fun e w' => e = .returned (.bool (hasB l i S)) ∧ w = w' := by
  subst hx
  have HE := Lib.hid (show hasB l i S = (decide (i < l.length) && S.contains (at0 l i)) from rfl)
  have t0 : decide ((0 : Int) ≤ (i : Int)) = true := decide_eq_true (by omega)
  by_cases hlt : i < l.length
  · have t1 : decide ((i : Int) < (l.length : Int)) = true := decide_eq_true (by omega)
    have hsub := run_sub l i (i + 1) (by omega) (by omega) (i : Int) ((i : Int) + 1) rfl (by omega)
    rw [show (l.drop i).take (i + 1 - i) = [at0 l i] from by
      rw [show i + 1 - i = 1 by omega, drop_at l i hlt]
      rfl] at hsub
    rw [decide_eq_true hlt, Bool.true_and] at HE
    go_enter Tryd.func56, Tryd.ntmps56
    go_wp2_with fail
    refine (Tryd.strings_Contains_one ⟨S.toArray⟩ (at0 l i) w).mono ?_
    rintro e w1 ⟨rfl, rfl⟩
    go_wp2_with fail
    go_ret
    refine ⟨ret_bool ?_, rfl⟩
    rw [HE.out, contains_iff_indexByte]
  · have t1 : decide ((i : Int) < (l.length : Int)) = false := decide_eq_false (by omega)
    rw [decide_eq_false hlt, Bool.false_and] at HE
    go_enter Tryd.func56, Tryd.ntmps56
    go_wp2_with fail
    go_ret
    exact ⟨ret_bool HE.out.symm, rfl⟩

/-- the end of a run of bytes -/
theorem run_any (p : UInt8 → Bool) (S : List UInt8) (hS : ∀ c, S.contains c = p c) (l : List UInt8) (i : Nat) (x : Int) (hx : x = (i : Int)) (w : World) (hl : l.length ≤ 16000) (hi : i ≤ l.length + 2) :
    Calls Tryd.prog 55 #[.string ⟨l.toArray⟩, .int .i64 x, .string ⟨S.toArray⟩] w fun e w' => e = .returned (.int .i64 ((i + span p (l.drop i) : Nat) : Int)) ∧ w = w' := by
  subst hx
  have HC := Lib.hid (fun (k : Nat) (hk : k ≤ 20000) => has_any l S k (k : Int) rfl w hl hk)
  go_enter Tryd.func55, Tryd.ntmps55
  go_wp2_with fail
  go_loop [1] (fun v => ∃ k : Nat, i ≤ k ∧ k ≤ i + l.length ∧ k ≤ l.length + 2 ∧ v = .int .i64 (k : Int) ∧ k + span p (l.drop k) = i + span p (l.drop i)) (fun v => 40000 - (RowKit.intOf v).toNat)
  case atStart => exact ⟨i, Nat.le_refl _, by omega, hi, rfl, rfl⟩
  case round =>
    obtain ⟨k, hk1, hk2, hk4, rfl, hk3⟩ := hrel
    have H3 := Lib.hid hk3
    clear hk3
    go_wp2_with fail
    refine (HC.out k (by omega)).mono ?_
    rintro e w1 ⟨rfl, rfl⟩
    cases hh : hasB l k S
    · have hz : span p (l.drop k) = 0 := by
        unfold hasB at hh
        by_cases hlt : k < l.length
        · rw [decide_eq_true hlt, Bool.true_and, hS] at hh
          rw [span_at p l k hlt, hh]
          rfl
        · exact span_end p l k (by omega)
      have HZ := Lib.hid hz
      clear hh hz
      go_wp2_with fail
      go_ret
      refine ⟨ret_int ?_, rfl⟩
      have := H3.out
      rw [HZ.out] at this
      omega
    · unfold hasB at hh
      rw [Bool.and_eq_true, decide_eq_true_eq, hS] at hh
      obtain ⟨hlt, hp⟩ := hh
      have hz := span_at p l k hlt
      rw [hp, if_pos rfl] at hz
      have HZ := Lib.hid hz
      clear hp hz
      go_wp2_with fail
      go_round
      case rel => exact ⟨k + 1, by omega, by omega, by omega, by go_num, by have := H3.out; rw [HZ.out] at this; omega⟩
      case measure => simp [RowKit.intOf]; omega

end Go.Proofs.YtjoeojdciogcgaaDoor
