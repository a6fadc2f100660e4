/- The scanner's small functions: what they compute. Nothing is claimed here. -/
import Derived.Test.YtjoeojdciogcgaaDoorScanA
namespace Go.Proofs.YtjoeojdciogcgaaDoor
open Go.RowKit Go.Shelf Go.Lib Go.Maps

/-- fail throws its fault -/
theorem fail_any (p : Value) (c i : Int) (w : World) : Calls Tryd.prog 37 #[p, .int .i64 c, .int .i64 i] w fun e w' => e = .panicked [{ v := probV c i, recovered := false }] ∧ w = w' := by
  go_enter Tryd.func37, Tryd.ntmps37
  go_wp2
  exact ⟨rfl, rfl, rfl⟩

theorem isLet_n (c : UInt8) : isLet c = decide ((97 ≤ (c.toNat : Int) ∧ (c.toNat : Int) ≤ 122) ∨ (65 ≤ (c.toNat : Int) ∧ (c.toNat : Int) ≤ 90) ∨ (c.toNat : Int) = 95) := by
  rw [Bool.eq_iff_iff]
  unfold isLet
  simp only [Bool.or_eq_true, Bool.and_eq_true, decide_eq_true_eq, beq_iff_eq, UInt8.le_iff_toNat_le, ← UInt8.toNat_inj]
  simp
  omega
theorem isDig_n (c : UInt8) : isDig c = decide (48 ≤ (c.toNat : Int) ∧ (c.toNat : Int) ≤ 57) := by
  rw [Bool.eq_iff_iff]
  unfold isDig
  simp only [Bool.and_eq_true, decide_eq_true_eq, UInt8.le_iff_toNat_le]
  simp
  omega
theorem isBin_n (c : UInt8) : isBin c = decide ((c.toNat : Int) = 48 ∨ (c.toNat : Int) = 49) := by
  rw [Bool.eq_iff_iff]
  unfold isBin
  simp only [Bool.or_eq_true, decide_eq_true_eq, beq_iff_eq, ← UInt8.toNat_inj]
  simp
  omega
theorem isHex_n (c : UInt8) : isHex c = decide ((48 ≤ (c.toNat : Int) ∧ (c.toNat : Int) ≤ 57) ∨ (97 ≤ (c.toNat : Int) ∧ (c.toNat : Int) ≤ 102)) := by
  rw [Bool.eq_iff_iff]
  unfold isHex
  rw [Bool.or_eq_true, isDig_n]
  simp only [Bool.and_eq_true, decide_eq_true_eq, UInt8.le_iff_toNat_le]
  simp
  omega
theorem inLn_n (c : UInt8) : inLn c = ((c.toNat : Int) != 10) := by
  rw [Bool.eq_iff_iff]
  unfold inLn
  rw [bne_iff_ne, bne_iff_ne, ne_eq, ne_eq, ← UInt8.toNat_inj]
  simp
  omega

set_option maxHeartbeats 1000000 in
theorem letter_any (c : UInt8) (w : World) : Calls Tryd.prog 43 #[.int .u8 (c.toNat : Int)] w fun e w' => e = .returned (.bool (isLet c)) ∧ w = w' := by
  have HE := Lib.hid (isLet_n c)
  generalize isLet c = r at *
  generalize (c.toNat : Int) = n at *
  go_enter Tryd.func43, Tryd.ntmps43
  go_wp2
  all_goals
    go_ret
    refine ⟨ret_bool ?_, rfl⟩
    rw [HE.out, Bool.eq_iff_iff]
    simp only [Bool.or_eq_true, Bool.and_eq_true, decide_eq_true_eq, beq_iff_eq, true_iff] <;> first | omega | (simp <;> omega)
theorem digit_any (c : UInt8) (w : World) : Calls Tryd.prog 45 #[.int .u8 (c.toNat : Int)] w fun e w' => e = .returned (.bool (isDig c)) ∧ w = w' := by
  have HE := Lib.hid (isDig_n c)
  generalize isDig c = r at *
  generalize (c.toNat : Int) = n at *
  go_enter Tryd.func45, Tryd.ntmps45
  go_wp2
  all_goals
    go_ret
    refine ⟨ret_bool ?_, rfl⟩
    rw [HE.out, Bool.eq_iff_iff]
    simp only [Bool.or_eq_true, Bool.and_eq_true, decide_eq_true_eq, beq_iff_eq, true_iff] <;> first | omega | (simp <;> omega)
theorem number1_any (c : UInt8) (w : World) : Calls Tryd.prog 69 #[.int .u8 (c.toNat : Int)] w fun e w' => e = .returned (.bool (isBin c)) ∧ w = w' := by
  have HE := Lib.hid (isBin_n c)
  generalize isBin c = r at *
  generalize (c.toNat : Int) = n at *
  go_enter Tryd.func69, Tryd.ntmps69
  go_wp2
  all_goals
    go_ret
    refine ⟨ret_bool ?_, rfl⟩
    rw [HE.out, Bool.eq_iff_iff]
    simp only [Bool.or_eq_true, Bool.and_eq_true, decide_eq_true_eq, beq_iff_eq, true_iff] <;> first | omega | (simp <;> omega)
theorem inLine_any (p : Value) (c : UInt8) (w : World) : Calls Tryd.prog 64 #[p, .int .u8 (c.toNat : Int)] w fun e w' => e = .returned (.bool (inLn c)) ∧ w = w' := by
  have HE := Lib.hid (inLn_n c)
  generalize inLn c = r at *
  generalize (c.toNat : Int) = n at *
  go_enter Tryd.func64, Tryd.ntmps64
  go_wp2
  go_ret
  exact ⟨ret_bool HE.out.symm, rfl⟩
theorem name1_any (c : UInt8) (w : World) : Calls Tryd.prog 68 #[.int .u8 (c.toNat : Int)] w fun e w' => e = .returned (.bool (isWrd c)) ∧ w = w' := by
  have HE := Lib.hid (show isWrd c = (isLet c || isDig c) from rfl)
  have h1 := letter_any c
  have h2 := digit_any c
  have H1 := Lib.hid h1
  have H2 := Lib.hid h2
  clear h1 h2
  generalize isWrd c = r at *
  generalize isLet c = r1 at *
  generalize isDig c = r2 at *
  generalize (c.toNat : Int) = n at *
  go_enter Tryd.func68, Tryd.ntmps68
  go_wp2_with fail
  refine (H1.out _).mono ?_
  rintro e w1 ⟨rfl, rfl⟩
  cases r1
  · go_wp2_with fail
    refine (H2.out _).mono ?_
    rintro e w1 ⟨rfl, rfl⟩
    go_wp2_with fail
    go_ret
    exact ⟨ret_bool (by rw [HE.out, Bool.false_or]), rfl⟩
  · go_wp2_with fail
    go_ret
    exact ⟨ret_bool (by rw [HE.out, Bool.true_or]), rfl⟩
theorem number2_any (c : UInt8) (w : World) : Calls Tryd.prog 70 #[.int .u8 (c.toNat : Int)] w fun e w' => e = .returned (.bool (isHex c)) ∧ w = w' := by
  have HE := Lib.hid (isHex_n c)
  have HD := Lib.hid (isDig_n c)
  have h2 := digit_any c
  have H2 := Lib.hid h2
  clear h2
  generalize isHex c = r at *
  generalize isDig c = r2 at *
  generalize (c.toNat : Int) = n at *
  go_enter Tryd.func70, Tryd.ntmps70
  go_wp2_with fail
  refine (H2.out _).mono ?_
  rintro e w1 ⟨rfl, rfl⟩
  cases r2
  · have hd := HD.out
    have hd' : ¬ (48 ≤ n ∧ n ≤ 57) := of_decide_eq_false hd.symm
    have HDD := Lib.hid hd'
    clear hd hd'
    go_wp2_with fail
    all_goals
      go_ret
      refine ⟨ret_bool ?_, rfl⟩
      have hd := HDD.out
      rw [HE.out, Bool.eq_iff_iff]
      simp only [Bool.or_eq_true, Bool.and_eq_true, decide_eq_true_eq, beq_iff_eq, true_iff] <;> first | omega | (simp <;> omega)
  · have hd := HD.out
    have hd' : (48 ≤ n ∧ n ≤ 57) := of_decide_eq_true hd.symm
    have HDD := Lib.hid hd'
    clear hd hd'
    go_wp2_with fail
    go_ret
    refine ⟨ret_bool ?_, rfl⟩
    have hd := HDD.out
    rw [HE.out, decide_eq_true (by omega)]

/-- a byte of a string is read -/
theorem run_idx (l : List UInt8) (k : Nat) (h : k < l.length) (x : Int) (hx : x = (k : Int)) (W : World) : (Instr.index 9 (.string ⟨l.toArray⟩) (.int .i64 x)).run Tryd.prog W = .ok (.int .u8 ((at0 l k).toNat : Int)) W := by
  subst hx
  rw [run_index_string W 9 ⟨l.toArray⟩ .i64 _ Tryd.underlying9, dif_pos ⟨by omega, by simpa [ByteArray.size] using h⟩, at0_lt l k h]
  rfl
/-- a part of a string is taken -/
theorem run_sub (l : List UInt8) (i j : Nat) (h1 : i ≤ j) (h2 : j ≤ l.length) (x y : Int) (hx : x = (i : Int)) (hy : y = (j : Int)) (W : World) :
    (Instr.slice 9 (.string ⟨l.toArray⟩) (some (.int .i64 x)) (some (.int .i64 y)) none).run Tryd.prog W = .ok (.string ⟨((l.drop i).take (j - i)).toArray⟩) W := by
  subst hx hy
  rw [run_slice_string W 9 ⟨l.toArray⟩ .i64 .i64 _ _ Tryd.underlying9 (by omega) (by omega) (by simp [ByteArray.size]; omega), Int.toNat_natCast, Int.toNat_natCast, extract_sub]
theorem run_tail (l : List UInt8) (i : Nat) (h2 : i ≤ l.length) (x : Int) (hx : x = (i : Int)) (W : World) :
    (Instr.slice 9 (.string ⟨l.toArray⟩) (some (.int .i64 x)) none none).run Tryd.prog W = .ok (.string ⟨(l.drop i).toArray⟩) W := by
  subst hx
  rw [run_slice_string_from_if W 9 ⟨l.toArray⟩ .i64 _ Tryd.underlying9, if_pos ⟨by omega, by simp [ByteArray.size]; omega⟩, Int.toNat_natCast, extract_from _ _ _ (by simp [ByteArray.size])]

/-- peek reads a byte -/
theorem peek_any {w : World} {B g : Nat} {l : List UInt8} {at_ : Nat} {ind : List Nat} {op : List UInt8} {ts : List Tok} {vi vo vt : Value} {m : Nat} {vs : Value} (h : Sc w B g l at_ ind op ts vi vo vt m vs) (n : Nat) (hl : l.length ≤ 16000) (ha : at_ ≤ l.length) (hn : n ≤ 2) :
    Calls Tryd.prog 36 #[.pointer (some ⟨g, 0, none⟩), .int .i64 (n : Int)] w fun e w' => e = .returned (.int .u8 ((at0 l (at_ + n)).toNat : Int)) ∧ ∃ k, w' = w.drewN k := by
  obtain ⟨q1, q2, q3⟩ := h.blk.rules
  unfold scCells at q1
  have e1 : IntKind.i64.wrap ((at_ : Int) + (n : Int)) = (at_ : Int) + (n : Int) := IntWalk.i64_in _ (by omega)
  by_cases hlt : at_ + n < l.length
  · have d2 : decide ((at_ : Int) + (n : Int) < (l.length : Int)) = true := decide_eq_true (by omega)
    have hix := run_idx l (at_ + n) hlt ((at_ : Int) + (n : Int)) (by omega)
    clear h
    go_enter Tryd.func36, Tryd.ntmps36
    go_wp2_with fail
    go_quiet (fail)
    go_wp2_with fail
    go_quiet (fail)
    go_wp2_with fail
    go_ret
    exact ⟨rfl, _, World.drewN_drewN _ _ _⟩
  · have hb := at0_ge l (at_ + n) (by omega)
    have HB := Lib.hid hb
    have d2 : decide ((at_ : Int) + (n : Int) < (l.length : Int)) = false := decide_eq_false (by omega)
    clear hb h
    go_enter Tryd.func36, Tryd.ntmps36
    go_wp2_with fail
    go_quiet (fail)
    go_wp2_with fail
    go_ret
    exact ⟨by rw [HB.out]; rfl, _, rfl⟩

end Go.Proofs.YtjoeojdciogcgaaDoor
