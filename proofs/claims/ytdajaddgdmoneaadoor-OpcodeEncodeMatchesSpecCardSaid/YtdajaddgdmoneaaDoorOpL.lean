/- The law on encoding: the walk. -/
import Derived.Test.YtdajaddgdmoneaaDoorOpH
namespace Go.Proofs.YtdajaddgdmoneaaDoor
open Go.RowKit
set_option linter.unusedVariables false

theorem names80 (w : World) : Calls Tryd.prog 12 #[] w fun e w' => ∃ A c, e = .returned (.slice A 80 c) ∧ Row w' A (strs nameL) ∧ Below w.heap.size w w' := by
  refine (names_any w).mono ?_
  rintro e w' ⟨A, c, he, hr, hb⟩
  rw [nameL_len] at he
  exact ⟨A, c, he, hr, hb⟩
theorem strings80 (A B : Option Addr) (c d : Nat) (w : World) (ha : Row w A (strs nameL)) (hb : Row w B (strs nameL)) :
    Calls Tryd.prog 11 #[.slice A 80 c, .slice B 80 d] w fun e w' => e = .returned (.bool true) ∧ Below w.heap.size w w' := by
  have := strings_same A B c d nameL w (by rw [nameL_len]; decide) ha hb
  rwa [nameL_len] at this
theorem cnt_opc (n : Int) : cnt lettersL n = opc n := by
  unfold cnt opc
  rw [letters_len]
  by_cases h : 0 ≤ n ∧ n < 80
  · rw [if_pos h, if_pos (by exact h)]
    obtain ⟨k, rfl⟩ := Int.eq_ofNat_of_zero_le h.1
    have hk : k < lettersL.length := by rw [letters_len]; omega
    rw [Int.toNat_natCast, letters_opk (q := k) (List.getElem?_eq_getElem hk), List.getD_eq_getElem?_getD, List.getElem?_eq_getElem hk, Option.getD_some]
  · rw [if_neg h, if_neg (by exact h)]
theorem count80 (A : Option Addr) (c : Nat) (n : Int) (w : World) (hr : Row w A (strs lettersL)) :
    Calls Tryd.prog 14 #[.slice A 80 c, .int .i64 n] w fun e w' => e = .returned (.int .i64 (opc n)) ∧ w = w' := by
  have := count_any A c lettersL n w hr
  rwa [letters_len, cnt_opc] at this

def EncAt (B : List Int) (fc fi : Int) (w : World) (e : Ending) (w' : World) : Prop :=
  ∃ A c, e = .returned (.tuple #[.slice A B.length c, .agg #[.int .i64 fc, .int .i64 fi]]) ∧ Row w' A (bcs B) ∧ Below w.heap.size w w'
theorem encAt {l : List Ins} {B : List Int} {fc fi : Int} {w : World} {e : Ending} {w' : World} (hf : Hid (encFault l = (fc, fi))) (hB : Hid (encOut l = B)) (h : EncPost l w e w') : EncAt B fc fi w e w' := by
  obtain ⟨A, c, h1, h2, h3⟩ := h
  rw [hf.out, hB.out] at h1
  rw [hB.out] at h2
  exact ⟨A, c, h1, h2, h3⟩

set_option maxRecDepth 100000 in
set_option maxHeartbeats 4000000 in
theorem lawEncode_bad (A : Option Addr) (c : Nat) (l : List Ins) (op : Int) (B : List Int) (fc fi : Int) (w : World) (hl : l.length ≤ 9223372036854775807) (HM : Hid (Row w A (l.flatMap insc))) (HV : Hid (Env w)) (hf : Hid (encFault l = (fc, fi))) (hB : Hid (encOut l = B)) (hBl : B.length ≤ 9223372036854775807) (hfc : (fc != 0) = true) :
    Calls Tryd.prog 4 #[.slice A l.length c, .int .i64 op] w fun e w' => e = .returned (.bool true) ∧ Below w.heap.size w w' := by
  go_enter Tryd.func4, Tryd.ntmps4
  go_wp2_with fail
  refine (instructions_any _ HV.out).mono ?_
  rintro e w1 ⟨An, cn, Al, cl, rfl, hrn, hrl, hb1⟩
  go_wp2_with fail
  refine (names80 _).mono ?_
  rintro e w2 ⟨A2, c2, rfl, hr2, hb2⟩
  go_wp2_with fail
  refine (strings80 _ _ _ _ _ hr2 (hrn.keepB hb2)).mono ?_
  rintro e w3 ⟨rfl, hb3⟩
  have hb13 := below_then hb2 hb3 hb2.size
  clear hrn hr2
  go_wp2_with fail
  refine (operands_all _ _).mono ?_
  rintro e w4 ⟨rfl, hb4⟩
  have hb14 := below_then hb13 hb4 hb13.size
  go_wp2_with fail
  refine (count80 _ _ _ _ (hrl.keepB hb14)).mono ?_
  rintro e w5 ⟨rfl, rfl⟩
  have hbw4 := below_then hb1 hb14 hb1.size
  clear hb1 hb2 hb3 hb4 hb13 hb14 hrl
  go_wp2_with fail
  refine (encode_any A c l _ hl (HM.out.keepB hbw4)).mono ?_
  intro e w6 h6
  obtain ⟨A6, c6, rfl, hr6, hb6⟩ := encAt hf hB h6
  clear h6
  have hbw6 := below_then hbw4 hb6 hbw4.size
  have hbw6' := hbw6.alloc hbw6.size (.cells #[.int .i64 fc, .int .i64 fi] 25)
  have HB6 := Lib.hid (Blk.new w6 25 #[.int .i64 fc, .int .i64 fi])
  have HR6 := Lib.hid (hr6.keepB ((Below.refl _ _).alloc (Nat.le_refl _) (.cells #[.int .i64 fc, .int .i64 fi] 25)))
  clear hr6 hb6 hbw4 hbw6
  go_wp2_with fail
  refine (encoded_any A c l _ hl (HM.out.keepB hbw6') (HV.out.keepB hbw6')).mono ?_
  intro e w7 h7
  obtain ⟨A7, c7, rfl, hr7, hb7⟩ := encAt hf hB h7
  clear h7
  have hbw7 := below_then hbw6' hb7 hbw6'.size
  have hbw7' := hbw7.alloc hbw7.size (.cells #[.int .i64 fc, .int .i64 fi] 25)
  have hB7 := Blk.new w7 25 #[.int .i64 fc, .int .i64 fi]
  have hk7 : Below w7.heap.size w7 (w7.alloc (.cells #[.int .i64 fc, .int .i64 fi] 25)) := (Below.refl _ _).alloc (Nat.le_refl _) _
  have hB67 := (HB6.out.belowS hb7).alloc (.cells #[.int .i64 fc, .int .i64 fi] 25)
  have hr67 := (HR6.out.keepB hb7).keepB hk7
  have hr77 := hr7.keepB hk7
  obtain ⟨p1, p2, p3⟩ := hB7.rules
  obtain ⟨q1, q2, q3⟩ := hB67.rules
  clear HB6 HR6 hr7 hb7 hbw7 hbw6'
  go_wp2_with fail
  refine (eqBytes_same _ _ _ _ B _ hBl hr67 hr77).mono ?_
  rintro e w8 ⟨rfl, hb8⟩
  have hbw8 := below_then hbw7' hb8 hbw7'.size
  have hB8 := hB67.belowS hb8
  have hr8 := hr67.keepB hb8
  clear p1 p2 p3 q1 q2 q3 hB7 hB67 hr67 hr77 hk7 hbw7' hb8
  obtain ⟨q1, q2, q3⟩ := hB8.rules
  go_wp2_with fail
  go_ret
  exact ⟨rfl, hbw8⟩

set_option maxRecDepth 100000 in
set_option maxHeartbeats 4000000 in
theorem lawEncode_ok (A : Option Addr) (c : Nat) (l : List Ins) (op : Int) (B : List Int) (fc fi : Int) (w : World) (hl : l.length ≤ 9223372036854775807) (HM : Hid (Row w A (l.flatMap insc))) (HV : Hid (Env w)) (hf : Hid (encFault l = (fc, fi))) (hB : Hid (encOut l = B)) (hBl : B.length ≤ 9223372036854775807) (hf0 : Hid (encFault l = (0, 0))) (hB0 : Hid (B = encB l)) (hfc : (fc != 0) = false) :
    Calls Tryd.prog 4 #[.slice A l.length c, .int .i64 op] w fun e w' => e = .returned (.bool true) ∧ Below w.heap.size w w' := by
  go_enter Tryd.func4, Tryd.ntmps4
  go_wp2_with fail
  refine (instructions_any _ HV.out).mono ?_
  rintro e w1 ⟨An, cn, Al, cl, rfl, hrn, hrl, hb1⟩
  go_wp2_with fail
  refine (names80 _).mono ?_
  rintro e w2 ⟨A2, c2, rfl, hr2, hb2⟩
  go_wp2_with fail
  refine (strings80 _ _ _ _ _ hr2 (hrn.keepB hb2)).mono ?_
  rintro e w3 ⟨rfl, hb3⟩
  have hb13 := below_then hb2 hb3 hb2.size
  clear hrn hr2
  go_wp2_with fail
  refine (operands_all _ _).mono ?_
  rintro e w4 ⟨rfl, hb4⟩
  have hb14 := below_then hb13 hb4 hb13.size
  go_wp2_with fail
  refine (count80 _ _ _ _ (hrl.keepB hb14)).mono ?_
  rintro e w5 ⟨rfl, rfl⟩
  have hbw4 := below_then hb1 hb14 hb1.size
  clear hb1 hb2 hb3 hb4 hb13 hb14 hrl
  go_wp2_with fail
  refine (encode_any A c l _ hl (HM.out.keepB hbw4)).mono ?_
  intro e w6 h6
  obtain ⟨A6, c6, rfl, hr6, hb6⟩ := encAt hf hB h6
  clear h6
  have hbw6 := below_then hbw4 hb6 hbw4.size
  have hbw6' := hbw6.alloc hbw6.size (.cells #[.int .i64 fc, .int .i64 fi] 25)
  have HB6 := Lib.hid (Blk.new w6 25 #[.int .i64 fc, .int .i64 fi])
  have HR6 := Lib.hid (hr6.keepB ((Below.refl _ _).alloc (Nat.le_refl _) (.cells #[.int .i64 fc, .int .i64 fi] 25)))
  clear hr6 hb6 hbw4 hbw6
  go_wp2_with fail
  refine (encoded_any A c l _ hl (HM.out.keepB hbw6') (HV.out.keepB hbw6')).mono ?_
  intro e w7 h7
  obtain ⟨A7, c7, rfl, hr7, hb7⟩ := encAt hf hB h7
  clear h7
  have hbw7 := below_then hbw6' hb7 hbw6'.size
  have hbw7' := hbw7.alloc hbw7.size (.cells #[.int .i64 fc, .int .i64 fi] 25)
  have hB7 := Blk.new w7 25 #[.int .i64 fc, .int .i64 fi]
  have hk7 : Below w7.heap.size w7 (w7.alloc (.cells #[.int .i64 fc, .int .i64 fi] 25)) := (Below.refl _ _).alloc (Nat.le_refl _) _
  have hB67 := (HB6.out.belowS hb7).alloc (.cells #[.int .i64 fc, .int .i64 fi] 25)
  have hr67 := (HR6.out.keepB hb7).keepB hk7
  have hr77 := hr7.keepB hk7
  obtain ⟨p1, p2, p3⟩ := hB7.rules
  obtain ⟨q1, q2, q3⟩ := hB67.rules
  clear HB6 HR6 hr7 hb7 hbw7 hbw6'
  go_wp2_with fail
  refine (eqBytes_same _ _ _ _ B _ hBl hr67 hr77).mono ?_
  rintro e w8 ⟨rfl, hb8⟩
  have hbw8 := below_then hbw7' hb8 hbw7'.size
  have hB8 := hB67.belowS hb8
  have hr8 := hr67.keepB hb8
  clear p1 p2 p3 q1 q2 q3 hB7 hB67 hr67 hr77 hk7 hbw7' hb8
  obtain ⟨q1, q2, q3⟩ := hB8.rules
  go_wp2_with fail
  rw [hB0.out] at hr8 ⊢
  refine (decode_ok _ _ l _ hr8 hf0).mono ?_
  rintro e w9 ⟨A9, c9, rfl, hr9, hb9⟩
  have hbw9 := below_then hbw8 hb9 hbw8.size
  have hbw9' := hbw9.alloc hbw9.size (.cells #[.int .i64 0, .int .i64 0] 25)
  have hr9' := hr9.keepB ((Below.refl _ _).alloc (Nat.le_refl _) (.cells #[.int .i64 0, .int .i64 0] 25))
  clear q1 q2 q3 hr9 hb9 hbw9 hB8 hr8
  obtain ⟨q1, q2, q3⟩ := (Blk.new w9 25 #[.int .i64 0, .int .i64 0]).rules
  unfold aggF
  go_wp2_with fail
  refine (eqInstrs_same _ _ _ _ l _ hl (HM.out.keepB hbw9') hr9').mono ?_
  rintro e w10 ⟨rfl, hb10⟩
  go_wp2_with fail
  go_ret
  exact ⟨rfl, below_then hbw9' hb10 hbw9'.size⟩

theorem encF_ne : ∀ (l : List Ins) (i : Nat), encF i l = (0, 0) ∨ (encF i l).1 ≠ 0
  | [], _ => .inl rfl
  | x :: l, i => by
    rw [encF]
    split
    · split
      · exact encF_ne l (i + 1)
      · exact .inr (by simp)
    · exact .inr (by simp)
theorem encFault_ne (l : List Ins) : encFault l = (0, 0) ∨ (encFault l).1 ≠ 0 := by
  unfold encFault
  split
  · exact .inr (by simp)
  · exact encF_ne l 0

theorem lawEncode_any (A : Option Addr) (c : Nat) (l : List Ins) (op : Int) (w : World) (hl : l.length ≤ 9223372036854775807) (hm : Row w A (l.flatMap insc)) (hv : Env w) :
    Calls Tryd.prog 4 #[.slice A l.length c, .int .i64 op] w fun e w' => e = .returned (.bool true) ∧ Below w.heap.size w w' := by
  rcases encFault_ne l with h | h
  · have e : encOut l = encB l := by rw [encOut, h, if_pos rfl]
    obtain ⟨h60, _⟩ := encFault_ok h
    have := encB_len l
    exact lawEncode_ok A c l op (encB l) 0 0 w hl (Lib.hid hm) (Lib.hid hv) (Lib.hid h) (Lib.hid e) (by omega) (Lib.hid h) (Lib.hid rfl) rfl
  · have e : encOut l = [] := by rw [encOut, if_neg h]
    exact lawEncode_bad A c l op [] (encFault l).1 (encFault l).2 w hl (Lib.hid hm) (Lib.hid hv) (Lib.hid rfl) (Lib.hid e) (by simp) (by simpa using h)

end Go.Proofs.YtdajaddgdmoneaaDoor
