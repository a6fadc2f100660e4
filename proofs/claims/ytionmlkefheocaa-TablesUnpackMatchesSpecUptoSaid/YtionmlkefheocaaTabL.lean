/- The law on tables of lines: the walk. -/
import Derived.Test.YtionmlkefheocaaTabP
import Derived.Deep.DeepCutAuto
namespace Go.Proofs.Ytionmlkefheocaa
open Go.RowKit
set_option linter.unusedVariables false

theorem marksFault_at (A : Option Addr) (c : Nat) (l : List Mark) (fc fi : Int) (w : World) (hl : l.length ≤ 9223372036854775807) (hm : Row w A (l.flatMap mkc)) (hf : Hid (marksFault l = (fc, fi))) :
    Calls Try.prog 9 #[.slice A l.length c] w fun e w' => e = .returned (.agg #[.int .i64 fc, .int .i64 fi]) ∧ Below w.heap.size w w' := by
  have := marksFault_any A c l w hl hm
  rw [hf.out] at this
  exact this

set_option maxRecDepth 100000 in
set_option maxHeartbeats 2000000 in
theorem lawLines_bad (A : Option Addr) (c : Nat) (l : List Mark) (a fc fi : Int) (w : World) (hl : l.length ≤ 9223372036854775807) (hm : Row w A (l.flatMap mkc)) (hf : Hid (marksFault l = (fc, fi))) (hfc : (fc == 0) = false) (hfc2 : (fc != 0) = true) :
    Calls Try.prog 3 #[.slice A l.length c, .int .i64 a] w fun e w' => e = .returned (.bool true) ∧ Below w.heap.size w w' := by
  go_enter Try.func3, Try.ntmps3
  go_wp2_with fail
  refine (line_bad _ _ _ a fc fi _ hl hm hf hfc).mono ?_
  rintro e w1 ⟨rfl, hb1⟩
  have hB1 := Blk.new w1 24 #[.int .i64 fc, .int .i64 fi]
  have hb1' := hb1.alloc hb1.size (.cells #[.int .i64 fc, .int .i64 fi] 24)
  have HB1 := Lib.hid hB1
  clear hB1
  go_wp2_with fail
  refine (merge_bad _ _ _ a fc fi _ hl (hm.keepB hb1') hf hfc).mono ?_
  rintro e w2 ⟨rfl, hb2⟩
  have hb2' := below_then hb1' hb2 hb1'.size
  have hb2'' := hb2'.alloc hb2'.size (.cells #[.int .i64 fc, .int .i64 fi] 24)
  have HB2 := Lib.hid (Blk.new w2 24 #[.int .i64 fc, .int .i64 fi])
  have HB12 := Lib.hid ((HB1.out.belowS hb2).alloc (.cells #[.int .i64 fc, .int .i64 fi] 24))
  go_wp2_with fail
  refine (packLines_bad _ _ _ a fc fi _ hl (hm.keepB hb2'') hf hfc).mono ?_
  rintro e w3 ⟨rfl, hb3⟩
  have hb3' := below_then hb2'' hb3 hb2''.size
  have hb3'' := hb3'.alloc hb3'.size (.cells #[.int .i64 fc, .int .i64 fi] 24)
  have HB3 := Lib.hid (Blk.new w3 24 #[.int .i64 fc, .int .i64 fi])
  have HB13 := Lib.hid ((HB12.out.belowS hb3).alloc (.cells #[.int .i64 fc, .int .i64 fi] 24))
  have HB23 := Lib.hid ((HB2.out.belowS hb3).alloc (.cells #[.int .i64 fc, .int .i64 fi] 24))
  go_wp2_with fail
  refine (marksFault_at _ _ _ fc fi _ hl (hm.keepB hb3'') hf).mono ?_
  rintro e w4 ⟨rfl, hb4⟩
  have hb4' := below_then hb3'' hb4 hb3''.size
  obtain ⟨p1, p2, p3⟩ := (HB13.out.belowS hb4).rules
  obtain ⟨q1, q2, q3⟩ := (HB23.out.belowS hb4).rules
  obtain ⟨r1, r2, r3⟩ := (HB3.out.belowS hb4).rules
  go_wp2_with fail
  go_ret
  exact ⟨rfl, hb4'.alloc hb4'.size _⟩

theorem lineRes_bad {l : List Mark} {a : Int} (h : a < 0 ∨ 60000 ≤ a) : lineRes l a = (0, 4, -2) := by rw [lineRes, if_pos h]
theorem lineRes_none {l : List Mark} {a : Int} (h : ¬ (a < 0 ∨ 60000 ≤ a)) (h0 : l.length = 0) : lineRes l a = (0, 12, -2) := by rw [lineRes, if_neg h, if_pos h0]
theorem lineRes_ok {l : List Mark} {a : Int} (h : ¬ (a < 0 ∨ 60000 ≤ a)) (h0 : l.length ≠ 0) : lineRes l a = (lineAt a l 0, 0, 0) := by rw [lineRes, if_neg h, if_neg h0]
theorem line_at (A : Option Addr) (c : Nat) (l : List Mark) (a v x y : Int) (w : World) (hm : Row w A (l.flatMap mkc)) (hf : Hid (marksFault l = (0, 0))) (h : Hid (lineRes l a = (v, x, y))) :
    Calls Try.prog 6 #[.slice A l.length c, .int .i64 a] w fun e w' => e = .returned (.tuple #[.int .i64 v, .agg #[.int .i64 x, .int .i64 y]]) ∧ Below w.heap.size w w' := by
  have := line_ok A c l a w hm hf
  rw [h.out] at this
  exact this

theorem unpack_at (A : Option Addr) (c : Nat) (b : List Int) (l : List Mark) (x y : Int) (w : World) (hl : b.length ≤ 10000000) (hby : ∀ x ∈ b, 0 ≤ x ∧ x ≤ 255) (hA : Row w A (bcs b)) (h : Hid (unpackL b = (l, (x, y)))) :
    Calls Try.prog 14 #[.slice A b.length c] w fun e w' => ∃ A' c', e = .returned (.tuple #[.slice A' l.length c', .agg #[.int .i64 x, .int .i64 y]]) ∧ Row w' A' (l.flatMap mkc) ∧ Below w.heap.size w w' := by
  have := unpackLines_any A c b w hl hby hA
  rw [h.out] at this
  exact this



set_option maxRecDepth 100000 in
set_option maxHeartbeats 4000000 in
theorem lawLines_ok (A : Option Addr) (c : Nat) (l : List Mark) (a : Int) (w : World) (hm : Row w A (l.flatMap mkc)) (hf : Hid (marksFault l = (0, 0))) :
    Calls Try.prog 3 #[.slice A l.length c, .int .i64 a] w fun e w' => e = .returned (.bool true) ∧ Below w.heap.size w w' := by
  obtain ⟨hok, hl⟩ := okL_marks hf.out
  have hpl := (pack_bd hf.out).2
  have hml := merge_len l none
  by_cases hr : a < 0 ∨ 60000 ≤ a
  · have Hres := Lib.hid (lineRes_bad (l := l) hr)
    rcases hr with hr | hr
    all_goals
      go_enter Try.func3, Try.ntmps3
      go_wp2_with fail
      refine (line_at _ _ _ a 0 4 (-2) _ hm hf Hres).mono ?_
      rintro e w1 ⟨rfl, hb1⟩
      have hb1' := hb1.alloc hb1.size (.cells #[.int .i64 4, .int .i64 (-2)] 24)
      have HB1 := Lib.hid (Blk.new w1 24 #[.int .i64 4, .int .i64 (-2)])
      go_wp2_with fail
      refine (merge_ok _ _ _ _ (hm.keepB hb1') hf).mono ?_
      rintro e w2 ⟨Am, cm, rfl, hrm, hb2⟩
      have hb2' := below_then hb1' hb2 hb1'.size
      have hb2'' := hb2'.alloc hb2'.size (.cells #[.int .i64 0, .int .i64 0] 24)
      have HB2 := Lib.hid (Blk.new w2 24 #[.int .i64 0, .int .i64 0])
      have HB12 := Lib.hid ((HB1.out.belowS hb2).alloc (.cells #[.int .i64 0, .int .i64 0] 24))
      have HR2 := Lib.hid (hrm.keepB ((Below.refl _ _).alloc (Nat.le_refl _) (.cells #[.int .i64 0, .int .i64 0] 24)))
      clear hrm
      go_wp2_with fail
      refine (packLines_ok _ _ _ _ (hm.keepB hb2'') hf).mono ?_
      rintro e w3 ⟨Ab, cb, rfl, hrb, hb3⟩
      have hb3' := below_then hb2'' hb3 hb2''.size
      have hb3'' := hb3'.alloc hb3'.size (.cells #[.int .i64 0, .int .i64 0] 24)
      have HB3 := Lib.hid (Blk.new w3 24 #[.int .i64 0, .int .i64 0])
      have HB13 := Lib.hid ((HB12.out.belowS hb3).alloc (.cells #[.int .i64 0, .int .i64 0] 24))
      have HB23 := Lib.hid ((HB2.out.belowS hb3).alloc (.cells #[.int .i64 0, .int .i64 0] 24))
      have HR3 := Lib.hid ((HR2.out.keepB hb3).keepB ((Below.refl _ _).alloc (Nat.le_refl _) (.cells #[.int .i64 0, .int .i64 0] 24)))
      have HP3 := Lib.hid (hrb.keepB ((Below.refl _ _).alloc (Nat.le_refl _) (.cells #[.int .i64 0, .int .i64 0] 24)))
      clear hrb
      go_wp2_with fail
      refine (marksFault_at _ _ _ 0 0 _ (by omega) (hm.keepB hb3'') hf).mono ?_
      rintro e w4 ⟨rfl, hb4⟩
      have hb4' := below_then hb3'' hb4 hb3''.size
      have hrm := HR3.out.keepB hb4
      have hrb := HP3.out.keepB hb4
      have hB1 := HB13.out.belowS hb4
      have hB2 := HB23.out.belowS hb4
      have hB3 := HB3.out.belowS hb4
      clear HB1 HB12 HB13 HB2 HB23 HB3 HR2 HR3 HP3 hb1 hb1' hb2 hb2' hb2'' hb3 hb3' hb3'' hb4
      obtain ⟨p1, p2, p3⟩ := hB1.rules
      obtain ⟨q1, q2, q3⟩ := hB2.rules
      obtain ⟨r1, r2, r3⟩ := hB3.rules
      have hbA0 : Below w.heap.size w ((w4.alloc (.cells #[.int .i64 0, .int .i64 0] 24)).alloc (.cells #[.int .i64 0, .int .i64 0] 24)) := (hb4'.alloc hb4'.size _).alloc (by have := hb4'.size; simp; omega) _
      have hbB0 : Below w4.heap.size w4 ((w4.alloc (.cells #[.int .i64 0, .int .i64 0] 24)).alloc (.cells #[.int .i64 0, .int .i64 0] 24)) := ((Below.refl _ _).alloc (Nat.le_refl _) _).alloc (by simp) _
      go_wp2_with fail
      refine (at_any 4 (-2) _).mono ?_
      rintro e w5 ⟨rfl, hb5⟩
      have hbA1 := below_then hbA0 hb5 hbA0.size
      have hbB1 := below_then hbB0 hb5 hbB0.size
      have hBw : Blk w5 (w4.heap.size + 1) 24 #[.int .i64 0, .int .i64 0] := by
        have := (Blk.new (w4.alloc (.cells #[.int .i64 0, .int .i64 0] 24)) 24 #[.int .i64 0, .int .i64 0]).belowS hb5
        simpa using this
      obtain ⟨t1, t2, t3⟩ := hBw.rules
      obtain ⟨v1, v2, v3⟩ := (hB1.belowS hbB1).rules
      have hsA := hbA1.size
      have n1 : ¬ w1.heap.size = w4.heap.size + 1 := by omega
      have n2 : ¬ w2.heap.size = w4.heap.size + 1 := by omega
      have n3 : ¬ w3.heap.size = w4.heap.size + 1 := by omega
      have hbA' : Below w.heap.size w ((w5.setCell ⟨w4.heap.size + 1, 0, none⟩ (.int .i64 4)).setCell ⟨w4.heap.size + 1, 1, none⟩ (.int .i64 (-2))) := (hbA1.setCell (by have := hb4'.size; simp; omega) _).setCell (by have := hb4'.size; simp; omega) _
      have hbB' : Below w4.heap.size w4 ((w5.setCell ⟨w4.heap.size + 1, 0, none⟩ (.int .i64 4)).setCell ⟨w4.heap.size + 1, 1, none⟩ (.int .i64 (-2))) := (hbB1.setCell (by simp) _).setCell (by simp) _
      have hbA := hbA0
      have hbB := hbB0
      clear hbA0 hbB0 hbA1 hbB1
      clear hbA hbB hb5
      have hB2' := hB2.belowS hbB'
      have hB3' := hB3.belowS hbB'
      have hrm' := hrm.keepB hbB'
      have hrb' := hrb.keepB hbB'
      clear p1 p2 p3 q1 q2 q3 r1 r2 r3 hB1 hB2 hB3 hrm hrb hbB'
      obtain ⟨q1, q2, q3⟩ := hB2'.rules
      obtain ⟨r1, r2, r3⟩ := hB3'.rules
      go_wp2_with fail
      refine (packedMarks_any A c l _ (hm.keepB hbA') hf).mono ?_
      rintro e w6 ⟨Ap, cp, rfl, hrp, hb6⟩
      go_wp2_with fail
      refine (eqBytes_any Ab Ap cb cp _ _ _ (by omega) (by omega) (hrb'.keepB hb6) hrp).mono ?_
      rintro e w7 ⟨rfl, hb7⟩
      rw [decide_eq_true rfl]
      have hb67 := below_then hb6 hb7 hb6.size
      have hrm7 := hrm'.keepB hb67
      have hrb7 := hrb'.keepB hb67
      have hb7' := below_then hbA' hb67 hbA'.size
      have hm7 := hm.keepB hb7'
      clear hrm' hrb' hbA' hb6 hb7 hb67 q1 q2 q3 r1 r2 r3 hB2' hB3' hrp hb4'
      go_wp2_with fail
      go_loopw [117] (fun i wr => ∃ k : Nat, k ≤ (mergeGo none l).length ∧ i = .int .i64 k ∧ Below w7.heap.size w7 wr) (fun i _ => (mergeGo none l).length - (intOf i).toNat)
      case atStart => exact ⟨0, Nat.zero_le _, rfl, Below.refl _ _⟩
      case round =>
        obtain ⟨k, hk, rfl, hbr⟩ := hrel
        by_cases hlt : k < (mergeGo none l).length
        · obtain ⟨b, off, rfl, had, h1, h2⟩ := (hrm7.keepB hbr).mark hlt
          by_cases hk0 : k = 0
          · subst hk0
            simp only [Nat.zero_mul, Nat.add_zero] at h1 h2
            go_wp2_with fail
            go_quiet (fail)
            go_wp2_with fail
            go_roundw
            case rel => exact ⟨1, by omega, rfl, below_drewN (hbr.alloc hbr.size _) _⟩
            case measure => simp [intOf]; omega
          · obtain ⟨j, rfl⟩ : ∃ j, k = j + 1 := ⟨k - 1, by omega⟩
            obtain ⟨b', off', hab, _, h3, h4⟩ := (hrm7.keepB hbr).mark (show j < (mergeGo none l).length by omega)
            obtain ⟨rfl, rfl⟩ : b = b' ∧ off = off' := by simpa using hab
            clear hab hk0
            have hadj := merge_adj l none j hlt
            have hq : ((mergeGo none l)[j + 1].2 == (mergeGo none l)[j].2) = false := by simpa using hadj
            have hj2 : IntKind.i64.wrap (j : Int) = j := IntWalk.i64_in _ (by omega)
            have hj3 : IntKind.i64.wrap ((j : Int) + 1 - 1) = j := by rw [Int.add_sub_cancel]; exact hj2
            have hj4 : (j : Int) < (mergeGo none l).length := by omega
            clear hadj
            go_wp2_with fail
            go_quiet (fail)
            clear hj2 hj3
            go_wp2_with fail
            go_roundw
            case rel => exact ⟨j + 1 + 1, by omega, by go_num, below_drewN (hbr.alloc hbr.size _) _⟩
            case measure => simp [intOf]; omega
        · have hbw := below_then hb7' hbr hb7'.size
          have hrmx := hrm7.keepB hbr
          have hrbx := hrb7.keepB hbr
          clear hbr hrm7 hrb7 hb7' hm7
          obtain ⟨w8, rfl⟩ : ∃ w8 : World, w8 = wr := ⟨_, rfl⟩
          go_wp2_with fail
          go_loopw [138] (fun i wr => ∃ k : Nat, k ≤ l.length ∧ i = .int .i64 k ∧ Below w8.heap.size w8 wr) (fun i _ => l.length - (intOf i).toNat)
          case atStart => exact ⟨0, Nat.zero_le _, rfl, Below.refl _ _⟩
          case round =>
            obtain ⟨q, hq, rfl, hbr⟩ := hrel
            have hbo := below_then hbw hbr hbw.size
            by_cases hql : q < l.length
            · obtain ⟨b, off, rfl, had, h1, h2⟩ := (hm.keepB hbo).mark hql
              obtain ⟨_, g1, g2, _, _⟩ := okL_get l _ hok q hql
              obtain ⟨wo, rfl⟩ : ∃ wo : World, wo = wr := ⟨_, rfl⟩
              obtain ⟨X, hX⟩ : ∃ X : World, X = (wo.alloc (.cells #[.int .i64 l[q].1, .int .i64 l[q].2] 38)).alloc (.cells #[.int .i64 (l[q].1 - 1), .int .i64 l[q].1] 3) := ⟨_, rfl⟩
              have HX := Lib.hid hX
              have hXb : Blk X (wo.heap.size + 1) 3 #[.int .i64 (l[q].1 - 1), .int .i64 l[q].1] := by
                rw [hX]; simpa using Blk.new (wo.alloc (.cells #[.int .i64 l[q].1, .int .i64 l[q].2] 38)) 3 #[.int .i64 (l[q].1 - 1), .int .i64 l[q].1]
              have hXo : Below wo.heap.size wo X := by
                rw [hX]; exact ((Below.refl _ _).alloc (Nat.le_refl _) _).alloc (by simp) _
              clear hX
              have HXb := Lib.hid hXb
              clear hXb
              go_wp2_with fail
              rw [← HX.out]
              go_loopw [149] (fun i wr => ∃ j : Nat, j ≤ 2 ∧ i = .int .i64 j ∧ Below X.heap.size X wr) (fun i _ => 2 - (intOf i).toNat)
              case atStart => exact ⟨0, by omega, rfl, Below.refl _ _⟩
              case round =>
                obtain ⟨j, hj, rfl, hbi⟩ := hrel
                have hbx := below_then hXo hbi hXo.size
                have hby := below_then hbo hbx hbo.size
                have hml' := (hrmx.keepB hbr).keepB hbx
                have hll' := hm.keepB hby
                obtain ⟨s1, s2, s3⟩ := (HXb.out.belowS hbi).rules
                have hj' : j = 0 ∨ j = 1 ∨ j = 2 := by omega
                rcases hj' with rfl | rfl | rfl
                · by_cases hn : 0 ≤ l[q].1 - 1
                  · go_wp2_with fail
                    refine (lineAt_any Am cm (mergeGo none l) (l[q].1 - 1) _ (by omega) hml').mono ?_
                    rintro e wu ⟨rfl, hbu⟩
                    go_wp2_with fail
                    refine (lineAt_any _ c l (l[q].1 - 1) _ (by omega) (hll'.keepB hbu)).mono ?_
                    rintro e wv ⟨rfl, hbv⟩
                    rw [merge_lineAt hok]
                    go_wp2_with fail
                    go_roundw
                    case rel => exact ⟨1, by omega, rfl, below_then (below_then hbi hbu hbi.size) hbv (below_then hbi hbu hbi.size).size⟩
                    case measure => simp [intOf]
                  · have hn' : l[q].1 - 1 < 0 := by omega
                    go_wp2_with fail
                    go_roundw
                    case rel => exact ⟨1, by omega, rfl, hbi⟩
                    case measure => simp [intOf]
                · go_wp2_with fail
                  refine (lineAt_any Am cm (mergeGo none l) (l[q].1) _ (by omega) hml').mono ?_
                  rintro e wu ⟨rfl, hbu⟩
                  go_wp2_with fail
                  refine (lineAt_any _ c l (l[q].1) _ (by omega) (hll'.keepB hbu)).mono ?_
                  rintro e wv ⟨rfl, hbv⟩
                  rw [merge_lineAt hok]
                  go_wp2_with fail
                  go_roundw
                  case rel => exact ⟨2, by omega, rfl, below_then (below_then hbi hbu hbi.size) hbv (below_then hbi hbu hbi.size).size⟩
                  case measure => simp [intOf]
                · go_wp2_with fail
                  go_roundw
                  case rel => exact ⟨q + 1, by omega, by go_num, below_then hbr hbx hbr.size⟩
                  case measure => simp [intOf]; omega
            · have hrbz := hrbx.keepB hbr
              have hbp := (pack_bd hf.out).1
              have HP := Lib.hid (unpack_pack hf.out)
              go_wp2_with fail
              refine (unpack_at Ab cb _ l 0 0 _ (by omega) hbp hrbz HP).mono ?_
              rintro e wy ⟨Ay, cy, rfl, hry, hby⟩
              go_wp2_with fail
              refine (eqMarks_any Ay A cy c l l _ (by omega) (by omega) (hry.keepB ((Below.refl _ _).alloc (Nat.le_refl _) _)) (hm.keepB (Below.alloc (below_then hbo hby hbo.size) (below_then hbo hby hbo.size).size _))).mono ?_
              rintro e wz ⟨rfl, hbz⟩
              rw [decide_eq_true rfl]
              go_wp2_with fail
              go_ret
              exact ⟨rfl, below_then (Below.alloc (below_then hbo hby hbo.size) (below_then hbo hby hbo.size).size _) hbz (by have := (below_then hbo hby hbo.size).size; simp; omega)⟩
  · by_cases hz : l.length = 0
    · have Hres := Lib.hid (lineRes_none (l := l) hr hz)
      have a0 : 0 ≤ a := by omega
      have a1 : a < 60000 := by omega
      have hz0 : ((l.length : Int) == 0) = true := by simp [hz]
      clear hr hz
      go_enter Try.func3, Try.ntmps3
      go_wp2_with fail
      refine (line_at _ _ _ a 0 12 (-2) _ hm hf Hres).mono ?_
      rintro e w1 ⟨rfl, hb1⟩
      have hb1' := hb1.alloc hb1.size (.cells #[.int .i64 12, .int .i64 (-2)] 24)
      have HB1 := Lib.hid (Blk.new w1 24 #[.int .i64 12, .int .i64 (-2)])
      go_wp2_with fail
      refine (merge_ok _ _ _ _ (hm.keepB hb1') hf).mono ?_
      rintro e w2 ⟨Am, cm, rfl, hrm, hb2⟩
      have hb2' := below_then hb1' hb2 hb1'.size
      have hb2'' := hb2'.alloc hb2'.size (.cells #[.int .i64 0, .int .i64 0] 24)
      have HB2 := Lib.hid (Blk.new w2 24 #[.int .i64 0, .int .i64 0])
      have HB12 := Lib.hid ((HB1.out.belowS hb2).alloc (.cells #[.int .i64 0, .int .i64 0] 24))
      have HR2 := Lib.hid (hrm.keepB ((Below.refl _ _).alloc (Nat.le_refl _) (.cells #[.int .i64 0, .int .i64 0] 24)))
      clear hrm
      go_wp2_with fail
      refine (packLines_ok _ _ _ _ (hm.keepB hb2'') hf).mono ?_
      rintro e w3 ⟨Ab, cb, rfl, hrb, hb3⟩
      have hb3' := below_then hb2'' hb3 hb2''.size
      have hb3'' := hb3'.alloc hb3'.size (.cells #[.int .i64 0, .int .i64 0] 24)
      have HB3 := Lib.hid (Blk.new w3 24 #[.int .i64 0, .int .i64 0])
      have HB13 := Lib.hid ((HB12.out.belowS hb3).alloc (.cells #[.int .i64 0, .int .i64 0] 24))
      have HB23 := Lib.hid ((HB2.out.belowS hb3).alloc (.cells #[.int .i64 0, .int .i64 0] 24))
      have HR3 := Lib.hid ((HR2.out.keepB hb3).keepB ((Below.refl _ _).alloc (Nat.le_refl _) (.cells #[.int .i64 0, .int .i64 0] 24)))
      have HP3 := Lib.hid (hrb.keepB ((Below.refl _ _).alloc (Nat.le_refl _) (.cells #[.int .i64 0, .int .i64 0] 24)))
      clear hrb
      go_wp2_with fail
      refine (marksFault_at _ _ _ 0 0 _ (by omega) (hm.keepB hb3'') hf).mono ?_
      rintro e w4 ⟨rfl, hb4⟩
      have hb4' := below_then hb3'' hb4 hb3''.size
      have hrm := HR3.out.keepB hb4
      have hrb := HP3.out.keepB hb4
      have hB1 := HB13.out.belowS hb4
      have hB2 := HB23.out.belowS hb4
      have hB3 := HB3.out.belowS hb4
      clear HB1 HB12 HB13 HB2 HB23 HB3 HR2 HR3 HP3 hb1 hb1' hb2 hb2' hb2'' hb3 hb3' hb3'' hb4
      obtain ⟨p1, p2, p3⟩ := hB1.rules
      obtain ⟨q1, q2, q3⟩ := hB2.rules
      obtain ⟨r1, r2, r3⟩ := hB3.rules
      have hbA0 : Below w.heap.size w ((w4.alloc (.cells #[.int .i64 0, .int .i64 0] 24)).alloc (.cells #[.int .i64 0, .int .i64 0] 24)) := (hb4'.alloc hb4'.size _).alloc (by have := hb4'.size; simp; omega) _
      have hbB0 : Below w4.heap.size w4 ((w4.alloc (.cells #[.int .i64 0, .int .i64 0] 24)).alloc (.cells #[.int .i64 0, .int .i64 0] 24)) := ((Below.refl _ _).alloc (Nat.le_refl _) _).alloc (by simp) _
      go_wp2_with fail
      refine (at_any 12 (-2) _).mono ?_
      rintro e w5 ⟨rfl, hb5⟩
      have hbA1 := below_then hbA0 hb5 hbA0.size
      have hbB1 := below_then hbB0 hb5 hbB0.size
      have hBw : Blk w5 (w4.heap.size + 1) 24 #[.int .i64 0, .int .i64 0] := by
        have := (Blk.new (w4.alloc (.cells #[.int .i64 0, .int .i64 0] 24)) 24 #[.int .i64 0, .int .i64 0]).belowS hb5
        simpa using this
      obtain ⟨t1, t2, t3⟩ := hBw.rules
      obtain ⟨v1, v2, v3⟩ := (hB1.belowS hbB1).rules
      have hsA := hbA1.size
      have n1 : ¬ w1.heap.size = w4.heap.size + 1 := by omega
      have n2 : ¬ w2.heap.size = w4.heap.size + 1 := by omega
      have n3 : ¬ w3.heap.size = w4.heap.size + 1 := by omega
      have hbA' : Below w.heap.size w ((w5.setCell ⟨w4.heap.size + 1, 0, none⟩ (.int .i64 12)).setCell ⟨w4.heap.size + 1, 1, none⟩ (.int .i64 (-2))) := (hbA1.setCell (by have := hb4'.size; simp; omega) _).setCell (by have := hb4'.size; simp; omega) _
      have hbB' : Below w4.heap.size w4 ((w5.setCell ⟨w4.heap.size + 1, 0, none⟩ (.int .i64 12)).setCell ⟨w4.heap.size + 1, 1, none⟩ (.int .i64 (-2))) := (hbB1.setCell (by simp) _).setCell (by simp) _
      have hbA := hbA0
      have hbB := hbB0
      clear hbA0 hbB0 hbA1 hbB1
      clear hbA hbB hb5
      have hB2' := hB2.belowS hbB'
      have hB3' := hB3.belowS hbB'
      have hrm' := hrm.keepB hbB'
      have hrb' := hrb.keepB hbB'
      clear p1 p2 p3 q1 q2 q3 r1 r2 r3 hB1 hB2 hB3 hrm hrb hbB'
      obtain ⟨q1, q2, q3⟩ := hB2'.rules
      obtain ⟨r1, r2, r3⟩ := hB3'.rules
      go_wp2_with fail
      refine (packedMarks_any A c l _ (hm.keepB hbA') hf).mono ?_
      rintro e w6 ⟨Ap, cp, rfl, hrp, hb6⟩
      go_wp2_with fail
      refine (eqBytes_any Ab Ap cb cp _ _ _ (by omega) (by omega) (hrb'.keepB hb6) hrp).mono ?_
      rintro e w7 ⟨rfl, hb7⟩
      rw [decide_eq_true rfl]
      have hb67 := below_then hb6 hb7 hb6.size
      have hrm7 := hrm'.keepB hb67
      have hrb7 := hrb'.keepB hb67
      have hb7' := below_then hbA' hb67 hbA'.size
      have hm7 := hm.keepB hb7'
      clear hrm' hrb' hbA' hb6 hb7 hb67 q1 q2 q3 r1 r2 r3 hB2' hB3' hrp hb4'
      go_wp2_with fail
      go_loopw [117] (fun i wr => ∃ k : Nat, k ≤ (mergeGo none l).length ∧ i = .int .i64 k ∧ Below w7.heap.size w7 wr) (fun i _ => (mergeGo none l).length - (intOf i).toNat)
      case atStart => exact ⟨0, Nat.zero_le _, rfl, Below.refl _ _⟩
      case round =>
        obtain ⟨k, hk, rfl, hbr⟩ := hrel
        by_cases hlt : k < (mergeGo none l).length
        · obtain ⟨b, off, rfl, had, h1, h2⟩ := (hrm7.keepB hbr).mark hlt
          by_cases hk0 : k = 0
          · subst hk0
            simp only [Nat.zero_mul, Nat.add_zero] at h1 h2
            go_wp2_with fail
            go_quiet (fail)
            go_wp2_with fail
            go_roundw
            case rel => exact ⟨1, by omega, rfl, below_drewN (hbr.alloc hbr.size _) _⟩
            case measure => simp [intOf]; omega
          · obtain ⟨j, rfl⟩ : ∃ j, k = j + 1 := ⟨k - 1, by omega⟩
            obtain ⟨b', off', hab, _, h3, h4⟩ := (hrm7.keepB hbr).mark (show j < (mergeGo none l).length by omega)
            obtain ⟨rfl, rfl⟩ : b = b' ∧ off = off' := by simpa using hab
            clear hab hk0
            have hadj := merge_adj l none j hlt
            have hq : ((mergeGo none l)[j + 1].2 == (mergeGo none l)[j].2) = false := by simpa using hadj
            have hj2 : IntKind.i64.wrap (j : Int) = j := IntWalk.i64_in _ (by omega)
            have hj3 : IntKind.i64.wrap ((j : Int) + 1 - 1) = j := by rw [Int.add_sub_cancel]; exact hj2
            have hj4 : (j : Int) < (mergeGo none l).length := by omega
            clear hadj
            go_wp2_with fail
            go_quiet (fail)
            clear hj2 hj3
            go_wp2_with fail
            go_roundw
            case rel => exact ⟨j + 1 + 1, by omega, by go_num, below_drewN (hbr.alloc hbr.size _) _⟩
            case measure => simp [intOf]; omega
        · have hbw := below_then hb7' hbr hb7'.size
          have hrmx := hrm7.keepB hbr
          have hrbx := hrb7.keepB hbr
          clear hbr hrm7 hrb7 hb7' hm7
          obtain ⟨w8, rfl⟩ : ∃ w8 : World, w8 = wr := ⟨_, rfl⟩
          go_wp2_with fail
          go_loopw [138] (fun i wr => ∃ k : Nat, k ≤ l.length ∧ i = .int .i64 k ∧ Below w8.heap.size w8 wr) (fun i _ => l.length - (intOf i).toNat)
          case atStart => exact ⟨0, Nat.zero_le _, rfl, Below.refl _ _⟩
          case round =>
            obtain ⟨q, hq, rfl, hbr⟩ := hrel
            have hbo := below_then hbw hbr hbw.size
            by_cases hql : q < l.length
            · obtain ⟨b, off, rfl, had, h1, h2⟩ := (hm.keepB hbo).mark hql
              obtain ⟨_, g1, g2, _, _⟩ := okL_get l _ hok q hql
              obtain ⟨wo, rfl⟩ : ∃ wo : World, wo = wr := ⟨_, rfl⟩
              obtain ⟨X, hX⟩ : ∃ X : World, X = (wo.alloc (.cells #[.int .i64 l[q].1, .int .i64 l[q].2] 38)).alloc (.cells #[.int .i64 (l[q].1 - 1), .int .i64 l[q].1] 3) := ⟨_, rfl⟩
              have HX := Lib.hid hX
              have hXb : Blk X (wo.heap.size + 1) 3 #[.int .i64 (l[q].1 - 1), .int .i64 l[q].1] := by
                rw [hX]; simpa using Blk.new (wo.alloc (.cells #[.int .i64 l[q].1, .int .i64 l[q].2] 38)) 3 #[.int .i64 (l[q].1 - 1), .int .i64 l[q].1]
              have hXo : Below wo.heap.size wo X := by
                rw [hX]; exact ((Below.refl _ _).alloc (Nat.le_refl _) _).alloc (by simp) _
              clear hX
              have HXb := Lib.hid hXb
              clear hXb
              go_wp2_with fail
              rw [← HX.out]
              go_loopw [149] (fun i wr => ∃ j : Nat, j ≤ 2 ∧ i = .int .i64 j ∧ Below X.heap.size X wr) (fun i _ => 2 - (intOf i).toNat)
              case atStart => exact ⟨0, by omega, rfl, Below.refl _ _⟩
              case round =>
                obtain ⟨j, hj, rfl, hbi⟩ := hrel
                have hbx := below_then hXo hbi hXo.size
                have hby := below_then hbo hbx hbo.size
                have hml' := (hrmx.keepB hbr).keepB hbx
                have hll' := hm.keepB hby
                obtain ⟨s1, s2, s3⟩ := (HXb.out.belowS hbi).rules
                have hj' : j = 0 ∨ j = 1 ∨ j = 2 := by omega
                rcases hj' with rfl | rfl | rfl
                · by_cases hn : 0 ≤ l[q].1 - 1
                  · go_wp2_with fail
                    refine (lineAt_any Am cm (mergeGo none l) (l[q].1 - 1) _ (by omega) hml').mono ?_
                    rintro e wu ⟨rfl, hbu⟩
                    go_wp2_with fail
                    refine (lineAt_any _ c l (l[q].1 - 1) _ (by omega) (hll'.keepB hbu)).mono ?_
                    rintro e wv ⟨rfl, hbv⟩
                    rw [merge_lineAt hok]
                    go_wp2_with fail
                    go_roundw
                    case rel => exact ⟨1, by omega, rfl, below_then (below_then hbi hbu hbi.size) hbv (below_then hbi hbu hbi.size).size⟩
                    case measure => simp [intOf]
                  · have hn' : l[q].1 - 1 < 0 := by omega
                    go_wp2_with fail
                    go_roundw
                    case rel => exact ⟨1, by omega, rfl, hbi⟩
                    case measure => simp [intOf]
                · go_wp2_with fail
                  refine (lineAt_any Am cm (mergeGo none l) (l[q].1) _ (by omega) hml').mono ?_
                  rintro e wu ⟨rfl, hbu⟩
                  go_wp2_with fail
                  refine (lineAt_any _ c l (l[q].1) _ (by omega) (hll'.keepB hbu)).mono ?_
                  rintro e wv ⟨rfl, hbv⟩
                  rw [merge_lineAt hok]
                  go_wp2_with fail
                  go_roundw
                  case rel => exact ⟨2, by omega, rfl, below_then (below_then hbi hbu hbi.size) hbv (below_then hbi hbu hbi.size).size⟩
                  case measure => simp [intOf]
                · go_wp2_with fail
                  go_roundw
                  case rel => exact ⟨q + 1, by omega, by go_num, below_then hbr hbx hbr.size⟩
                  case measure => simp [intOf]; omega
            · have hrbz := hrbx.keepB hbr
              have hbp := (pack_bd hf.out).1
              have HP := Lib.hid (unpack_pack hf.out)
              go_wp2_with fail
              refine (unpack_at Ab cb _ l 0 0 _ (by omega) hbp hrbz HP).mono ?_
              rintro e wy ⟨Ay, cy, rfl, hry, hby⟩
              go_wp2_with fail
              refine (eqMarks_any Ay A cy c l l _ (by omega) (by omega) (hry.keepB ((Below.refl _ _).alloc (Nat.le_refl _) _)) (hm.keepB (Below.alloc (below_then hbo hby hbo.size) (below_then hbo hby hbo.size).size _))).mono ?_
              rintro e wz ⟨rfl, hbz⟩
              rw [decide_eq_true rfl]
              go_wp2_with fail
              go_ret
              exact ⟨rfl, below_then (Below.alloc (below_then hbo hby hbo.size) (below_then hbo hby hbo.size).size _) hbz (by have := (below_then hbo hby hbo.size).size; simp; omega)⟩
    · have Hres := Lib.hid (lineRes_ok hr hz)
      have a0 : 0 ≤ a := by omega
      have a1 : a < 60000 := by omega
      have hz0 : ((l.length : Int) == 0) = false := by rw [beq_eq_false_iff_ne]; omega
      clear hr hz
      go_enter Try.func3, Try.ntmps3
      go_wp2_with fail
      refine (line_at _ _ _ a (lineAt a l 0) 0 0 _ hm hf Hres).mono ?_
      rintro e w1 ⟨rfl, hb1⟩
      have hb1' := hb1.alloc hb1.size (.cells #[.int .i64 0, .int .i64 0] 24)
      have HB1 := Lib.hid (Blk.new w1 24 #[.int .i64 0, .int .i64 0])
      go_wp2_with fail
      refine (merge_ok _ _ _ _ (hm.keepB hb1') hf).mono ?_
      rintro e w2 ⟨Am, cm, rfl, hrm, hb2⟩
      have hb2' := below_then hb1' hb2 hb1'.size
      have hb2'' := hb2'.alloc hb2'.size (.cells #[.int .i64 0, .int .i64 0] 24)
      have HB2 := Lib.hid (Blk.new w2 24 #[.int .i64 0, .int .i64 0])
      have HB12 := Lib.hid ((HB1.out.belowS hb2).alloc (.cells #[.int .i64 0, .int .i64 0] 24))
      have HR2 := Lib.hid (hrm.keepB ((Below.refl _ _).alloc (Nat.le_refl _) (.cells #[.int .i64 0, .int .i64 0] 24)))
      clear hrm
      go_wp2_with fail
      refine (packLines_ok _ _ _ _ (hm.keepB hb2'') hf).mono ?_
      rintro e w3 ⟨Ab, cb, rfl, hrb, hb3⟩
      have hb3' := below_then hb2'' hb3 hb2''.size
      have hb3'' := hb3'.alloc hb3'.size (.cells #[.int .i64 0, .int .i64 0] 24)
      have HB3 := Lib.hid (Blk.new w3 24 #[.int .i64 0, .int .i64 0])
      have HB13 := Lib.hid ((HB12.out.belowS hb3).alloc (.cells #[.int .i64 0, .int .i64 0] 24))
      have HB23 := Lib.hid ((HB2.out.belowS hb3).alloc (.cells #[.int .i64 0, .int .i64 0] 24))
      have HR3 := Lib.hid ((HR2.out.keepB hb3).keepB ((Below.refl _ _).alloc (Nat.le_refl _) (.cells #[.int .i64 0, .int .i64 0] 24)))
      have HP3 := Lib.hid (hrb.keepB ((Below.refl _ _).alloc (Nat.le_refl _) (.cells #[.int .i64 0, .int .i64 0] 24)))
      clear hrb
      go_wp2_with fail
      refine (marksFault_at _ _ _ 0 0 _ (by omega) (hm.keepB hb3'') hf).mono ?_
      rintro e w4 ⟨rfl, hb4⟩
      have hb4' := below_then hb3'' hb4 hb3''.size
      have hrm := HR3.out.keepB hb4
      have hrb := HP3.out.keepB hb4
      have hB1 := HB13.out.belowS hb4
      have hB2 := HB23.out.belowS hb4
      have hB3 := HB3.out.belowS hb4
      clear HB1 HB12 HB13 HB2 HB23 HB3 HR2 HR3 HP3 hb1 hb1' hb2 hb2' hb2'' hb3 hb3' hb3'' hb4
      obtain ⟨p1, p2, p3⟩ := hB1.rules
      obtain ⟨q1, q2, q3⟩ := hB2.rules
      obtain ⟨r1, r2, r3⟩ := hB3.rules
      go_wp2_with fail
      have hbA : Below w.heap.size w ((w4.alloc (.cells #[.int .i64 0, .int .i64 0] 24)).alloc (.cells #[.int .i64 0, .int .i64 0] 24)) := (hb4'.alloc hb4'.size _).alloc (by have := hb4'.size; simp; omega) _
      have hbB : Below w4.heap.size w4 ((w4.alloc (.cells #[.int .i64 0, .int .i64 0] 24)).alloc (.cells #[.int .i64 0, .int .i64 0] 24)) := ((Below.refl _ _).alloc (Nat.le_refl _) _).alloc (by simp) _
      refine (lineAt_any A c l a _ (by omega) (hm.keepB hbA)).mono ?_
      rintro e w5 ⟨rfl, hb5⟩
      have hbA' := below_then hbA hb5 hbA.size
      have hbB' := below_then hbB hb5 hbB.size
      clear hbA hbB hb5
      have hB2' := hB2.belowS hbB'
      have hB3' := hB3.belowS hbB'
      have hrm' := hrm.keepB hbB'
      have hrb' := hrb.keepB hbB'
      clear p1 p2 p3 q1 q2 q3 r1 r2 r3 hB1 hB2 hB3 hrm hrb hbB'
      obtain ⟨q1, q2, q3⟩ := hB2'.rules
      obtain ⟨r1, r2, r3⟩ := hB3'.rules
      go_wp2_with fail
      refine (packedMarks_any A c l _ (hm.keepB hbA') hf).mono ?_
      rintro e w6 ⟨Ap, cp, rfl, hrp, hb6⟩
      go_wp2_with fail
      refine (eqBytes_any Ab Ap cb cp _ _ _ (by omega) (by omega) (hrb'.keepB hb6) hrp).mono ?_
      rintro e w7 ⟨rfl, hb7⟩
      rw [decide_eq_true rfl]
      have hb67 := below_then hb6 hb7 hb6.size
      have hrm7 := hrm'.keepB hb67
      have hrb7 := hrb'.keepB hb67
      have hb7' := below_then hbA' hb67 hbA'.size
      have hm7 := hm.keepB hb7'
      clear hrm' hrb' hbA' hb6 hb7 hb67 q1 q2 q3 r1 r2 r3 hB2' hB3' hrp hb4'
      go_wp2_with fail
      go_loopw [117] (fun i wr => ∃ k : Nat, k ≤ (mergeGo none l).length ∧ i = .int .i64 k ∧ Below w7.heap.size w7 wr) (fun i _ => (mergeGo none l).length - (intOf i).toNat)
      case atStart => exact ⟨0, Nat.zero_le _, rfl, Below.refl _ _⟩
      case round =>
        obtain ⟨k, hk, rfl, hbr⟩ := hrel
        by_cases hlt : k < (mergeGo none l).length
        · obtain ⟨b, off, rfl, had, h1, h2⟩ := (hrm7.keepB hbr).mark hlt
          by_cases hk0 : k = 0
          · subst hk0
            simp only [Nat.zero_mul, Nat.add_zero] at h1 h2
            go_wp2_with fail
            go_quiet (fail)
            go_wp2_with fail
            go_roundw
            case rel => exact ⟨1, by omega, rfl, below_drewN (hbr.alloc hbr.size _) _⟩
            case measure => simp [intOf]; omega
          · obtain ⟨j, rfl⟩ : ∃ j, k = j + 1 := ⟨k - 1, by omega⟩
            obtain ⟨b', off', hab, _, h3, h4⟩ := (hrm7.keepB hbr).mark (show j < (mergeGo none l).length by omega)
            obtain ⟨rfl, rfl⟩ : b = b' ∧ off = off' := by simpa using hab
            clear hab hk0
            have hadj := merge_adj l none j hlt
            have hq : ((mergeGo none l)[j + 1].2 == (mergeGo none l)[j].2) = false := by simpa using hadj
            have hj2 : IntKind.i64.wrap (j : Int) = j := IntWalk.i64_in _ (by omega)
            have hj3 : IntKind.i64.wrap ((j : Int) + 1 - 1) = j := by rw [Int.add_sub_cancel]; exact hj2
            have hj4 : (j : Int) < (mergeGo none l).length := by omega
            clear hadj
            go_wp2_with fail
            go_quiet (fail)
            clear hj2 hj3
            go_wp2_with fail
            go_roundw
            case rel => exact ⟨j + 1 + 1, by omega, by go_num, below_drewN (hbr.alloc hbr.size _) _⟩
            case measure => simp [intOf]; omega
        · have hbw := below_then hb7' hbr hb7'.size
          have hrmx := hrm7.keepB hbr
          have hrbx := hrb7.keepB hbr
          clear hbr hrm7 hrb7 hb7' hm7
          obtain ⟨w8, rfl⟩ : ∃ w8 : World, w8 = wr := ⟨_, rfl⟩
          go_wp2_with fail
          go_loopw [138] (fun i wr => ∃ k : Nat, k ≤ l.length ∧ i = .int .i64 k ∧ Below w8.heap.size w8 wr) (fun i _ => l.length - (intOf i).toNat)
          case atStart => exact ⟨0, Nat.zero_le _, rfl, Below.refl _ _⟩
          case round =>
            obtain ⟨q, hq, rfl, hbr⟩ := hrel
            have hbo := below_then hbw hbr hbw.size
            by_cases hql : q < l.length
            · obtain ⟨b, off, rfl, had, h1, h2⟩ := (hm.keepB hbo).mark hql
              obtain ⟨_, g1, g2, _, _⟩ := okL_get l _ hok q hql
              obtain ⟨wo, rfl⟩ : ∃ wo : World, wo = wr := ⟨_, rfl⟩
              obtain ⟨X, hX⟩ : ∃ X : World, X = (wo.alloc (.cells #[.int .i64 l[q].1, .int .i64 l[q].2] 38)).alloc (.cells #[.int .i64 (l[q].1 - 1), .int .i64 l[q].1] 3) := ⟨_, rfl⟩
              have HX := Lib.hid hX
              have hXb : Blk X (wo.heap.size + 1) 3 #[.int .i64 (l[q].1 - 1), .int .i64 l[q].1] := by
                rw [hX]; simpa using Blk.new (wo.alloc (.cells #[.int .i64 l[q].1, .int .i64 l[q].2] 38)) 3 #[.int .i64 (l[q].1 - 1), .int .i64 l[q].1]
              have hXo : Below wo.heap.size wo X := by
                rw [hX]; exact ((Below.refl _ _).alloc (Nat.le_refl _) _).alloc (by simp) _
              clear hX
              have HXb := Lib.hid hXb
              clear hXb
              go_wp2_with fail
              rw [← HX.out]
              go_loopw [149] (fun i wr => ∃ j : Nat, j ≤ 2 ∧ i = .int .i64 j ∧ Below X.heap.size X wr) (fun i _ => 2 - (intOf i).toNat)
              case atStart => exact ⟨0, by omega, rfl, Below.refl _ _⟩
              case round =>
                obtain ⟨j, hj, rfl, hbi⟩ := hrel
                have hbx := below_then hXo hbi hXo.size
                have hby := below_then hbo hbx hbo.size
                have hml' := (hrmx.keepB hbr).keepB hbx
                have hll' := hm.keepB hby
                obtain ⟨s1, s2, s3⟩ := (HXb.out.belowS hbi).rules
                have hj' : j = 0 ∨ j = 1 ∨ j = 2 := by omega
                rcases hj' with rfl | rfl | rfl
                · by_cases hn : 0 ≤ l[q].1 - 1
                  · go_wp2_with fail
                    refine (lineAt_any Am cm (mergeGo none l) (l[q].1 - 1) _ (by omega) hml').mono ?_
                    rintro e wu ⟨rfl, hbu⟩
                    go_wp2_with fail
                    refine (lineAt_any _ c l (l[q].1 - 1) _ (by omega) (hll'.keepB hbu)).mono ?_
                    rintro e wv ⟨rfl, hbv⟩
                    rw [merge_lineAt hok]
                    go_wp2_with fail
                    go_roundw
                    case rel => exact ⟨1, by omega, rfl, below_then (below_then hbi hbu hbi.size) hbv (below_then hbi hbu hbi.size).size⟩
                    case measure => simp [intOf]
                  · have hn' : l[q].1 - 1 < 0 := by omega
                    go_wp2_with fail
                    go_roundw
                    case rel => exact ⟨1, by omega, rfl, hbi⟩
                    case measure => simp [intOf]
                · go_wp2_with fail
                  refine (lineAt_any Am cm (mergeGo none l) (l[q].1) _ (by omega) hml').mono ?_
                  rintro e wu ⟨rfl, hbu⟩
                  go_wp2_with fail
                  refine (lineAt_any _ c l (l[q].1) _ (by omega) (hll'.keepB hbu)).mono ?_
                  rintro e wv ⟨rfl, hbv⟩
                  rw [merge_lineAt hok]
                  go_wp2_with fail
                  go_roundw
                  case rel => exact ⟨2, by omega, rfl, below_then (below_then hbi hbu hbi.size) hbv (below_then hbi hbu hbi.size).size⟩
                  case measure => simp [intOf]
                · go_wp2_with fail
                  go_roundw
                  case rel => exact ⟨q + 1, by omega, by go_num, below_then hbr hbx hbr.size⟩
                  case measure => simp [intOf]; omega
            · have hrbz := hrbx.keepB hbr
              have hbp := (pack_bd hf.out).1
              have HP := Lib.hid (unpack_pack hf.out)
              go_wp2_with fail
              refine (unpack_at Ab cb _ l 0 0 _ (by omega) hbp hrbz HP).mono ?_
              rintro e wy ⟨Ay, cy, rfl, hry, hby⟩
              go_wp2_with fail
              refine (eqMarks_any Ay A cy c l l _ (by omega) (by omega) (hry.keepB ((Below.refl _ _).alloc (Nat.le_refl _) _)) (hm.keepB (Below.alloc (below_then hbo hby hbo.size) (below_then hbo hby hbo.size).size _))).mono ?_
              rintro e wz ⟨rfl, hbz⟩
              rw [decide_eq_true rfl]
              go_wp2_with fail
              go_ret
              exact ⟨rfl, below_then (Below.alloc (below_then hbo hby hbo.size) (below_then hbo hby hbo.size).size _) hbz (by have := (below_then hbo hby hbo.size).size; simp; omega)⟩

end Go.Proofs.Ytionmlkefheocaa
