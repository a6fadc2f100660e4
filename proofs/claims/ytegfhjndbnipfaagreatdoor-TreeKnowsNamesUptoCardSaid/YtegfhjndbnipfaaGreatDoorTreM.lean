/- The program's trees: a copy of a statement without parts, its lines listed: the walk. Nothing is claimed here. -/
import Derived.Test.YtegfhjndbnipfaaGreatDoorTreI
namespace Go.Proofs.YtegfhjndbnipfaaGreatDoor
open Go.RowKit Go.Lib Go.Maps Go.Sort
set_option linter.unusedVariables false

set_option maxRecDepth 100000 in
set_option maxHeartbeats 8000000 in
theorem wstmt_lines (m : Int) (o : Nat) (r : Value) (w : World) (h : Blk w o 30 #[.slice none 0 0]) :
    Calls Tryz.prog 39 #[.agg (wkC (FL o) r), .agg (stC 5 m)] w fun e w' => e = .returned (.agg (stC 5 m)) ∧ (∃ (g cap : Nat) (cur : Array Value), Blk w' o 30 #[.slice (some ⟨g, 0, none⟩) 1 cap] ∧ Blk w' g 3 cur ∧ cur[0]? = some (.int .i64 m)) ∧ Below o w w' := by
  have hW := ((Blk.new w 57 (wkC (FL o) r)).alloc (.cells (stC 5 m) 43)).alloc (.cells (stC 0 0) 43)
  have hS := (Blk.new (w.alloc (.cells (wkC (FL o) r) 57)) 43 (stC 5 m)).alloc (.cells (stC 0 0) 43)
  have hR := Blk.new ((w.alloc (.cells (wkC (FL o) r) 57)).alloc (.cells (stC 5 m) 43)) 43 (stC 0 0)
  rw [show (w.alloc (.cells (wkC (FL o) r) 57)).heap.size = w.heap.size + 1 by simp] at hS
  rw [show ((w.alloc (.cells (wkC (FL o) r) 57)).alloc (.cells (stC 5 m) 43)).heap.size = w.heap.size + 1 + 1 by simp] at hR
  have hO := ((h.alloc (.cells (wkC (FL o) r) 57)).alloc (.cells (stC 5 m) 43)).alloc (.cells (stC 0 0) 43)
  have hB0 : o ≤ w.heap.size := Nat.le_of_lt h.lt
  have hlt := h.lt
  have hb := (((Below.refl o w).alloc hB0 (.cells (wkC (FL o) r) 57)).alloc (by simp; omega) (.cells (stC 5 m) 43)).alloc (by simp; omega) (.cells (stC 0 0) 43)
  have hno : o ≠ w.heap.size + 1 := by omega
  obtain ⟨W, hWW⟩ : ∃ W, (((w.alloc (.cells (wkC (FL o) r) 57)).alloc (.cells (stC 5 m) 43)).alloc (.cells (stC 0 0) 43)) = W := ⟨_, rfl⟩
  have hsz : W.heap.size = w.heap.size + 3 := by rw [← hWW]; simp
  rw [hWW] at hW hS hR hO hb
  have HSH := Lib.hid (lines1_any m o W hO)
  obtain ⟨q1, q2, q3⟩ := hS.rules
  obtain ⟨p1, p2, p3⟩ := hW.rules
  unfold wkC stC FL at hWW ⊢
  unfold wkC FL at p1
  unfold stC at q1
  go_enter Tryz.func39, Tryz.ntmps39
  go_wp2_with fail
  refine HSH.out.mono ?_
  rintro e wx ⟨rfl, g, cap, cur, w3, hb3, hwx, hge, hB3, hcur⟩
  have hgo : g ≠ o := by omega
  have hng : g ≠ w.heap.size + 1 := by omega
  have hngR : g ≠ w.heap.size + 1 + 1 := by omega
  replace hS := (hS.belowS hb3).far (p := ⟨o, 0, none⟩) (Ne.symm hno) (.slice (some ⟨g, 0, none⟩) 1 cap)
  replace hW := (hW.belowS hb3).far (p := ⟨o, 0, none⟩) (Nat.ne_of_gt hlt) (.slice (some ⟨g, 0, none⟩) 1 cap)
  replace hR := (hR.belowS hb3).far (p := ⟨o, 0, none⟩) (show w.heap.size + 1 + 1 ≠ o by omega) (.slice (some ⟨g, 0, none⟩) 1 cap)
  replace hO : Blk _ o 30 #[.slice (some ⟨g, 0, none⟩) 1 cap] := (hO.belowS hb3).set_ 0 (.slice (some ⟨g, 0, none⟩) 1 cap)
  have hG := hB3.far (p := ⟨o, 0, none⟩) hgo (.slice (some ⟨g, 0, none⟩) 1 cap)
  replace hb := (below_then hb hb3 (by omega)).setCell (p := ⟨o, 0, none⟩) (Nat.le_refl _) (.slice (some ⟨g, 0, none⟩) 1 cap)
  have HCUR := Lib.hid hcur
  rw [← hwx] at hS hW hR hO hG hb
  clear hwx q1 q2 q3 p1 p2 p3
  obtain ⟨q1, q2, q3⟩ := hS.rules
  obtain ⟨p1, p2, p3⟩ := hW.rules
  unfold stC at q1
  simp only [wkC, FS, FL] at p1
  clear hWW HSH hcur hb3 hB3
  as_aux_lemma =>
  go_wp2_with fail
  refine (cloneStr_nil _).mono ?_
  rintro e wx ⟨rfl, hwx⟩
  replace hwx := hwx.symm
  replace hS : Blk _ (w.heap.size + 1) 43 (stC 5 m) := Blk.set_ hS 1 (.int .i64 m)
  replace hW := Blk.far hW (p := ⟨w.heap.size + 1, 1, none⟩) (by simp) (.int .i64 m)
  replace hR := Blk.far hR (p := ⟨w.heap.size + 1, 1, none⟩) (by simp) (.int .i64 m)
  replace hO := Blk.far hO (p := ⟨w.heap.size + 1, 1, none⟩) hno (.int .i64 m)
  replace hG := Blk.far hG (p := ⟨w.heap.size + 1, 1, none⟩) hng (.int .i64 m)
  replace hb := Below.setCell hb (p := ⟨w.heap.size + 1, 1, none⟩) (by simp <;> omega) (.int .i64 m)
  rw [← hwx] at hS hW hR hO hG hb
  clear hwx q1 q2 q3 p1 p2 p3
  obtain ⟨q1, q2, q3⟩ := hS.rules
  obtain ⟨p1, p2, p3⟩ := hW.rules
  unfold stC at q1
  simp only [wkC, FS, FL] at p1
  go_wp2_with fail
  refine (wexprs_nil (FL o) r _).mono ?_
  rintro e wx ⟨rfl, hwx⟩
  replace hS : Blk _ (w.heap.size + 1) 43 (stC 5 m) := Blk.set_ hS 3 (.slice none 0 0)
  replace hW := Blk.far hW (p := ⟨w.heap.size + 1, 3, none⟩) (by simp) (.slice none 0 0)
  replace hR := Blk.far hR (p := ⟨w.heap.size + 1, 3, none⟩) (by simp) (.slice none 0 0)
  replace hO := Blk.far hO (p := ⟨w.heap.size + 1, 3, none⟩) hno (.slice none 0 0)
  replace hG := Blk.far hG (p := ⟨w.heap.size + 1, 3, none⟩) hng (.slice none 0 0)
  replace hb := Below.setCell hb (p := ⟨w.heap.size + 1, 3, none⟩) (by simp <;> omega) (.slice none 0 0)
  replace hS := Blk.alloc hS (.cells (wkC (FL o) r) 57)
  replace hW := Blk.alloc hW (.cells (wkC (FL o) r) 57)
  replace hR := Blk.alloc hR (.cells (wkC (FL o) r) 57)
  replace hO := Blk.alloc hO (.cells (wkC (FL o) r) 57)
  replace hG := Blk.alloc hG (.cells (wkC (FL o) r) 57)
  replace hb := Below.alloc hb (Nat.le_trans hB0 (Below.size hb)) (.cells (wkC (FL o) r) 57)
  rw [← hwx] at hS hW hR hO hG hb
  clear hwx q1 q2 q3 p1 p2 p3
  obtain ⟨q1, q2, q3⟩ := hS.rules
  obtain ⟨p1, p2, p3⟩ := hW.rules
  unfold stC at q1
  simp only [wkC, FS, FL] at p1
  as_aux_lemma =>
  go_wp2_with fail
  refine (wexprs_nil (FL o) r _).mono ?_
  rintro e wx ⟨rfl, hwx⟩
  replace hS : Blk _ (w.heap.size + 1) 43 (stC 5 m) := Blk.set_ hS 5 (.slice none 0 0)
  replace hW := Blk.far hW (p := ⟨w.heap.size + 1, 5, none⟩) (by simp) (.slice none 0 0)
  replace hR := Blk.far hR (p := ⟨w.heap.size + 1, 5, none⟩) (by simp) (.slice none 0 0)
  replace hO := Blk.far hO (p := ⟨w.heap.size + 1, 5, none⟩) hno (.slice none 0 0)
  replace hG := Blk.far hG (p := ⟨w.heap.size + 1, 5, none⟩) hng (.slice none 0 0)
  replace hb := Below.setCell hb (p := ⟨w.heap.size + 1, 5, none⟩) (by simp <;> omega) (.slice none 0 0)
  replace hS := Blk.alloc hS (.cells (wkC (FL o) r) 57)
  replace hW := Blk.alloc hW (.cells (wkC (FL o) r) 57)
  replace hR := Blk.alloc hR (.cells (wkC (FL o) r) 57)
  replace hO := Blk.alloc hO (.cells (wkC (FL o) r) 57)
  replace hG := Blk.alloc hG (.cells (wkC (FL o) r) 57)
  replace hb := Below.alloc hb (Nat.le_trans hB0 (Below.size hb)) (.cells (wkC (FL o) r) 57)
  rw [← hwx] at hS hW hR hO hG hb
  clear hwx q1 q2 q3 p1 p2 p3
  obtain ⟨q1, q2, q3⟩ := hS.rules
  obtain ⟨p1, p2, p3⟩ := hW.rules
  unfold stC at q1
  simp only [wkC, FS, FL] at p1
  as_aux_lemma =>
  go_wp2_with fail
  refine (wparams_nil (FL o) r _).mono ?_
  rintro e wx ⟨rfl, hwx⟩
  replace hS : Blk _ (w.heap.size + 1) 43 (stC 5 m) := Blk.set_ hS 6 (.slice none 0 0)
  replace hW := Blk.far hW (p := ⟨w.heap.size + 1, 6, none⟩) (by simp) (.slice none 0 0)
  replace hR := Blk.far hR (p := ⟨w.heap.size + 1, 6, none⟩) (by simp) (.slice none 0 0)
  replace hO := Blk.far hO (p := ⟨w.heap.size + 1, 6, none⟩) hno (.slice none 0 0)
  replace hG := Blk.far hG (p := ⟨w.heap.size + 1, 6, none⟩) hng (.slice none 0 0)
  replace hb := Below.setCell hb (p := ⟨w.heap.size + 1, 6, none⟩) (by simp <;> omega) (.slice none 0 0)
  replace hS := Blk.alloc hS (.cells (wkC (FL o) r) 57)
  replace hW := Blk.alloc hW (.cells (wkC (FL o) r) 57)
  replace hR := Blk.alloc hR (.cells (wkC (FL o) r) 57)
  replace hO := Blk.alloc hO (.cells (wkC (FL o) r) 57)
  replace hG := Blk.alloc hG (.cells (wkC (FL o) r) 57)
  replace hb := Below.alloc hb (Nat.le_trans hB0 (Below.size hb)) (.cells (wkC (FL o) r) 57)
  rw [← hwx] at hS hW hR hO hG hb
  clear hwx q1 q2 q3 p1 p2 p3
  obtain ⟨q1, q2, q3⟩ := hS.rules
  obtain ⟨p1, p2, p3⟩ := hW.rules
  unfold stC at q1
  simp only [wkC, FS, FL] at p1
  as_aux_lemma =>
  go_wp2_with fail
  go_loop [5, 42] (fun a v => a = .slice none 0 0 ∧ v = .int .i64 0) (fun _ _ => 0)
  case atStart => exact ⟨rfl, rfl⟩
  case round =>
    obtain ⟨rfl, rfl⟩ := hrel
    as_aux_lemma =>
    go_wp2_with fail
    go_loop [8, 64] (fun a v => a = .slice none 0 0 ∧ v = .int .i64 0) (fun _ _ => 0)
    case atStart => exact ⟨rfl, rfl⟩
    case round =>
      obtain ⟨rfl, rfl⟩ := hrel
      go_wp2_with fail
      go_loop [11, 94] (fun a v => a = .slice none 0 0 ∧ v = .int .i64 0) (fun _ _ => 0)
      case atStart => exact ⟨rfl, rfl⟩
      case round =>
        obtain ⟨rfl, rfl⟩ := hrel
        go_wp2_with fail
        replace hS : Blk _ (w.heap.size + 1) 43 (stC 5 m) := Blk.set_ hS 7 (.slice none 0 0)
        replace hW := Blk.far hW (p := ⟨w.heap.size + 1, 7, none⟩) (by simp) (.slice none 0 0)
        replace hR := Blk.far hR (p := ⟨w.heap.size + 1, 7, none⟩) (by simp) (.slice none 0 0)
        replace hO := Blk.far hO (p := ⟨w.heap.size + 1, 7, none⟩) hno (.slice none 0 0)
        replace hG := Blk.far hG (p := ⟨w.heap.size + 1, 7, none⟩) hng (.slice none 0 0)
        replace hb := Below.setCell hb (p := ⟨w.heap.size + 1, 7, none⟩) (by simp <;> omega) (.slice none 0 0)
        replace hS : Blk _ (w.heap.size + 1) 43 (stC 5 m) := Blk.set_ hS 12 (.slice none 0 0)
        replace hW := Blk.far hW (p := ⟨w.heap.size + 1, 12, none⟩) (by simp) (.slice none 0 0)
        replace hR := Blk.far hR (p := ⟨w.heap.size + 1, 12, none⟩) (by simp) (.slice none 0 0)
        replace hO := Blk.far hO (p := ⟨w.heap.size + 1, 12, none⟩) hno (.slice none 0 0)
        replace hG := Blk.far hG (p := ⟨w.heap.size + 1, 12, none⟩) hng (.slice none 0 0)
        replace hb := Below.setCell hb (p := ⟨w.heap.size + 1, 12, none⟩) (by simp <;> omega) (.slice none 0 0)
        replace hS : Blk _ (w.heap.size + 1) 43 (stC 5 m) := Blk.set_ hS 11 (.slice none 0 0)
        replace hW := Blk.far hW (p := ⟨w.heap.size + 1, 11, none⟩) (by simp) (.slice none 0 0)
        replace hR := Blk.far hR (p := ⟨w.heap.size + 1, 11, none⟩) (by simp) (.slice none 0 0)
        replace hO := Blk.far hO (p := ⟨w.heap.size + 1, 11, none⟩) hno (.slice none 0 0)
        replace hG := Blk.far hG (p := ⟨w.heap.size + 1, 11, none⟩) hng (.slice none 0 0)
        replace hb := Below.setCell hb (p := ⟨w.heap.size + 1, 11, none⟩) (by simp <;> omega) (.slice none 0 0)
        replace hS : Blk _ (w.heap.size + 1) 43 (stC 5 m) := Blk.set_ hS 13 (.slice none 0 0)
        replace hW := Blk.far hW (p := ⟨w.heap.size + 1, 13, none⟩) (by simp) (.slice none 0 0)
        replace hR := Blk.far hR (p := ⟨w.heap.size + 1, 13, none⟩) (by simp) (.slice none 0 0)
        replace hO := Blk.far hO (p := ⟨w.heap.size + 1, 13, none⟩) hno (.slice none 0 0)
        replace hG := Blk.far hG (p := ⟨w.heap.size + 1, 13, none⟩) hng (.slice none 0 0)
        replace hb := Below.setCell hb (p := ⟨w.heap.size + 1, 13, none⟩) (by simp <;> omega) (.slice none 0 0)
        obtain ⟨W5, hW5⟩ : ∃ W5, ((((wx.setCell ⟨w.heap.size + 1, 7, none⟩ (.slice none 0 0)).setCell ⟨w.heap.size + 1, 12, none⟩ (.slice none 0 0)).setCell ⟨w.heap.size + 1, 11, none⟩ (.slice none 0 0)).setCell ⟨w.heap.size + 1, 13, none⟩ (.slice none 0 0)) = W5 := ⟨_, rfl⟩
        rw [hW5] at hS hW hR hO hG hb ⊢
        clear hW5 q1 q2 q3 p1 p2 p3
        obtain ⟨S, hSS⟩ : ∃ S : World → Prop, ∀ W', S W' ↔ (Blk W' (w.heap.size + 1) 43 (stC 5 m) ∧ Blk W' w.heap.size 57 (wkC (FL o) r) ∧ Blk W' (w.heap.size + 1 + 1) 43 (stC 0 0) ∧ (fun W' => Blk W' o 30 #[.slice (some ⟨g, 0, none⟩) 1 cap] ∧ Blk W' g 3 cur) W' ∧ Below o w W') := ⟨_, fun _ => Iff.rfl⟩
        have hS0 : S W5.drew := (hSS _).2 ⟨hS.drew, hW.drew, hR.drew, ⟨hO.drew, hG.drew⟩, hb.drew⟩
        have GS : ∀ (q : Held S) (i : Nat), q.w.cell? ⟨w.heap.size + 1, i, none⟩ = (stC 5 m)[i]? := fun q i => ((hSS q.w).1 q.h).1.cell i
        have GF : ∀ (q : Held S) (i : Nat), q.w.frozen? ⟨w.heap.size + 1, i, none⟩ = false := fun q i => ((hSS q.w).1 q.h).1.frozen i
        have GW : ∀ (q : Held S) (i : Nat), q.w.cell? ⟨w.heap.size, i, none⟩ = (wkC (FL o) r)[i]? := fun q i => ((hSS q.w).1 q.h).2.1.cell i
        have hat : ∀ q : Held S, Calls Tryz.prog 24 #[.agg (wkC (FL o) r), .slice none 0 0] q.w (fun e w'' => e = .returned (.slice none 0 0) ∧ ∃ p : Held S, w'' = p.w) := fun q => (wstmts_nil (FL o) r q.w).mono fun e w' h => ⟨h.1, by
          obtain ⟨t1, t2, t3, t4, t5⟩ := (hSS q.w).1 q.h
          refine ⟨⟨w', (hSS w').2 ?_⟩, rfl⟩
          rw [h.2]
          exact ⟨t1.alloc _, t2.alloc _, t3.alloc _, ⟨t4.1.alloc _, t4.2.alloc _⟩, t5.alloc (Nat.le_trans hB0 t5.size) _⟩⟩
        have hst : ∀ (q : Held S) (j : Nat), (j = 8 ∨ j = 9 ∨ j = 10) → q.w.setCell ⟨w.heap.size + 1, j, none⟩ (.slice none 0 0) = q.w := fun q j hj => by
          have t1 := ((hSS q.w).1 q.h).1
          rcases hj with rfl | rfl | rfl <;> exact setCell_same t1 rfl
        have HAT := Lib.hid hat
        have HST := Lib.hid hst
        have HSS := Lib.hid hSS
        unfold stC at GS
        simp only [wkC, FS, FL] at GW
        clear hat hst hSS hS hW hR hO hG hb
        as_aux_lemma =>
        refine wp_region_quiet (C := fun w' => ∃ p : Held S, w' = p.w) (by kernel_rfl) (by kernel_rfl) (isHeld_mk hS0) ?_
        repeat (first | go_big_quiet_step (first | rfl | exact HAT.out _) | quiet_step (first | rfl | exact HAT.out _))
        refine wpQuiet_step (fun K hK => ?_)
        go_simp
        refine ⟨⟨undef, fun q => ⟨HST.out q _ (by simp), rfl⟩⟩, hK _ ?_⟩
        clear hK K
        repeat (first | go_big_quiet_step (first | rfl | exact HAT.out _) | quiet_step (first | rfl | exact HAT.out _))
        refine wpQuiet_step (fun K hK => ?_)
        go_simp
        refine ⟨⟨undef, fun q => ⟨HST.out q _ (by simp), rfl⟩⟩, hK _ ?_⟩
        clear hK K
        repeat (first | go_big_quiet_step (first | rfl | exact HAT.out _) | quiet_step (first | rfl | exact HAT.out _))
        refine wpQuiet_step (fun K hK => ?_)
        go_simp
        refine ⟨⟨undef, fun q => ⟨HST.out q _ (by simp), rfl⟩⟩, hK _ ?_⟩
        clear hK K
        refine wpQuiet_nil ?_
        intro w9 hwq
        obtain ⟨⟨W6, hq⟩, hwq'⟩ := hwq
        subst hwq'
        replace hq := (HSS.out _).1 hq
        obtain ⟨hS6, hW6, hR6, hO6, hb6⟩ := hq
        clear GS GF GW HAT HST HSS hS0
        obtain ⟨q1, q2, q3⟩ := hS6.rules
        unfold stC at q1
        have HO6 := Lib.hid hO6
        have HR6 := Lib.hid hR6
        have HB6 := Lib.hid hb6
        clear hW6 hO6 hb6 hS6 hR6
        go_wp2_with (refine wpList_store_row rfl 43 (.tmp 4) (.tmp 141) rfl (w.heap.size + 1 + 1) (stC 5 m) rfl rfl 43 (stC 0 0) HR6.out (by kernel_rfl) rfl (by simp [stC, Value.oneCell']) ?_)
        have hF : Blk (w9.setRow (w.heap.size + 1 + 1) (stC 5 m)) (w.heap.size + 1 + 1) 43 (stC 5 m) := setRow_heap w9 _ _ _ _ _ HR6.out
        have hBB : Below o w (w9.setRow (w.heap.size + 1 + 1) (stC 5 m)) := ⟨HB6.out.os, HB6.out.tape, HB6.out.output, by simpa using HB6.out.size, fun k hk => (setRow_other _ _ _ _ (by omega)).trans (HB6.out.block k hk)⟩
        exact ret_blk rfl rfl hF _ Tryz.underlying43 rfl (by kernel_rfl) rfl ⟨rfl, ⟨g, cap, cur, (setRow_other _ _ _ _ (by omega)).trans HO6.out.1, (setRow_other _ _ _ _ hngR).trans HO6.out.2, HCUR.out⟩, hBB⟩

end Go.Proofs.YtegfhjndbnipfaaGreatDoor
