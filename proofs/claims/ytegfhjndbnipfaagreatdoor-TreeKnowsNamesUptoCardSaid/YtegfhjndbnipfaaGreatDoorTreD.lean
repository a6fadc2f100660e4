/- The program's trees: the checks of a statement without parts. Nothing is claimed here. -/
import Derived.Test.YtegfhjndbnipfaaGreatDoorTreC
namespace Go.Proofs.YtegfhjndbnipfaaGreatDoor
open Go.RowKit Go.Lib Go.Maps
set_option linter.unusedVariables false

theorem cexprs_nil (p : Value) (at_ lv : Int) (w : World) : Calls Tryz.prog 75 #[p, .slice none 0 0, .int .i64 at_, .int .i64 lv, .agg ctxC] w fun e w' => (∃ v, e = .returned v) ∧ Below w.heap.size w w' := by
  unfold ctxC
  go_enter Tryz.func75, Tryz.ntmps75
  go_wp2_with fail
  go_loop [14] (fun v => v = .int .i64 0) (fun _ => 0)
  case atStart => rfl
  case round =>
    obtain rfl := hrel
    go_wp2_with fail
    refine bodyPost_end (results_none rfl _ _ _) rfl ?_
    exact ⟨⟨_, rfl⟩, (Below.refl _ _).alloc (Nat.le_refl _) _⟩
theorem cdefaults_nil (p : Value) (lv : Int) (w : World) : Calls Tryz.prog 76 #[p, .slice none 0 0, .int .i64 lv, .agg ctxC] w fun e w' => (∃ v, e = .returned v) ∧ Below w.heap.size w w' := by
  unfold ctxC
  go_enter Tryz.func76, Tryz.ntmps76
  go_wp2_with fail
  go_loop [12] (fun v => v = .int .i64 0) (fun _ => 0)
  case atStart => rfl
  case round =>
    obtain rfl := hrel
    go_wp2_with fail
    refine bodyPost_end (results_none rfl _ _ _) rfl ?_
    exact ⟨⟨_, rfl⟩, (Below.refl _ _).alloc (Nat.le_refl _) _⟩
theorem cstmts_nil (p : Value) (lv : Int) (w : World) : Calls Tryz.prog 30 #[p, .slice none 0 0, .int .i64 lv, .agg ctxC] w fun e w' => (∃ v, e = .returned v) ∧ Below w.heap.size w w' := by
  unfold ctxC
  go_enter Tryz.func30, Tryz.ntmps30
  go_wp2_with fail
  go_loop [12] (fun v => v = .int .i64 0) (fun _ => 0)
  case atStart => rfl
  case round =>
    obtain rfl := hrel
    go_wp2_with fail
    refine bodyPost_end (results_none rfl _ _ _) rfl ?_
    exact ⟨⟨_, rfl⟩, (Below.refl _ _).alloc (Nat.le_refl _) _⟩
set_option maxRecDepth 100000 in
set_option maxHeartbeats 4000000 in
theorem cparams_nil (p : Value) (n : Int) (w : World) : Calls Tryz.prog 71 #[p, .slice none 0 0, .int .i64 n] w fun e w' => (∃ v, e = .returned v) ∧ Below w.heap.size w w' := by
  go_enter Tryz.func71, Tryz.ntmps71
  go_wp2_with fail
  go_loop [6, 16] (fun a v => a = .slice none 0 0 ∧ v = .int .i64 0) (fun _ _ => 0)
  case atStart => exact ⟨rfl, rfl⟩
  case round =>
    obtain ⟨rfl, rfl⟩ := hrel
    go_wp2_with fail
    refine (need_ok _ _ _ _).mono ?_
    rintro e w1 ⟨⟨v1, rfl⟩, rfl⟩
    go_wp2_with fail
    refine (distinct_any _).mono ?_
    rintro e w2 ⟨rfl, hb⟩
    go_wp2_with fail
    refine (need_ok _ _ _ _).mono ?_
    rintro e w3 ⟨⟨v2, rfl⟩, rfl⟩
    go_wp2_with fail
    go_loop [92] (fun v => v = .int .i64 0) (fun _ => 0)
    case atStart => rfl
    case round =>
      obtain rfl := hrel
      go_wp2_with fail
      refine bodyPost_end (results_none rfl _ _ _) rfl ?_
      exact ⟨⟨_, rfl⟩, hb⟩
theorem begin_any (c : Nat) (w : World) (hC : Blk w c 66 #[.int .i64 0]) : Calls Tryz.prog 65 #[.pointer (some ⟨c, 0, none⟩), .int .i64 1, .int .i64 16] w fun e w' => e = .returned (.int .i64 0) ∧ w' = w.setCell ⟨c, 0, none⟩ (.int .i64 1) := by
  obtain ⟨q1, q2, q3⟩ := hC.rules
  go_enter Tryz.func65, Tryz.ntmps65
  go_wp2_with fail
  go_ret
  exact ⟨rfl, rfl⟩

/-- what is known of a statement's kind -/
structure Plain (k : Int) : Prop where
  a1 : decide ((1 : Int) ≤ k) = true
  a2 : decide (k ≤ (22 : Int)) = true
  a3 : (k == 14) = false
  a4 : (k == 21) = false
  a5 : (k == 16) = false
  a6 : (k == 17) = false
  a7 : (k == 20) = false
theorem plain_of {k : Int} (hk : k = 5 ∨ k = 6) : Plain k := by
  rcases hk with rfl | rfl <;> exact ⟨rfl, rfl, rfl, rfl, rfl, rfl, rfl⟩
set_option maxRecDepth 100000 in
set_option maxHeartbeats 8000000 in
theorem cstmt_bad (c : Nat) (n : Int) (hn1 : 1 ≤ n) (hn2 : n ≤ 16000) (w : World) (hC : Blk w c 66 #[.int .i64 0]) :
    Calls Tryz.prog 41 #[.pointer (some ⟨c, 0, none⟩), .agg (stC 6 n), .int .i64 1, .agg ctxC] w fun e w' => e = .panicked [{ v := probV 20 0, recovered := false }] ∧ Below c w w' := by
  have HF := Lib.hid (form_any 6 n (.inr rfl))
  have HS := Lib.hid (spelled_any 6 n (.inr rfl))
  have hS := (Blk.new w 43 (stC 6 n)).alloc (.cells ctxC 69)
  have hX := Blk.new (w.alloc (.cells (stC 6 n) 43)) 69 ctxC
  have hC2 := (hC.alloc (.cells (stC 6 n) 43)).alloc (.cells ctxC 69)
  rw [show (w.alloc (.cells (stC 6 n) 43)).heap.size = w.heap.size + 1 by simp] at hX
  have hc0 : c ≤ w.heap.size := Nat.le_of_lt hC.lt
  have hb : Below c w (((w.alloc (.cells (stC 6 n) 43)).alloc (.cells ctxC 69)).setCell ⟨c, 0, none⟩ (.int .i64 1)) := (((Below.refl c w).alloc hc0 _).alloc (by simp; omega) _).setCell (p := ⟨c, 0, none⟩) (Nat.le_refl _) _
  unfold stC ctxC at hS hX hC2 hb ⊢
  go_enter Tryz.func41, Tryz.ntmps41
  go_wp2_with fail
  refine (begin_any c _ hC2).mono ?_
  rintro e wr ⟨rfl, hwr⟩
  replace hS := hS.far (p := ⟨c, 0, none⟩) (Nat.ne_of_gt hC.lt) (.int .i64 1)
  replace hX := hX.far (p := ⟨c, 0, none⟩) (by have := hC.lt; simp; omega) (.int .i64 1)
  rw [← hwr] at hS hX hb
  clear hwr hC2
  obtain ⟨q1, q2, q3⟩ := hS.rules
  obtain ⟨p1, p2, p3⟩ := hX.rules
  as_aux_lemma =>
  go_wp2_with fail
  refine (need_ok _ _ _ _).mono ?_
  rintro e wx ⟨⟨v, rfl⟩, rfl⟩
  go_wp2_with fail
  refine (line_any n hn1 hn2 _).mono ?_
  rintro e wx ⟨rfl, rfl⟩
  go_wp2_with fail
  refine (need_ok _ _ _ _).mono ?_
  rintro e wx ⟨⟨v, rfl⟩, rfl⟩
  go_wp2_with fail
  refine (HF.out _).mono ?_
  rintro e wr2 ⟨rfl, hbx⟩
  replace hS := Blk.belowS hS hbx
  replace hX := Blk.belowS hX hbx
  replace hb := below_then hb hbx (Nat.le_trans hc0 (Below.size hb))
  clear hbx q1 q2 q3 p1 p2 p3
  obtain ⟨q1, q2, q3⟩ := hS.rules
  obtain ⟨p1, p2, p3⟩ := hX.rules
  go_wp2_with fail
  refine (need_ok _ _ _ _).mono ?_
  rintro e wx ⟨⟨v, rfl⟩, rfl⟩
  as_aux_lemma =>
  go_wp2_with fail
  refine (HS.out _).mono ?_
  rintro e wr2 ⟨rfl, hbx⟩
  replace hS := Blk.belowS hS hbx
  replace hX := Blk.belowS hX hbx
  replace hb := below_then hb hbx (Nat.le_trans hc0 (Below.size hb))
  clear hbx q1 q2 q3 p1 p2 p3
  obtain ⟨q1, q2, q3⟩ := hS.rules
  obtain ⟨p1, p2, p3⟩ := hX.rules
  go_wp2_with fail
  refine (need_ok _ _ _ _).mono ?_
  rintro e wx ⟨⟨v, rfl⟩, rfl⟩
  go_wp2_with fail
  refine (distinct_any _).mono ?_
  rintro e wr2 ⟨rfl, hbx⟩
  replace hS := Blk.belowS hS hbx
  replace hX := Blk.belowS hX hbx
  replace hb := below_then hb hbx (Nat.le_trans hc0 (Below.size hb))
  clear hbx q1 q2 q3 p1 p2 p3
  obtain ⟨q1, q2, q3⟩ := hS.rules
  obtain ⟨p1, p2, p3⟩ := hX.rules
  go_wp2_with fail
  refine (need_ok _ _ _ _).mono ?_
  rintro e wx ⟨⟨v, rfl⟩, rfl⟩
  as_aux_lemma =>
  go_wp2_with fail
  refine (cparams_nil _ _ _).mono ?_
  rintro e wr2 ⟨⟨v, rfl⟩, hbx⟩
  replace hS := Blk.belowS hS hbx
  replace hX := Blk.belowS hX hbx
  replace hb := below_then hb hbx (Nat.le_trans hc0 (Below.size hb))
  clear hbx q1 q2 q3 p1 p2 p3
  obtain ⟨q1, q2, q3⟩ := hS.rules
  obtain ⟨p1, p2, p3⟩ := hX.rules
  go_wp2_with fail
  refine (stays_not _).mono ?_
  rintro e wr2 ⟨rfl, hbx⟩
  replace hS := Blk.belowS hS hbx
  replace hX := Blk.belowS hX hbx
  replace hb := below_then hb hbx (Nat.le_trans hc0 (Below.size hb))
  clear hbx q1 q2 q3 p1 p2 p3
  obtain ⟨q1, q2, q3⟩ := hS.rules
  obtain ⟨p1, p2, p3⟩ := hX.rules
  go_wp2_with fail
  refine (need_bad _ _ _ _).mono ?_
  rintro e wx ⟨rfl, rfl⟩
  go_wp2_with fail
  exact ⟨rfl, rfl, hb⟩

end Go.Proofs.YtegfhjndbnipfaaGreatDoor
