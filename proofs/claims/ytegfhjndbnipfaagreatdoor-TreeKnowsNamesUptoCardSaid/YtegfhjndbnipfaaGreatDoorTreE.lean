/- The program's trees: the checks of a statement without parts that is right. Nothing is claimed here. -/
import Derived.Test.YtegfhjndbnipfaaGreatDoorTreD
namespace Go.Proofs.YtegfhjndbnipfaaGreatDoor
open Go.RowKit Go.Lib Go.Maps
set_option linter.unusedVariables false

set_option maxRecDepth 100000 in
set_option maxHeartbeats 8000000 in
theorem cstmt_ok (c : Nat) (n : Int) (hn1 : 1 ≤ n) (hn2 : n ≤ 16000) (w : World) (hC : Blk w c 66 #[.int .i64 0]) :
    Calls Tryz.prog 41 #[.pointer (some ⟨c, 0, none⟩), .agg (stC 5 n), .int .i64 1, .agg ctxC] w fun e w' => (∃ v, e = .returned v) ∧ Below c w w' := by
  have HF := Lib.hid (form_any 5 n (.inl rfl))
  have HS := Lib.hid (spelled_any 5 n (.inl rfl))
  have hS := (Blk.new w 43 (stC 5 n)).alloc (.cells ctxC 69)
  have hX := Blk.new (w.alloc (.cells (stC 5 n) 43)) 69 ctxC
  have hC2 := (hC.alloc (.cells (stC 5 n) 43)).alloc (.cells ctxC 69)
  rw [show (w.alloc (.cells (stC 5 n) 43)).heap.size = w.heap.size + 1 by simp] at hX
  have hc0 : c ≤ w.heap.size := Nat.le_of_lt hC.lt
  have hb : Below c w (((w.alloc (.cells (stC 5 n) 43)).alloc (.cells ctxC 69)).setCell ⟨c, 0, none⟩ (.int .i64 1)) := (((Below.refl c w).alloc hc0 _).alloc (by simp; omega) _).setCell (p := ⟨c, 0, none⟩) (Nat.le_refl _) _
  unfold stC ctxC at hS hX hC2 hb ⊢
  go_enter Tryz.func41, Tryz.ntmps41
  go_wp2_with fail
  refine (begin_any c _ hC2).mono ?_
  rintro e wr ⟨rfl, hwr⟩
  replace hS := hS.far (p := ⟨c, 0, none⟩) (Nat.ne_of_gt hC.lt) (.int .i64 1)
  replace hX := hX.far (p := ⟨c, 0, none⟩) (by have := hC.lt; simp; omega) (.int .i64 1)
  rw [← hwr] at hS hX hb
  clear hwr hC2
  obtain ⟨q1, q2, q3⟩ := hS.rules
  obtain ⟨p1, p2, p3⟩ := hX.rules
  as_aux_lemma =>
  go_wp2_with fail
  refine (need_ok _ _ _ _).mono ?_
  rintro e wx ⟨⟨v, rfl⟩, rfl⟩
  go_wp2_with fail
  refine (line_any n hn1 hn2 _).mono ?_
  rintro e wx ⟨rfl, rfl⟩
  go_wp2_with fail
  refine (need_ok _ _ _ _).mono ?_
  rintro e wx ⟨⟨v, rfl⟩, rfl⟩
  go_wp2_with fail
  refine (HF.out _).mono ?_
  rintro e wr2 ⟨rfl, hbx⟩
  replace hS := Blk.belowS hS hbx
  replace hX := Blk.belowS hX hbx
  replace hb := below_then hb hbx (Nat.le_trans hc0 (Below.size hb))
  clear hbx q1 q2 q3 p1 p2 p3
  obtain ⟨q1, q2, q3⟩ := hS.rules
  obtain ⟨p1, p2, p3⟩ := hX.rules
  go_wp2_with fail
  refine (need_ok _ _ _ _).mono ?_
  rintro e wx ⟨⟨v, rfl⟩, rfl⟩
  as_aux_lemma =>
  go_wp2_with fail
  refine (HS.out _).mono ?_
  rintro e wr2 ⟨rfl, hbx⟩
  replace hS := Blk.belowS hS hbx
  replace hX := Blk.belowS hX hbx
  replace hb := below_then hb hbx (Nat.le_trans hc0 (Below.size hb))
  clear hbx q1 q2 q3 p1 p2 p3
  obtain ⟨q1, q2, q3⟩ := hS.rules
  obtain ⟨p1, p2, p3⟩ := hX.rules
  go_wp2_with fail
  refine (need_ok _ _ _ _).mono ?_
  rintro e wx ⟨⟨v, rfl⟩, rfl⟩
  go_wp2_with fail
  refine (distinct_any _).mono ?_
  rintro e wr2 ⟨rfl, hbx⟩
  replace hS := Blk.belowS hS hbx
  replace hX := Blk.belowS hX hbx
  replace hb := below_then hb hbx (Nat.le_trans hc0 (Below.size hb))
  clear hbx q1 q2 q3 p1 p2 p3
  obtain ⟨q1, q2, q3⟩ := hS.rules
  obtain ⟨p1, p2, p3⟩ := hX.rules
  go_wp2_with fail
  refine (need_ok _ _ _ _).mono ?_
  rintro e wx ⟨⟨v, rfl⟩, rfl⟩
  as_aux_lemma =>
  go_wp2_with fail
  refine (cparams_nil _ _ _).mono ?_
  rintro e wr2 ⟨⟨v, rfl⟩, hbx⟩
  replace hS := Blk.belowS hS hbx
  replace hX := Blk.belowS hX hbx
  replace hb := below_then hb hbx (Nat.le_trans hc0 (Below.size hb))
  clear hbx q1 q2 q3 p1 p2 p3
  obtain ⟨q1, q2, q3⟩ := hS.rules
  obtain ⟨p1, p2, p3⟩ := hX.rules
  go_wp2_with fail
  refine (stays_any _).mono ?_
  rintro e wr2 ⟨rfl, hbx⟩
  replace hS := Blk.belowS hS hbx
  replace hX := Blk.belowS hX hbx
  replace hb := below_then hb hbx (Nat.le_trans hc0 (Below.size hb))
  clear hbx q1 q2 q3 p1 p2 p3
  obtain ⟨q1, q2, q3⟩ := hS.rules
  obtain ⟨p1, p2, p3⟩ := hX.rules
  go_wp2_with fail
  refine (need_ok _ _ _ _).mono ?_
  rintro e wx ⟨⟨v, rfl⟩, rfl⟩
  as_aux_lemma =>
  go_wp2_with fail
  go_loop [83] (fun v => v = .int .i64 0) (fun _ => 0)
  case atStart => rfl
  case round =>
    obtain rfl := hrel
    go_wp2_with fail
    refine (cexprs_nil _ _ _ _).mono ?_
    rintro e wr2 ⟨⟨v, rfl⟩, hbx⟩
    replace hS := Blk.belowS hS hbx
    replace hX := Blk.belowS hX hbx
    replace hb := below_then hb hbx (Nat.le_trans hc0 (Below.size hb))
    clear hbx q1 q2 q3 p1 p2 p3
    obtain ⟨q1, q2, q3⟩ := hS.rules
    obtain ⟨p1, p2, p3⟩ := hX.rules
    go_wp2_with fail
    refine (cdefaults_nil _ _ _).mono ?_
    rintro e wr2 ⟨⟨v, rfl⟩, hbx⟩
    replace hS := Blk.belowS hS hbx
    replace hX := Blk.belowS hX hbx
    replace hb := below_then hb hbx (Nat.le_trans hc0 (Below.size hb))
    clear hbx q1 q2 q3 p1 p2 p3
    obtain ⟨q1, q2, q3⟩ := hS.rules
    obtain ⟨p1, p2, p3⟩ := hX.rules
    as_aux_lemma =>
    go_wp2_with fail
    go_loop [109] (fun v => v = .int .i64 0) (fun _ => 0)
    case atStart => rfl
    case round =>
      obtain rfl := hrel
      go_wp2_with fail
      go_loop [138] (fun v => v = .int .i64 0) (fun _ => 0)
      case atStart => rfl
      case round =>
        obtain rfl := hrel
        go_wp2_with fail
        go_loop [158] (fun v => v = .int .i64 0) (fun _ => 0)
        case atStart => rfl
        case round =>
          obtain rfl := hrel
          go_wp2_with fail
          refine (cstmts_nil _ _ _).mono ?_
          rintro e wr3 ⟨⟨v, rfl⟩, hbx⟩
          replace hS := Blk.belowS (Blk.alloc (Blk.alloc hS _) _) hbx
          replace hX := Blk.belowS (Blk.alloc (Blk.alloc hX _) _) hbx
          have hb1 := Below.alloc hb (Nat.le_trans hc0 (Below.size hb)) (.cells ctxC 69)
          have hb2 := Below.alloc hb1 (Nat.le_trans hc0 (Below.size hb1)) (.cells ctxC 69)
          replace hb := below_then hb2 hbx (Nat.le_trans hc0 (Below.size hb2))
          clear hbx hb1 hb2 q1 q2 q3 p1 p2 p3
          obtain ⟨q1, q2, q3⟩ := hS.rules
          obtain ⟨p1, p2, p3⟩ := hX.rules
          as_aux_lemma =>
          go_wp2_with fail
          refine (cstmts_nil _ _ _).mono ?_
          rintro e wr2 ⟨⟨v, rfl⟩, hbx⟩
          replace hS := Blk.belowS hS hbx
          replace hX := Blk.belowS hX hbx
          replace hb := below_then hb hbx (Nat.le_trans hc0 (Below.size hb))
          clear hbx q1 q2 q3 p1 p2 p3
          obtain ⟨q1, q2, q3⟩ := hS.rules
          obtain ⟨p1, p2, p3⟩ := hX.rules
          go_wp2_with fail
          refine (cstmts_nil _ _ _).mono ?_
          rintro e wr2 ⟨⟨v, rfl⟩, hbx⟩
          replace hS := Blk.belowS hS hbx
          replace hX := Blk.belowS hX hbx
          replace hb := below_then hb hbx (Nat.le_trans hc0 (Below.size hb))
          clear hbx q1 q2 q3 p1 p2 p3
          obtain ⟨q1, q2, q3⟩ := hS.rules
          obtain ⟨p1, p2, p3⟩ := hX.rules
          go_wp2_with fail
          refine bodyPost_end (results_none rfl _ _ _) rfl ?_
          exact ⟨⟨_, rfl⟩, hb⟩

end Go.Proofs.YtegfhjndbnipfaaGreatDoor
