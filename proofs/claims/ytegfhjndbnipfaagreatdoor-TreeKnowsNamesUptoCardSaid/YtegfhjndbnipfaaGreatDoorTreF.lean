/- The program's trees: Validate of a tree of one statement without parts. Nothing is claimed here. -/
import Derived.Recover
import Derived.Test.YtegfhjndbnipfaaGreatDoorTreE
namespace Go.Proofs.YtegfhjndbnipfaaGreatDoor
open Go.RowKit Go.Lib Go.Maps
set_option linter.unusedVariables false

set_option maxRecDepth 100000 in
set_option maxHeartbeats 4000000 in
theorem cstmts_ok (c b : Nat) (n : Int) (hn1 : 1 ≤ n) (hn2 : n ≤ 16000) (w : World) (hC : Blk w c 66 #[.int .i64 0]) (hT : Blk w b 43 (stC 5 n)) :
    Calls Tryz.prog 30 #[.pointer (some ⟨c, 0, none⟩), .slice (some ⟨b, 0, none⟩) 1 1, .int .i64 1, .agg ctxC] w fun e w' => (∃ v, e = .returned v) ∧ Below c w w' := by
  have hc0 : c ≤ w.heap.size := Nat.le_of_lt hC.lt
  unfold ctxC
  obtain ⟨q1, q2, q3⟩ := hT.rules
  unfold stC at q1
  go_enter Tryz.func30, Tryz.ntmps30
  go_wp2_with fail
  go_loopw [12] (fun v wr => (v = .int .i64 0 ∧ wr = w.alloc (.cells ctxC 69)) ∨ (v = .int .i64 1 ∧ Below c w wr)) (fun v _ => 1 - (RowKit.intOf v).toNat)
  case atStart => exact .inl ⟨rfl, rfl⟩
  case round =>
    rcases hrel with ⟨rfl, rfl⟩ | ⟨rfl, hbr⟩
    · unfold ctxC
      go_wp2_with fail
      refine (cstmt_ok c n hn1 hn2 _ ((hC.alloc _).alloc _)).mono ?_
      rintro e w2 ⟨⟨v, rfl⟩, hbx⟩
      have hb := (((Below.refl c w).alloc hc0 (.cells ctxC 69)).alloc (Nat.le_trans hc0 (by simp)) _).trans hbx
      clear hbx q1 q2 q3
      go_wp2_with fail
      go_roundw
      case rel => exact .inr ⟨by go_num, hb⟩
      case measure => simp [RowKit.intOf]
    · clear q1 q2 q3
      go_wp2_with fail
      refine bodyPost_end (results_none rfl _ _ _) rfl ?_
      exact ⟨⟨_, rfl⟩, hbr⟩
set_option maxRecDepth 100000 in
set_option maxHeartbeats 4000000 in
theorem cstmts_bad (c b : Nat) (n : Int) (hn1 : 1 ≤ n) (hn2 : n ≤ 16000) (w : World) (hC : Blk w c 66 #[.int .i64 0]) (hT : Blk w b 43 (stC 6 n)) :
    Calls Tryz.prog 30 #[.pointer (some ⟨c, 0, none⟩), .slice (some ⟨b, 0, none⟩) 1 1, .int .i64 1, .agg ctxC] w fun e w' => e = .panicked [{ v := probV 20 0, recovered := false }] ∧ Below c w w' := by
  have hc0 : c ≤ w.heap.size := Nat.le_of_lt hC.lt
  unfold ctxC
  obtain ⟨q1, q2, q3⟩ := hT.rules
  unfold stC at q1
  go_enter Tryz.func30, Tryz.ntmps30
  go_wp2_with fail
  go_loopw [12] (fun v wr => v = .int .i64 0 ∧ wr = w.alloc (.cells ctxC 69)) (fun v _ => 1 - (RowKit.intOf v).toNat)
  case atStart => exact ⟨rfl, rfl⟩
  case round =>
    obtain ⟨rfl, rfl⟩ := hrel
    unfold ctxC
    go_wp2_with fail
    refine (cstmt_bad c n hn1 hn2 _ ((hC.alloc _).alloc _)).mono ?_
    rintro e w2 ⟨rfl, hbx⟩
    have hb := (((Below.refl c w).alloc hc0 (.cells ctxC 69)).alloc (Nat.le_trans hc0 (by simp)) _).trans hbx
    clear hbx q1 q2 q3
    go_wp2_with fail
    exact ⟨rfl, rfl, hb⟩

set_option maxRecDepth 100000 in
set_option maxHeartbeats 2000000 in
/-- the deferred closure behind a fault that was thrown: the fault is laid into the result -/
theorem val1_pan (q : Nat) (c i : Int) (a b : Int) (w : World) (hq : Blk w q 25 #[.int .i64 a, .int .i64 b]) :
    CallsD Tryz.prog 29 #[.pointer (some ⟨q, 0, none⟩)] (.panicking [{ v := probV c i, recovered := false }]) w fun e u' w' =>
      e = .returned (.tuple #[]) ∧ u' = .panicking [{ v := probV c i, recovered := true }] ∧ Blk w' q 25 #[.int .i64 c, .int .i64 i] ∧ ∀ B W, B ≤ q → Below B W w → Below B W w' := by
  refine callsD_of_wpS Tryz.func29 rfl fun c₀ cs hu => ?_
  simp only [Tryz.ntmps29, List.size_toArray, List.length_cons, List.length_nil, Nat.reduceAdd, Nat.reduceSub, Array.replicate_succ, Array.replicate_zero, List.push_toArray, List.append_toArray, List.nil_append, List.cons_append]
  apply wpS_seq
  apply wpS_region
  simp [wpOpsS, go_sem, recoverD, hu, Exit.thenS]
  refine wpS_of_wp ?_
  obtain ⟨p1, p2, p3⟩ := hq.rules
  generalize hQ : (fun (e : Exit) (a' : Act) (w' : World) => bodyPostS Tryz.prog Tryz.f29 c₀ cs _ e a' _ w') = Q
  have HQ := Lib.hid hQ
  clear hQ
  unfold probV
  have hta : ∀ (t : TypeId) (v : Value) (w : World), (Instr.typeAssert (.iface 62 v) t 62 true).run Tryz.prog w = .ok (.tuple #[v, .bool true]) w := fun t v w => by kernel_rfl
  go_wp2_with fail
  rw [← HQ.out]
  refine ⟨rfl, _, rfl, .tuple #[], by simp [results, Tryz.results29], rfl, rfl, ((hq.set_ 0 (.int .i64 c)).set_ 1 (.int .i64 i)).alloc _, ?_⟩
  intro B W h1 h3
  have h4 := (h3.setCell (p := ⟨q, 0, none⟩) h1 (.int .i64 c)).setCell (p := ⟨q, 1, none⟩) h1 (.int .i64 i)
  exact h4.alloc (by simp; omega) _
set_option maxHeartbeats 2000000 in
theorem val1_idle (q : Nat) (w : World) :
    CallsD Tryz.prog 29 #[.pointer (some ⟨q, 0, none⟩)] .returning w fun e u' w' => e = .returned (.tuple #[]) ∧ u' = .returning ∧ w' = w := by
  refine callsD_of_wpS Tryz.func29 rfl fun c₀ cs hu => ?_
  simp only [Tryz.ntmps29, List.size_toArray, List.length_cons, List.length_nil, Nat.reduceAdd, Nat.reduceSub, Array.replicate_succ, Array.replicate_zero, List.push_toArray, List.append_toArray, List.nil_append, List.cons_append]
  apply wpS_seq
  apply wpS_region
  simp [wpOpsS, go_sem, recoverD, hu, Exit.thenS]
  refine wpS_of_wp ?_
  go_wp2_with fail
  cases c₀
  simp_all [bodyPostS, results, Tryz.results29]

theorem res_val {w : World} {tmps : Array Value} {p : Nat} {c i : Int} (h2 : tmps.getD 2 undef = .pointer (some ⟨p, 0, none⟩)) (hQ : Blk w p 25 #[.int .i64 c, .int .i64 i]) :
    (results Tryz.f13 tmps).run Tryz.prog w = .ok (flt c i) w := by
  have h2' : tmps[2]?.getD undef = .pointer (some ⟨p, 0, none⟩) := by simpa using h2
  have hd := run_loadVar_row w p 25 25 #[.int .i64 c, .int .i64 i] (0, 0) _ hQ Tryz.underlying25 rfl (by kernel_rfl)
  simp [results, Tryz.results13, h2', asAddr, hd, flt]
set_option maxRecDepth 100000 in
set_option maxHeartbeats 4000000 in
theorem validate_ok (b : Nat) (n : Int) (hn1 : 1 ≤ n) (hn2 : n ≤ 16000) (w : World) (hT : Blk w b 43 (stC 5 n)) :
    Calls Tryz.prog 13 #[.slice (some ⟨b, 0, none⟩) 1 1] w fun e w' => e = .returned (flt 0 0) ∧ Below w.heap.size w w' := by
  have hmf : ∀ (fn : Fn) (first cap : Array Value) (w : World), (Instr.makeFunc fn first cap).run Tryz.prog w = .ok (.func fn first cap) w := fun _ _ _ _ => rfl
  have hR := (Blk.new w 25 #[.int .i64 0, .int .i64 0]).alloc (.cells #[.int .i64 0] 66)
  have hC := Blk.new (w.alloc (.cells #[.int .i64 0, .int .i64 0] 25)) 66 #[.int .i64 0]
  have hsz : (w.alloc (.cells #[.int .i64 0, .int .i64 0] 25)).heap.size = w.heap.size + 1 := by simp
  rw [hsz] at hC
  have hb := ((Below.refl w.heap.size w).alloc (Nat.le_refl _) (.cells #[.int .i64 0, .int .i64 0] 25)).alloc (by simp) (.cells #[.int .i64 0] 66)
  have hT2 := (hT.alloc (.cells #[.int .i64 0, .int .i64 0] 25)).alloc (.cells #[.int .i64 0] 66)
  have HT := Lib.hid hT2
  clear hsz hT hT2
  go_enter_defers Tryz.func13, Tryz.ntmps13
  go_wp2_with fail
  refine (cstmts_ok (w.heap.size + 1) b n hn1 hn2 _ hC HT.out).mono ?_
  rintro e w2 ⟨⟨v, rfl⟩, hbx⟩
  have hR2 := hR.below hbx (Nat.lt_succ_self _)
  have hb2 := hb.trans (hbx.mono (Nat.le_succ _))
  clear hR hC HT hbx hb
  obtain ⟨q1, q2, q3⟩ := hR2.rules
  go_wp2_with fail
  refine leaves_cons (f := 29) (args := #[.pointer (some ⟨w.heap.size, 0, none⟩)]) (by simp) (by simp [go_sem]) ?_
  refine (val1_idle _ _).mono ?_
  rintro e u' w6 ⟨rfl, rfl, rfl⟩
  refine ⟨_, res_val (p := w.heap.size) rfl ((hR2.set_ 0 (.int .i64 0)).set_ 1 (.int .i64 0)), rfl, ?_⟩
  exact (hb2.setCell (p := ⟨w.heap.size, 0, none⟩) (Nat.le_refl _) _).setCell (p := ⟨w.heap.size, 1, none⟩) (Nat.le_refl _) _
set_option maxRecDepth 100000 in
set_option maxHeartbeats 4000000 in
theorem validate_bad (b : Nat) (n : Int) (hn1 : 1 ≤ n) (hn2 : n ≤ 16000) (w : World) (hT : Blk w b 43 (stC 6 n)) :
    Calls Tryz.prog 13 #[.slice (some ⟨b, 0, none⟩) 1 1] w fun e w' => e = .returned (flt 20 0) ∧ Below w.heap.size w w' := by
  have hmf : ∀ (fn : Fn) (first cap : Array Value) (w : World), (Instr.makeFunc fn first cap).run Tryz.prog w = .ok (.func fn first cap) w := fun _ _ _ _ => rfl
  have hR := (Blk.new w 25 #[.int .i64 0, .int .i64 0]).alloc (.cells #[.int .i64 0] 66)
  have hC := Blk.new (w.alloc (.cells #[.int .i64 0, .int .i64 0] 25)) 66 #[.int .i64 0]
  have hsz : (w.alloc (.cells #[.int .i64 0, .int .i64 0] 25)).heap.size = w.heap.size + 1 := by simp
  rw [hsz] at hC
  have hb := ((Below.refl w.heap.size w).alloc (Nat.le_refl _) (.cells #[.int .i64 0, .int .i64 0] 25)).alloc (by simp) (.cells #[.int .i64 0] 66)
  have hT2 := (hT.alloc (.cells #[.int .i64 0, .int .i64 0] 25)).alloc (.cells #[.int .i64 0] 66)
  have HT := Lib.hid hT2
  clear hsz hT hT2
  go_enter_defers Tryz.func13, Tryz.ntmps13
  go_wp2_with fail
  refine (cstmts_bad (w.heap.size + 1) b n hn1 hn2 _ hC HT.out).mono ?_
  rintro e w2 ⟨rfl, hbx⟩
  have hR2 := hR.below hbx (Nat.lt_succ_self _)
  have hb2 := hb.trans (hbx.mono (Nat.le_succ _))
  clear hR hC HT hbx hb
  refine leaves_cons (f := 29) (args := #[.pointer (some ⟨w.heap.size, 0, none⟩)]) (by simp) (by simp [go_sem]) ?_
  refine (val1_pan _ 20 0 _ _ _ hR2).mono ?_
  rintro e u' w6 ⟨rfl, rfl, hQ6, hbb⟩
  exact ⟨_, res_val (p := w.heap.size) rfl hQ6, rfl, hbb _ _ (Nat.le_refl _) hb2⟩

end Go.Proofs.YtegfhjndbnipfaaGreatDoor
