/- The program's trees: its small functions at a statement without parts. Nothing is claimed here. -/
import Derived.IntWalk
import Derived.Maps.OwnOps
import Derived.Carry
import Derived.WideLaws
import Derived.Test.YtegfhjndbnipfaaGreatDoorCore
import Derived.Test.YtegfhjndbnipfaaGreatDoorProg
namespace Go.Proofs.YtegfhjndbnipfaaGreatDoor
open Go.RowKit Go.Lib Go.Maps
set_option linter.unusedVariables false

/-- a statement of a kind at a line, with nothing else -/
def stC (k n : Int) : Array Value := #[.int .i64 k, .int .i64 n, .string ⟨#[]⟩, .slice none 0 0, .int .i64 0, .slice none 0 0, .slice none 0 0, .slice none 0 0, .slice none 0 0, .slice none 0 0, .slice none 0 0, .slice none 0 0, .slice none 0 0, .slice none 0 0, .bool false]
def ctxC : Array Value := #[.bool false, .bool false, .bool false, .bool false, .bool false, .bool false, .bool false, .bool false]
def flt (c i : Int) : Value := .agg #[.int .i64 c, .int .i64 i]
/-- what fail throws -/
def probV (c i : Int) : Value := .iface 62 (.agg #[.int .i64 c, .int .i64 i])

theorem line_any (n : Int) (h1 : 1 ≤ n) (h2 : n ≤ 16000) (w : World) : Calls Tryz.prog 27 #[.int .i64 n] w fun e w' => e = .returned (.bool true) ∧ w = w' := by
  have c1 : decide ((1 : Int) ≤ n) = true := decide_eq_true h1
  have c2 : decide (n ≤ (16000 : Int)) = true := decide_eq_true h2
  go_enter Tryz.func27, Tryz.ntmps27
  go_wp2_with fail
  go_ret
  exact ⟨rfl, rfl⟩
theorem nexprs_any (k : Int) (hk : k = 5 ∨ k = 6) (w : World) : Calls Tryz.prog 95 #[.int .i64 k] w fun e w' => e = .returned (.tuple #[.int .i64 0, .int .i64 0]) ∧ w = w' := by
  rcases hk with rfl | rfl
  all_goals
    go_enter Tryz.func95, Tryz.ntmps95
    go_wp2_with fail
    go_ret2
    exact ⟨rfl, rfl⟩
theorem thas_any (k n : Int) (ks : Value) (w : World) : Calls Tryz.prog 118 #[.int .i64 0, .agg (stC k n), ks] w fun e w' => e = .returned (.bool true) ∧ Below w.heap.size w w' := by
  unfold stC
  go_enter Tryz.func118, Tryz.ntmps118
  go_wp2_with fail
  go_ret
  exact ⟨rfl, (Below.refl _ _).alloc (Nat.le_refl _) _⟩
theorem need_ok (p : Value) (c i : Int) (w : World) : Calls Tryz.prog 66 #[p, .bool true, .int .i64 c, .int .i64 i] w fun e w' => (∃ v, e = .returned v) ∧ w = w' := by
  go_enter Tryz.func66, Tryz.ntmps66
  go_wp2_with fail
  refine bodyPost_end (results_none rfl _ _ _) rfl ?_
  exact ⟨⟨_, rfl⟩, rfl⟩
theorem cfail_any (p : Value) (c i : Int) (w : World) : Calls Tryz.prog 94 #[p, .int .i64 c, .int .i64 i] w fun e w' => e = .panicked [{ v := probV c i, recovered := false }] ∧ w = w' := by
  go_enter Tryz.func94, Tryz.ntmps94
  go_wp2
  exact ⟨rfl, rfl, rfl⟩
theorem need_bad (p : Value) (c i : Int) (w : World) : Calls Tryz.prog 66 #[p, .bool false, .int .i64 c, .int .i64 i] w fun e w' => e = .panicked [{ v := probV c i, recovered := false }] ∧ w = w' := by
  go_enter Tryz.func66, Tryz.ntmps66
  go_wp2_with fail
  refine (cfail_any _ _ _ _).mono ?_
  rintro e w1 ⟨rfl, rfl⟩
  go_wp2_with fail
  exact ⟨rfl, rfl, rfl⟩
theorem cfExprI (x : Value) (w : World) : Calls Tryz.prog 103 #[.slice none 0 0, x] w fun e w' => e = .returned (.int .i64 (-1)) ∧ w = w' := by
  go_enter Tryz.func103, Tryz.ntmps103
  go_wp2_with fail
  go_loop [8] (fun v => v = .int .i64 0) (fun _ => 0)
  case atStart => rfl
  case round =>
    obtain rfl := hrel
    go_wp2_with fail
    go_ret
    exact ⟨rfl, rfl⟩
theorem cfExpr_any (x : Value) (w : World) : Calls Tryz.prog 97 #[.slice none 0 0, x] w fun e w' => e = .returned (.bool false) ∧ w = w' := by
  go_enter Tryz.func97, Tryz.ntmps97
  go_wp2_with fail
  refine (cfExprI x w).mono ?_
  rintro e w1 ⟨rfl, rfl⟩
  go_wp2_with fail
  go_ret
  exact ⟨rfl, rfl⟩
theorem cfStrI (x : Value) (w : World) : Calls Tryz.prog 120 #[.slice none 0 0, x] w fun e w' => e = .returned (.int .i64 (-1)) ∧ w = w' := by
  go_enter Tryz.func120, Tryz.ntmps120
  go_wp2_with fail
  go_loop [8] (fun v => v = .int .i64 0) (fun _ => 0)
  case atStart => rfl
  case round =>
    obtain rfl := hrel
    go_wp2_with fail
    go_ret
    exact ⟨rfl, rfl⟩
theorem cfStr_any (x : Value) (w : World) : Calls Tryz.prog 100 #[.slice none 0 0, x] w fun e w' => e = .returned (.bool false) ∧ w = w' := by
  go_enter Tryz.func100, Tryz.ntmps100
  go_wp2_with fail
  refine (cfStrI x w).mono ?_
  rintro e w1 ⟨rfl, rfl⟩
  go_wp2_with fail
  go_ret
  exact ⟨rfl, rfl⟩
set_option maxRecDepth 100000 in
theorem distinct_any (w : World) : Calls Tryz.prog 69 #[.slice none 0 0] w fun e w' => e = .returned (.bool true) ∧ Below w.heap.size w w' := by
  have hM : (w.alloc (.map #[] 0)).heap[w.heap.size]? = some (.map #[] 0) := heap_alloc_new w _
  have hlen := run_len_map (P := Tryz.prog) (w := w.alloc (.map #[] 0)) 161 3 w.heap.size #[] 0 (by kernel_rfl) hM
  have hmm := @run_makeMap Tryz.prog
  have hb := (Below.refl w.heap.size w).alloc (Nat.le_refl _) (.map #[] 0)
  go_enter Tryz.func69, Tryz.ntmps69
  go_wp2_with fail
  clear hmm hM
  go_loop [9] (fun v => v = .int .i64 0) (fun _ => 0)
  case atStart => rfl
  case round =>
    obtain rfl := hrel
    generalize w.alloc (.map #[] 0) = w1 at hlen hb ⊢
    go_wp2_with fail
    go_ret
    exact ⟨rfl, hb⟩
set_option maxRecDepth 100000 in
theorem tnames_any (k n : Int) (hk : k = 5 ∨ k = 6) (w : World) : Calls Tryz.prog 98 #[.agg (stC k n)] w fun e w' => e = .returned (.bool true) ∧ Below w.heap.size w w' := by
  unfold stC
  rcases hk with rfl | rfl
  all_goals
    go_enter Tryz.func98, Tryz.ntmps98
    go_wp2_with fail
    go_ret
    exact ⟨rfl, (Below.refl _ _).alloc (Nat.le_refl _) _⟩
set_option maxRecDepth 100000 in
set_option maxHeartbeats 2000000 in
theorem spelled_any (k n : Int) (hk : k = 5 ∨ k = 6) (w : World) : Calls Tryz.prog 68 #[.agg (stC k n)] w fun e w' => e = .returned (.bool true) ∧ Below w.heap.size w w' := by
  rcases hk with rfl | rfl
  · have hS := Blk.new w 43 (stC 5 n)
    have hb := (Below.refl w.heap.size w).alloc (Nat.le_refl _) (.cells (stC 5 n) 43)
    obtain ⟨q1, q2, q3⟩ := hS.rules
    unfold stC at q1 hS hb ⊢
    go_enter Tryz.func68, Tryz.ntmps68
    go_wp2_with fail
    go_loop [24] (fun v => v = .int .i64 0) (fun _ => 0)
    case atStart => rfl
    case round =>
      obtain rfl := hrel
      go_wp2_with fail
      refine (cfStr_any _ _).mono ?_
      rintro e wr ⟨rfl, rfl⟩
      go_wp2_with fail
      go_ret
      exact ⟨rfl, hb⟩
  · have hS := Blk.new w 43 (stC 6 n)
    have hb := (Below.refl w.heap.size w).alloc (Nat.le_refl _) (.cells (stC 6 n) 43)
    obtain ⟨q1, q2, q3⟩ := hS.rules
    unfold stC at q1 hS hb ⊢
    go_enter Tryz.func68, Tryz.ntmps68
    go_wp2_with fail
    go_loop [24] (fun v => v = .int .i64 0) (fun _ => 0)
    case atStart => rfl
    case round =>
      obtain rfl := hrel
      go_wp2_with fail
      refine (cfStr_any _ _).mono ?_
      rintro e wr ⟨rfl, rfl⟩
      go_wp2_with fail
      go_ret
      exact ⟨rfl, hb⟩

set_option maxRecDepth 100000 in
theorem stays_any (w : World) : Calls Tryz.prog 72 #[.int .i64 5, .agg ctxC] w fun e w' => e = .returned (.bool true) ∧ Below w.heap.size w w' := by
  unfold ctxC
  go_enter Tryz.func72, Tryz.ntmps72
  go_wp2_with fail
  go_ret
  exact ⟨rfl, (Below.refl _ _).alloc (Nat.le_refl _) _⟩
set_option maxRecDepth 100000 in
theorem stays_not (w : World) : Calls Tryz.prog 72 #[.int .i64 6, .agg ctxC] w fun e w' => e = .returned (.bool false) ∧ Below w.heap.size w w' := by
  unfold ctxC
  go_enter Tryz.func72, Tryz.ntmps72
  go_wp2_with fail
  go_ret
  exact ⟨rfl, (Below.refl _ _).alloc (Nat.le_refl _) _⟩

end Go.Proofs.YtegfhjndbnipfaaGreatDoor
