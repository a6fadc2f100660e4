/- The program's trees: two statements without parts are the same. Nothing is claimed here. -/
import Derived.Test.YtegfhjndbnipfaaGreatDoorTreA
namespace Go.Proofs.YtegfhjndbnipfaaGreatDoor
open Go.RowKit Go.Lib Go.Maps
set_option linter.unusedVariables false

theorem efStmt_nil (f : Value) (w : World) : Calls Tryz.prog 37 #[.slice none 0 0, .slice none 0 0, f] w fun e w' => e = .returned (.bool true) ∧ w = w' := by
  go_enter Tryz.func37, Tryz.ntmps37
  go_wp2_with fail
  go_loop [17] (fun v => v = .int .i64 0) (fun _ => 0)
  case atStart => rfl
  case round =>
    obtain rfl := hrel
    go_wp2_with fail
    go_ret
    exact ⟨rfl, rfl⟩
theorem efItem_nil (f : Value) (w : World) : Calls Tryz.prog 52 #[.slice none 0 0, .slice none 0 0, f] w fun e w' => e = .returned (.bool true) ∧ w = w' := by
  go_enter Tryz.func52, Tryz.ntmps52
  go_wp2_with fail
  go_loop [17] (fun v => v = .int .i64 0) (fun _ => 0)
  case atStart => rfl
  case round =>
    obtain rfl := hrel
    go_wp2_with fail
    go_ret
    exact ⟨rfl, rfl⟩
theorem efHandler_nil (f : Value) (w : World) : Calls Tryz.prog 55 #[.slice none 0 0, .slice none 0 0, f] w fun e w' => e = .returned (.bool true) ∧ w = w' := by
  go_enter Tryz.func55, Tryz.ntmps55
  go_wp2_with fail
  go_loop [17] (fun v => v = .int .i64 0) (fun _ => 0)
  case atStart => rfl
  case round =>
    obtain rfl := hrel
    go_wp2_with fail
    go_ret
    exact ⟨rfl, rfl⟩
theorem efCase_nil (f : Value) (w : World) : Calls Tryz.prog 57 #[.slice none 0 0, .slice none 0 0, f] w fun e w' => e = .returned (.bool true) ∧ w = w' := by
  go_enter Tryz.func57, Tryz.ntmps57
  go_wp2_with fail
  go_loop [17] (fun v => v = .int .i64 0) (fun _ => 0)
  case atStart => rfl
  case round =>
    obtain rfl := hrel
    go_wp2_with fail
    go_ret
    exact ⟨rfl, rfl⟩
theorem efExpr_nil (f : Value) (w : World) : Calls Tryz.prog 84 #[.slice none 0 0, .slice none 0 0, f] w fun e w' => e = .returned (.bool true) ∧ w = w' := by
  go_enter Tryz.func84, Tryz.ntmps84
  go_wp2_with fail
  go_loop [17] (fun v => v = .int .i64 0) (fun _ => 0)
  case atStart => rfl
  case round =>
    obtain rfl := hrel
    go_wp2_with fail
    go_ret
    exact ⟨rfl, rfl⟩
theorem efParam_nil (f : Value) (w : World) : Calls Tryz.prog 85 #[.slice none 0 0, .slice none 0 0, f] w fun e w' => e = .returned (.bool true) ∧ w = w' := by
  go_enter Tryz.func85, Tryz.ntmps85
  go_wp2_with fail
  go_loop [17] (fun v => v = .int .i64 0) (fun _ => 0)
  case atStart => rfl
  case round =>
    obtain rfl := hrel
    go_wp2_with fail
    go_ret
    exact ⟨rfl, rfl⟩
theorem eqStr_nil (w : World) : Calls Tryz.prog 49 #[.slice none 0 0, .slice none 0 0] w fun e w' => e = .returned (.bool true) ∧ w = w' := by
  go_enter Tryz.func49, Tryz.ntmps49
  go_wp2_with fail
  go_loop [13] (fun v => v = .int .i64 0) (fun _ => 0)
  case atStart => rfl
  case round =>
    obtain rfl := hrel
    go_wp2_with fail
    go_ret
    exact ⟨rfl, rfl⟩
theorem sameExprs_nil (w : World) : Calls Tryz.prog 50 #[.slice none 0 0, .slice none 0 0] w fun e w' => e = .returned (.bool true) ∧ w = w' := by
  go_enter Tryz.func50, Tryz.ntmps50
  go_wp2_with fail
  refine (efExpr_nil _ _).mono ?_
  rintro e w1 ⟨rfl, rfl⟩
  go_wp2_with fail
  go_ret
  exact ⟨rfl, rfl⟩
theorem sameParams_nil (w : World) : Calls Tryz.prog 51 #[.slice none 0 0, .slice none 0 0] w fun e w' => e = .returned (.bool true) ∧ w = w' := by
  go_enter Tryz.func51, Tryz.ntmps51
  go_wp2_with fail
  refine (efParam_nil _ _).mono ?_
  rintro e w1 ⟨rfl, rfl⟩
  go_wp2_with fail
  go_ret
  exact ⟨rfl, rfl⟩
theorem sameStmts_nil (w : World) : Calls Tryz.prog 22 #[.slice none 0 0, .slice none 0 0] w fun e w' => e = .returned (.bool true) ∧ w = w' := by
  go_enter Tryz.func22, Tryz.ntmps22
  go_wp2_with fail
  refine (efStmt_nil _ _).mono ?_
  rintro e w1 ⟨rfl, rfl⟩
  go_wp2_with fail
  go_ret
  exact ⟨rfl, rfl⟩
set_option maxRecDepth 100000 in
set_option maxHeartbeats 4000000 in
theorem sameStmt_any (k n m : Int) (w : World) : Calls Tryz.prog 38 #[.agg (stC k n), .agg (stC k m)] w fun e w' => e = .returned (.bool true) ∧ Below w.heap.size w w' := by
  have hS := (Blk.new w 43 (stC k n)).alloc (.cells (stC k m) 43)
  have hT := Blk.new (w.alloc (.cells (stC k n) 43)) 43 (stC k m)
  rw [show (w.alloc (.cells (stC k n) 43)).heap.size = w.heap.size + 1 by simp] at hT
  have hb := ((Below.refl w.heap.size w).alloc (Nat.le_refl _) (.cells (stC k n) 43)).alloc (by simp) (.cells (stC k m) 43)
  obtain ⟨W, hW⟩ : ∃ W, (w.alloc (.cells (stC k n) 43)).alloc (.cells (stC k m) 43) = W := ⟨_, rfl⟩
  rw [hW] at hS hT hb
  obtain ⟨q1, q2, q3⟩ := hS.rules
  obtain ⟨p1, p2, p3⟩ := hT.rules
  have e1 : (k == k) = true := by simp
  unfold stC at q1 p1 hW ⊢
  go_enter Tryz.func38, Tryz.ntmps38
  go_wp2_with fail
  refine (eqStr_nil _).mono ?_
  rintro e wx ⟨rfl, rfl⟩
  go_wp2_with fail
  refine (sameExprs_nil _).mono ?_
  rintro e wx ⟨rfl, rfl⟩
  go_wp2_with fail
  refine (sameExprs_nil _).mono ?_
  rintro e wx ⟨rfl, rfl⟩
  as_aux_lemma =>
  go_wp2_with fail
  refine (sameParams_nil _).mono ?_
  rintro e wx ⟨rfl, rfl⟩
  go_wp2_with fail
  refine (sameStmts_nil _).mono ?_
  rintro e wx ⟨rfl, rfl⟩
  go_wp2_with fail
  refine (sameStmts_nil _).mono ?_
  rintro e wx ⟨rfl, rfl⟩
  go_wp2_with fail
  refine (sameStmts_nil _).mono ?_
  rintro e wx ⟨rfl, rfl⟩
  as_aux_lemma =>
  go_wp2_with fail
  refine (efItem_nil _ _).mono ?_
  rintro e wx ⟨rfl, rfl⟩
  go_wp2_with fail
  refine (efHandler_nil _ _).mono ?_
  rintro e wx ⟨rfl, rfl⟩
  go_wp2_with fail
  refine (efCase_nil _ _).mono ?_
  rintro e wx ⟨rfl, rfl⟩
  go_wp2_with fail
  go_ret
  exact ⟨rfl, hb⟩

end Go.Proofs.YtegfhjndbnipfaaGreatDoor
