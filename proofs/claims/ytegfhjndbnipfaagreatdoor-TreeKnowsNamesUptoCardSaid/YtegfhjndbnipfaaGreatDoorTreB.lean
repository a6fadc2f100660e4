/- The program's trees: blocks at a statement without parts. Nothing is claimed here. -/
import Derived.Test.YtegfhjndbnipfaaGreatDoorTreA
namespace Go.Proofs.YtegfhjndbnipfaaGreatDoor
open Go.RowKit Go.Lib Go.Maps
set_option linter.unusedVariables false

set_option maxRecDepth 100000 in
set_option maxHeartbeats 4000000 in
theorem blocks_any (k n : Int) (hk : k = 5 ∨ k = 6) (w : World) : Calls Tryz.prog 99 #[.agg (stC k n)] w fun e w' => e = .returned (.bool true) ∧ Below w.heap.size w w' := by
  have f1 : decide ((15 : Int) ≤ k) = false := decide_eq_false (by omega)
  have f2 : (k != 22) = true := by rw [bne_iff_ne]; omega
  have f3 : (k == 19) = false := by rw [beq_eq_false_iff_ne]; omega
  have f4 : (k == 22) = false := by rw [beq_eq_false_iff_ne]; omega
  have f5 : (k != 18) = true := by rw [bne_iff_ne]; omega
  have f6 : (k != 20) = true := by rw [bne_iff_ne]; omega
  clear hk
  have hS := Blk.new w 43 (stC k n)
  have hb := (Below.refl w.heap.size w).alloc (Nat.le_refl _) (.cells (stC k n) 43)
  obtain ⟨q1, q2, q3⟩ := hS.rules
  unfold stC at q1 hS hb ⊢
  go_enter Tryz.func99, Tryz.ntmps99
  as_aux_lemma =>
  go_wp2_with fail
  refine (thas_any k n _ _).mono ?_
  rintro e wr ⟨rfl, hbx⟩
  replace hS := (Blk.alloc hS _).belowS hbx
  replace hb := below_then (Below.alloc hb (Below.size hb) _) hbx (Below.size (Below.alloc hb (Below.size hb) _))
  clear hbx q1 q2 q3
  obtain ⟨q1, q2, q3⟩ := hS.rules
  as_aux_lemma =>
  go_wp2_with fail
  refine (thas_any k n _ _).mono ?_
  rintro e wr ⟨rfl, hbx⟩
  replace hS := (Blk.alloc hS _).belowS hbx
  replace hb := below_then (Below.alloc hb (Below.size hb) _) hbx (Below.size (Below.alloc hb (Below.size hb) _))
  clear hbx q1 q2 q3
  obtain ⟨q1, q2, q3⟩ := hS.rules
  as_aux_lemma =>
  go_wp2_with fail
  refine (thas_any k n _ _).mono ?_
  rintro e wr ⟨rfl, hbx⟩
  replace hS := (Blk.alloc hS _).belowS hbx
  replace hb := below_then (Below.alloc hb (Below.size hb) _) hbx (Below.size (Below.alloc hb (Below.size hb) _))
  clear hbx q1 q2 q3
  obtain ⟨q1, q2, q3⟩ := hS.rules
  as_aux_lemma =>
  go_wp2_with fail
  refine (thas_any k n _ _).mono ?_
  rintro e wr ⟨rfl, hbx⟩
  replace hS := (Blk.alloc hS _).belowS hbx
  replace hb := below_then (Below.alloc hb (Below.size hb) _) hbx (Below.size (Below.alloc hb (Below.size hb) _))
  clear hbx q1 q2 q3
  obtain ⟨q1, q2, q3⟩ := hS.rules
  as_aux_lemma =>
  go_wp2_with fail
  refine (thas_any k n _ _).mono ?_
  rintro e wr ⟨rfl, hbx⟩
  replace hS := (Blk.alloc hS _).belowS hbx
  replace hb := below_then (Below.alloc hb (Below.size hb) _) hbx (Below.size (Below.alloc hb (Below.size hb) _))
  clear hbx q1 q2 q3
  obtain ⟨q1, q2, q3⟩ := hS.rules
  as_aux_lemma =>
  go_wp2_with fail
  go_loop [84] (fun v => v = .int .i64 0) (fun _ => 0)
  case atStart => rfl
  case round =>
    obtain rfl := hrel
    go_wp2_with fail
    go_loop [96] (fun v => v = .int .i64 0) (fun _ => 0)
    case atStart => rfl
    case round =>
      obtain rfl := hrel
      go_wp2_with fail
      go_ret
      exact ⟨rfl, hb⟩

end Go.Proofs.YtegfhjndbnipfaaGreatDoor
