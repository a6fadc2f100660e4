/- The program's trees: form at a statement without parts. Nothing is claimed here. -/
import Derived.Test.YtegfhjndbnipfaaGreatDoorTreB
namespace Go.Proofs.YtegfhjndbnipfaaGreatDoor
open Go.RowKit Go.Lib Go.Maps
set_option linter.unusedVariables false

set_option maxRecDepth 100000 in
set_option maxHeartbeats 2000000 in
theorem form_any (k n : Int) (hk : k = 5 ∨ k = 6) (w : World) : Calls Tryz.prog 67 #[.agg (stC k n)] w fun e w' => e = .returned (.bool true) ∧ Below w.heap.size w w' := by
  have HN := Lib.hid (nexprs_any k hk)
  have HM := Lib.hid (tnames_any k n hk)
  have HB := Lib.hid (blocks_any k n hk)
  rcases hk with rfl | rfl
  · have hS := Blk.new w 43 (stC 5 n)
    have hb := (Below.refl w.heap.size w).alloc (Nat.le_refl _) (.cells (stC 5 n) 43)
    obtain ⟨q1, q2, q3⟩ := hS.rules
    unfold stC at q1 hS hb ⊢
    go_enter Tryz.func67, Tryz.ntmps67
    go_wp2_with fail
    refine (HN.out _).mono ?_
    rintro e wr ⟨rfl, rfl⟩
    go_wp2_with fail
    refine (cfExpr_any _ _).mono ?_
    rintro e wr ⟨rfl, rfl⟩
    go_wp2_with fail
    refine (HM.out _).mono ?_
    rintro e wr ⟨rfl, hbx⟩
    replace hS := Blk.belowS hS hbx
    replace hb := below_then hb hbx (Below.size hb)
    clear hbx q1 q2 q3
    obtain ⟨q1, q2, q3⟩ := hS.rules
    go_wp2_with fail
    refine (HB.out _).mono ?_
    rintro e wr2 ⟨rfl, hbx⟩
    replace hS := Blk.belowS hS hbx
    replace hb := below_then hb hbx (Below.size hb)
    clear hbx q1 q2 q3
    obtain ⟨q1, q2, q3⟩ := hS.rules
    go_wp2_with fail
    go_ret
    exact ⟨rfl, hb⟩
  · have hS := Blk.new w 43 (stC 6 n)
    have hb := (Below.refl w.heap.size w).alloc (Nat.le_refl _) (.cells (stC 6 n) 43)
    obtain ⟨q1, q2, q3⟩ := hS.rules
    unfold stC at q1 hS hb ⊢
    go_enter Tryz.func67, Tryz.ntmps67
    go_wp2_with fail
    refine (HN.out _).mono ?_
    rintro e wr ⟨rfl, rfl⟩
    go_wp2_with fail
    refine (cfExpr_any _ _).mono ?_
    rintro e wr ⟨rfl, rfl⟩
    go_wp2_with fail
    refine (HM.out _).mono ?_
    rintro e wr ⟨rfl, hbx⟩
    replace hS := Blk.belowS hS hbx
    replace hb := below_then hb hbx (Below.size hb)
    clear hbx q1 q2 q3
    obtain ⟨q1, q2, q3⟩ := hS.rules
    go_wp2_with fail
    refine (HB.out _).mono ?_
    rintro e wr2 ⟨rfl, hbx⟩
    replace hS := Blk.belowS hS hbx
    replace hb := below_then hb hbx (Below.size hb)
    clear hbx q1 q2 q3
    obtain ⟨q1, q2, q3⟩ := hS.rules
    go_wp2_with fail
    go_ret
    exact ⟨rfl, hb⟩


end Go.Proofs.YtegfhjndbnipfaaGreatDoor
