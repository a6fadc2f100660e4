/- The example of the laws on trees: its trees. Nothing is claimed here. -/
import Derived.Test.YtegfhjndbnipfaaGreatDoorTreO
import Derived.Test.YtegfhjndbnipfaaGreatDoorTreK
namespace Go.Proofs.YtegfhjndbnipfaaGreatDoor
open Go.RowKit Go.Lib Go.Maps Go.Sort
set_option linter.unusedVariables false

set_option maxRecDepth 100000 in
set_option maxHeartbeats 2000000 in
theorem pass_any (n : Int) (w : World) : Calls Tryz.prog 10 #[.int .i64 n] w fun e w' => e = .returned (.slice (some ⟨w.heap.size, 0, none⟩) 1 1) ∧ w' = w.alloc (.cells (stC 5 n) 43) := by
  go_enter Tryz.func10, Tryz.ntmps10
  go_wp2_with fail
  go_ret
  exact ⟨rfl, rfl⟩
theorem at_any (c i : Int) (w : World) : Calls Tryz.prog 14 #[.int .i64 c, .int .i64 i] w fun e w' => e = .returned (flt c i) ∧ Below w.heap.size w w' := by
  go_enter Tryz.func14, Tryz.ntmps14
  go_wp2
  exact ret_blk rfl rfl (Blk.new w 25 #[.int .i64 c, .int .i64 i]) _ Tryz.underlying25 rfl (by kernel_rfl) rfl ⟨rfl, (Below.refl _ _).alloc (Nat.le_refl _) _⟩

end Go.Proofs.YtegfhjndbnipfaaGreatDoor
