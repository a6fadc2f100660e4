/- Walks: the table of instructions. Nothing is claimed here. -/
import Derived.Test.YtdajaddgdmoneaaDoorOpA
import Derived.Great.BuildSlice
namespace Go.Proofs.YtdajaddgdmoneaaDoor
open Go.RowKit
set_option linter.unusedVariables false

theorem info_entry : (Tryd.prog.info? 50).map (fun i => (i.zero, i.size, i.bytes)) = some (some (.agg #[.string ByteArray.empty, .int .i64 0, .int .i64 0]), 3, 32) := by kernel_rfl

set_option maxHeartbeats 4000000 in
set_option maxRecDepth 100000 in
theorem table_any (w : World) :
    Calls Tryd.prog 16 #[] w fun e w' => e = .returned (.slice (some ⟨w.heap.size, 0, none⟩) 80 80) ∧ w' = w.alloc (.cells (opTab.flatMap enc).toArray 50) := by
  obtain ⟨i0, hi, hz0, hz1, hz2⟩ := info_parts info_entry
  go_enter Tryd.func16, Tryd.ntmps16
  go_wp2_with (refine wpList_buildSlice rfl 43 50 80 _ rfl (opTab.flatMap enc).toArray i0 _ Tryd.underlying43 hi hz0 (by rw [hz1]; decide) (by rw [hz1]; decide) (by rw [hz1]; kernel_rfl) ?_)
  go_ret
  exact ⟨rfl, rfl⟩

end Go.Proofs.YtdajaddgdmoneaaDoor
