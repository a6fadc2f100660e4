/- The program's trees: a copy of a statement without parts, with its lines anew. Nothing is claimed here. -/
import Derived.Lib.QuietBelow
import Derived.WalkSpells
import Derived.Test.YtegfhjndbnipfaaGreatDoorQTail
import Derived.Test.YtegfhjndbnipfaaGreatDoorTreA
namespace Go.Proofs.YtegfhjndbnipfaaGreatDoor
open Go.RowKit Go.Lib Go.Maps Go.Sort
set_option linter.unusedVariables false

/-- what a walk holds -/
def wkC (f r : Value) : Array Value := #[f, r, .bool false]
theorem wexprs_nil (f r : Value) (w : World) : Calls Tryz.prog 61 #[.agg (wkC f r), .slice none 0 0] w fun e w' => e = .returned (.slice none 0 0) ∧ w' = w.alloc (.cells (wkC f r) 57) := by
  unfold wkC
  go_enter Tryz.func61, Tryz.ntmps61
  go_wp2_with fail
  go_loop [5, 10] (fun a v => a = .slice none 0 0 ∧ v = .int .i64 0) (fun _ _ => 0)
  case atStart => exact ⟨rfl, rfl⟩
  case round =>
    obtain ⟨rfl, rfl⟩ := hrel
    go_wp2_with fail
    go_ret
    exact ⟨rfl, rfl⟩
theorem wparams_nil (f r : Value) (w : World) : Calls Tryz.prog 62 #[.agg (wkC f r), .slice none 0 0] w fun e w' => e = .returned (.slice none 0 0) ∧ w' = w.alloc (.cells (wkC f r) 57) := by
  unfold wkC
  go_enter Tryz.func62, Tryz.ntmps62
  go_wp2_with fail
  go_loop [5, 10] (fun a v => a = .slice none 0 0 ∧ v = .int .i64 0) (fun _ _ => 0)
  case atStart => exact ⟨rfl, rfl⟩
  case round =>
    obtain ⟨rfl, rfl⟩ := hrel
    go_wp2_with fail
    go_ret
    exact ⟨rfl, rfl⟩
theorem wstmts_nil (f r : Value) (w : World) : Calls Tryz.prog 24 #[.agg (wkC f r), .slice none 0 0] w fun e w' => e = .returned (.slice none 0 0) ∧ w' = w.alloc (.cells (wkC f r) 57) := by
  unfold wkC
  go_enter Tryz.func24, Tryz.ntmps24
  go_wp2_with fail
  go_loop [5, 10] (fun a v => a = .slice none 0 0 ∧ v = .int .i64 0) (fun _ _ => 0)
  case atStart => exact ⟨rfl, rfl⟩
  case round =>
    obtain ⟨rfl, rfl⟩ := hrel
    go_wp2_with fail
    go_ret
    exact ⟨rfl, rfl⟩
set_option maxRecDepth 100000 in
set_option maxHeartbeats 1000000 in
theorem cloneStr_nil (w : World) : Calls Tryz.prog 60 #[.slice none 0 0] w fun e w' => e = .returned (.slice none 0 0) ∧ w = w' := by
  have hq := fun w : World => run_eql_nil_slice (P := Tryz.prog) w 36 9 none 0 0 0 0 Tryz.underlying36
  go_enter Tryz.func60, Tryz.ntmps60
  go_wp2_with fail
  go_ret
  exact ⟨rfl, rfl⟩
theorem shift2_any (n by_ : Int) (p : Nat) (w : World) (h : Blk w p 3 #[.int .i64 by_]) (m : Int) (hm : IntKind.i64.wrap (n + by_) = m) : Calls Tryz.prog 28 #[.int .i64 n, .pointer (some ⟨p, 0, none⟩)] w fun e w' => e = .returned (.int .i64 m) ∧ w = w' := by
  obtain ⟨q1, q2, q3⟩ := h.rules
  go_enter Tryz.func28, Tryz.ntmps28
  go_wp2_with fail
  go_ret
  exact ⟨rfl, rfl⟩
theorem Row.new (w : World) (cs : Array Value) (t : TypeId) : Row (w.alloc (.cells cs t)) (some ⟨w.heap.size, 0, none⟩) cs.toList := by
  refine .inr ⟨w.heap.size, 0, rfl, by simp, fun j u hu => ?_⟩
  rw [Nat.zero_add, cell_of_row _ _ _ cs t (0, 0) (heap_alloc_new w _)]
  simpa using hu
theorem info_int : (Tryz.prog.info? 3).map (fun i => (i.zero, i.size, i.bytes)) = some (some (.int .i64 0), 1, 8) := by kernel_rfl
set_option maxRecDepth 100000 in
set_option maxHeartbeats 2000000 in
theorem lines1_any (n : Int) (o : Nat) (w : World) (h : Blk w o 30 #[.slice none 0 0]) : Calls Tryz.prog 23 #[.int .i64 n, .pointer (some ⟨o, 0, none⟩)] w fun e w' => e = .returned (.int .i64 n) ∧
    ∃ (g cap : Nat) (cur : Array Value) (w3 : World), Below w.heap.size w w3 ∧ w' = w3.setCell ⟨o, 0, none⟩ (.slice (some ⟨g, 0, none⟩) 1 cap) ∧ w.heap.size ≤ g ∧ Blk w3 g 3 cur ∧ cur[0]? = some (.int .i64 n) := by
  obtain ⟨i0, hi0, hz0, hz1, hz2⟩ := info_parts info_int
  obtain ⟨q1, q2, q3⟩ := h.rules
  have H := Lib.hid h
  go_enter Tryz.func23, Tryz.ntmps23
  go_wp2_with (at_builtin
               refine wpList_append_row _ rfl (.tmp 4) (.tmp 6) 30 rfl w.heap.size 3 i0 (.int .i64 0) 1 8 Tryz.underlying30 hi0 hz0 hz1 hz2 rfl (by decide) (.slice none 0 0) 0 [] rfl (World.ownsRow_nil _ _ _ _) (some ⟨w.heap.size, 0, none⟩) 1 1 [.int .i64 n] rfl rfl (Row.new w #[.int .i64 n] 3) (by simp [Value.oneCell']) (by unfold maxLen; omega) (by omega) (by simp) ?_
               intro v3 w3 hown3 hg3 hat3
               have hb3 := ((Below.refl w.heap.size w).alloc (Nat.le_refl _) (.cells #[.int .i64 n] 3)).grown hg3 (by simp) (fun g e => by cases e)
               have hO3 := H.out.belowS hb3
               obtain ⟨p1, p2, p3⟩ := hO3.rules
               have hdis := hown3.2
               obtain ⟨A3, c3, rfl, hrow3, _⟩ := own_form hown3
               rcases hdis with ⟨_, h0⟩ | ⟨g3, cap3, cur3, he3, hge3, hblk3, _⟩
               · omega
               injection he3 with e1 e2 e3
               subst e1
               obtain ⟨b0, o0, e0, hb0, hc0⟩ := hrow3.at_ (k := 0) (by simp)
               injection e0 with e0
               injection e0 with e1 e2 _
               subst e1 e2
               have hcell := hc0 0 (.int .i64 n) rfl
               have HC := Lib.hid (show cur3[0]? = some (.int .i64 n) from (Blk.cell (show Blk w3 g3 3 cur3 from hblk3) 0).symm.trans hcell)
               have HB := Lib.hid (show Blk w3 g3 3 cur3 from hblk3)
               clear hcell hc0 hrow3 hown3 hg3 hat3 hblk3)
  go_ret
  exact ⟨rfl, _, _, cur3, w3, hb3, rfl, hge3, HB.out, HC.out⟩

end Go.Proofs.YtegfhjndbnipfaaGreatDoor
