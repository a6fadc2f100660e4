/- source.Lines, Line, Position, Offset: what they compute. Nothing is claimed here. -/
import Derived.RegionTactic
import Derived.BigRegion
import Derived.StillTailTactics
import Derived.Deep.RegionHeld3
import Derived.Test.YtfocggdplahnbaaDoorSrcD
namespace Go.Proofs.YtfocggdplahnbaaDoor
open Go.RowKit Go.Shelf Go.Lib

/-- three results, the last a struct in a block of the call's own -/
theorem results_tmp2_blk {P : Program} {fn : Func} {a : Act} {w : World} {p g t ty : Nat} {cs : Array Value} {q r : Nat} (hres : fn.results = #[.tmp q, .tmp r, .cell p ty]) (hp : a.tmps.getD p undef = .pointer (some ⟨g, 0, none⟩)) (hB : Blk w g t cs) (d : TypeDesc) (hu : P.underlying ty = some d)
    (hd : (match d with | .struct _ | .array _ _ => true | _ => false) = true) (hi : (P.info? ty).map (·.size) = some cs.size) :
    (results fn a.tmps).run P w = .ok (.tuple #[a.tmps.getD q undef, a.tmps.getD r undef, .agg cs]) w := by
  have hp' : a.tmps[p]?.getD undef = .pointer (some ⟨g, 0, none⟩) := by simpa using hp
  simp [results, hres, hp', asAddr, run_loadVar_row w g t ty cs (0, 0) d hB hu hd hi]
theorem ret_tmp2_blk {P : Program} {fn : Func} {R : Ending → World → Prop} {a : Act} {w : World} {p g t ty : Nat} {cs : Array Value} {q r : Nat} (hres : fn.results = #[.tmp q, .tmp r, .cell p ty]) (hp : a.tmps.getD p undef = .pointer (some ⟨g, 0, none⟩)) (hB : Blk w g t cs) (d : TypeDesc) (hu : P.underlying ty = some d)
    (hd : (match d with | .struct _ | .array _ _ => true | _ => false) = true) (hi : (P.info? ty).map (·.size) = some cs.size) (hdf : a.defers = []) (v u : Value) (hv : a.tmps.getD q undef = v) (hv2 : a.tmps.getD r undef = u)
    (hR : R (.returned (.tuple #[v, u, .agg cs])) w) : bodyPost P fn R .ret a w := by
  subst hv hv2
  exact bodyPost_ret (results_tmp2_blk hres hp hB d hu hd hi) hdf hR

def lineN (l : List UInt8) : Int := if (sfault l).1 = 0 then l.count 10 + 1 else 0

set_option maxRecDepth 100000 in
set_option maxHeartbeats 1000000 in
theorem lines_any (l : List UInt8) (w : World) (hl : l.length ≤ 9223372036854775807) (hT : Tabs w) :
    Calls Tryd.prog 11 #[.string ⟨l.toArray⟩] w fun e w' => e = .returned (.tuple #[.int .i64 (lineN l), flt (sfault l).1 (sfault l).2]) ∧ Below w.heap.size w w' := by
  have hT1 : Tabs (w.alloc (.cells #[.int .i64 0, .int .i64 0] 24)) := hT.keepB ((Below.refl _ _).alloc (Nat.le_refl _) _)
  obtain ⟨c, i, hs⟩ : ∃ c i, sfault l = (c, i) := ⟨_, _, rfl⟩
  by_cases hc : c = 0
  · have hle := (chars_of l (by rw [hs]; exact hc)).1
    replace hs := sfault_zero l (by rw [hs]; exact hc)
    have HZ := Lib.hid hs
    have HL := Lib.hid (show lineN l = l.count 10 + 1 by unfold lineN; rw [hs]; rfl)
    have hcnt : l.count 10 ≤ l.length := List.count_le_length
    clear hc
    go_enter Tryd.func11, Tryd.ntmps11
    go_wp2_with fail
    refine (check_any l _ hl hT1).mono ?_
    rintro e w1 ⟨rfl, hb1⟩
    rw [hs]
    have hB1 := (Blk.new w 24 #[.int .i64 0, .int .i64 0]).belowS hb1
    have hb := below_then ((Below.refl _ w).alloc (Nat.le_refl _) _) hb1 (by simp)
    clear hs hb1 hT1
    obtain ⟨q1, q2, q3⟩ := hB1.rules
    unfold flt
    go_wp2_with fail
    refine (Tryd.strings_Count_one _ 10 _).mono ?_
    rintro e w2 ⟨rfl, rfl⟩
    simp only [countByte, List.toList_toArray]
    go_wp2_with fail
    exact ret_tmp_blk rfl rfl (((hB1.set_ 0 (.int .i64 0)).set_ 1 (.int .i64 0)).alloc _) _ Tryd.underlying24 rfl (by kernel_rfl) rfl _ rfl ⟨(by rw [HL.out, HZ.out]; rfl), ((hb.setCell (p := ⟨_, 0, none⟩) (by simp) _).setCell (p := ⟨_, 1, none⟩) (by simp) _).alloc (by simp <;> omega) _⟩
  · have HL := Lib.hid (show lineN l = 0 by unfold lineN; rw [hs]; exact if_neg hc)
    have HZ := Lib.hid hs
    have hcb : ((c : Int) == 0) = false := by simpa using hc
    clear hc
    go_enter Tryd.func11, Tryd.ntmps11
    go_wp2_with fail
    refine (check_any l _ hl hT1).mono ?_
    rintro e w1 ⟨rfl, hb1⟩
    rw [hs]
    have hB1 := (Blk.new w 24 #[.int .i64 0, .int .i64 0]).belowS hb1
    have hb := below_then ((Below.refl _ w).alloc (Nat.le_refl _) _) hb1 (by simp)
    clear hs hb1 hT1
    obtain ⟨q1, q2, q3⟩ := hB1.rules
    unfold flt
    go_wp2_with fail
    go_region
    all_goals go_wp2_with fail
    exact ret_tmp_blk rfl rfl (((hB1.set_ 0 (.int .i64 c)).set_ 1 (.int .i64 i)).alloc _) _ Tryd.underlying24 rfl (by kernel_rfl) rfl _ rfl ⟨(by rw [HL.out, HZ.out]; rfl), (((hb.setCell (p := ⟨_, 0, none⟩) (by simp) _).setCell (p := ⟨_, 1, none⟩) (by simp) _).alloc (by simp <;> omega) _).drew⟩

/-- a line, and its fault -/
def lineOf (l : List UInt8) (line : Int) : List UInt8 × (Int × Int) :=
  if (sfault l).1 ≠ 0 then ([], sfault l)
  else if line < 1 ∨ (splitB 10 l).length < line then ([], (4, -2))
  else ((splitB 10 l)[(line - 1).toNat]?.getD [], (0, 0))

theorem split_at (l : List UInt8) (line : Int) (h1 : ¬ line < 1) (h2 : ¬ (splitB 10 l).length < line) : ∃ q x t, splitB 10 l = q ++ x :: t ∧ line = (q.length : Int) + 1 ∧ (splitB 10 l)[(line - 1).toNat]?.getD [] = x ∧ (splitB 10 l).take (line - 1).toNat = q := by
  obtain ⟨k, rfl⟩ : ∃ k : Nat, line = (k : Int) + 1 := ⟨(line - 1).toNat, by omega⟩
  have hk : k < (splitB 10 l).length := by omega
  have e : ((k : Int) + 1 - 1).toNat = k := by omega
  refine ⟨(splitB 10 l).take k, (splitB 10 l)[k], (splitB 10 l).drop (k + 1), ?_, by rw [List.length_take]; omega, by rw [e, List.getElem?_eq_getElem hk]; rfl, by rw [e]⟩
  rw [← List.drop_eq_getElem_cons hk, List.take_append_drop]

set_option maxRecDepth 100000 in
set_option maxHeartbeats 1000000 in
theorem line_any (l : List UInt8) (line : Int) (w : World) (hl : l.length ≤ 9223372036854775807) (g1 : -9223372036854775808 ≤ line) (g2 : line ≤ 9223372036854775807) (hT : Tabs w) :
    Calls Tryd.prog 12 #[.string ⟨l.toArray⟩, .int .i64 line] w fun e w' => e = .returned (.tuple #[.string ⟨(lineOf l line).1.toArray⟩, flt (lineOf l line).2.1 (lineOf l line).2.2]) ∧ Below w.heap.size w w' := by
  have hT1 : Tabs (w.alloc (.cells #[.int .i64 0, .int .i64 0] 24)) := hT.keepB ((Below.refl _ _).alloc (Nat.le_refl _) _)
  obtain ⟨c, i, hs⟩ : ∃ c i, sfault l = (c, i) := ⟨_, _, rfl⟩
  by_cases hc : c = 0
  · have hle := (chars_of l (by rw [hs]; exact hc)).1
    replace hs := sfault_zero l (by rw [hs]; exact hc)
    have HZ := Lib.hid hs
    clear hc
    go_enter Tryd.func12, Tryd.ntmps12
    go_wp2_with fail
    refine (check_any l _ hl hT1).mono ?_
    rintro e w1 ⟨rfl, hb1⟩
    rw [hs]
    have hB1 := (Blk.new w 24 #[.int .i64 0, .int .i64 0]).belowS hb1
    have hb := below_then ((Below.refl _ w).alloc (Nat.le_refl _) _) hb1 (by simp)
    clear hs hb1 hT1
    obtain ⟨q1, q2, q3⟩ := hB1.rules
    unfold flt
    go_wp2_with fail
    refine (find_any l hle line g1 g2 _).mono ?_
    rintro e w2 ⟨f1, f2, hb2⟩
    have hB2 := (hB1.alloc (.cells #[.int .i64 0, .int .i64 0] 24)).belowS hb2
    have hb3 := below_then (hb.alloc (by omega) (.cells #[.int .i64 0, .int .i64 0] 24)) hb2 (by simp; omega)
    clear hB1 hb hb2 q1 q2 q3
    obtain ⟨q1, q2, q3⟩ := hB2.rules
    by_cases hin : line < 1 ∨ (splitB 10 l).length < line
    · have HL := Lib.hid (show lineOf l line = ([], (4, -2)) by unfold lineOf; rw [HZ.out, if_neg (by simp), if_pos hin])
      have he := f2 hin
      subst he
      clear f1 f2 hin
      go_wp2_with fail
      exact ret_tmp_blk rfl rfl ((hB2.set_ 0 (.int .i64 4)).set_ 1 (.int .i64 (-2))) _ Tryd.underlying24 rfl (by kernel_rfl) rfl _ rfl ⟨(by rw [HL.out]; rfl), (hb3.setCell (p := ⟨_, 0, none⟩) (by simp) _).setCell (p := ⟨_, 1, none⟩) (by simp) _⟩
    · obtain ⟨q, x, t, h1, h2, h3, h4⟩ := split_at l line (by omega) (by omega)
      have HL := Lib.hid (show lineOf l line = (x, (0, 0)) by unfold lineOf; rw [HZ.out, if_neg (by simp), if_neg hin, h3])
      have he := f1 q t x h1 h2
      subst he
      clear f1 f2 hin h1 h2 h3 h4
      go_wp2_with fail
      exact ret_tmp_blk rfl rfl ((hB2.set_ 0 (.int .i64 0)).set_ 1 (.int .i64 0)) _ Tryd.underlying24 rfl (by kernel_rfl) rfl _ rfl ⟨(by rw [HL.out]; rfl), (hb3.setCell (p := ⟨_, 0, none⟩) (by simp) _).setCell (p := ⟨_, 1, none⟩) (by simp) _⟩
  · have HL := Lib.hid (show lineOf l line = ([], (c, i)) by unfold lineOf; rw [hs]; exact if_pos hc)
    have HZ := Lib.hid hs
    have hcb : ((c : Int) == 0) = false := by simpa using hc
    clear hc
    go_enter Tryd.func12, Tryd.ntmps12
    go_wp2_with fail
    refine (check_any l _ hl hT1).mono ?_
    rintro e w1 ⟨rfl, hb1⟩
    rw [hs]
    have hB1 := (Blk.new w 24 #[.int .i64 0, .int .i64 0]).belowS hb1
    have hb := below_then ((Below.refl _ w).alloc (Nat.le_refl _) _) hb1 (by simp)
    clear hs hb1 hT1
    obtain ⟨q1, q2, q3⟩ := hB1.rules
    unfold flt
    go_wp2_with fail
    go_region
    all_goals go_wp2_with fail
    exact ret_tmp_blk rfl rfl (((hB1.set_ 0 (.int .i64 c)).set_ 1 (.int .i64 i)).alloc _) _ Tryd.underlying24 rfl (by kernel_rfl) rfl _ rfl ⟨(by rw [HL.out]; rfl), (((hb.setCell (p := ⟨_, 0, none⟩) (by simp) _).setCell (p := ⟨_, 1, none⟩) (by simp) _).alloc (by simp <;> omega) _).drew⟩

end Go.Proofs.YtfocggdplahnbaaDoor
