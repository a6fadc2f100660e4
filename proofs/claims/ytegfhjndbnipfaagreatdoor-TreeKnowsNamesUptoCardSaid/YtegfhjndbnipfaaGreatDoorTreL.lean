/- The program's trees: a copy of a tree of one statement without parts, with its lines anew. Nothing is claimed here. -/
import Derived.Test.YtegfhjndbnipfaaGreatDoorTreG
namespace Go.Proofs.YtegfhjndbnipfaaGreatDoor
open Go.RowKit Go.Lib Go.Maps Go.Sort
set_option linter.unusedVariables false

def stZ : Value := .agg #[.int .i64 0, .int .i64 0, .string ByteArray.empty, .slice none 0 0, .int .i64 0, .slice none 0 0, .slice none 0 0, .slice none 0 0, .slice none 0 0, .slice none 0 0, .slice none 0 0, .slice none 0 0, .slice none 0 0, .slice none 0 0, .bool false]
theorem info_stmt : (Tryz.prog.info? 43).map (fun i => (i.zero, i.size, i.bytes)) = some (some stZ, 15, 288) := by kernel_rfl
set_option maxRecDepth 100000 in
set_option maxHeartbeats 4000000 in
/-- the copy, where the copy of the statement is known -/
theorem wstmts_one (F r : Value) (b B : Nat) (n m : Int) (w : World) (hT : Blk w b 43 (stC 5 n)) (hB : B ≤ w.heap.size) (I J : World → Prop) (hI : ∀ W, Below w.heap.size w W → I W)
    (hws : ∀ W, Below w.heap.size w W → Calls Tryz.prog 39 #[.agg (wkC F r), .agg (stC 5 n)] W fun e W' => e = .returned (.agg (stC 5 m)) ∧ J W' ∧ Below B W W') (hJ : ∀ W W', J W → Below W.heap.size W W' → J W') :
    Calls Tryz.prog 24 #[.agg (wkC F r), .slice (some ⟨b, 0, none⟩) 1 1] w fun e w' => ∃ (g cap : Nat), e = .returned (.slice (some ⟨g, 0, none⟩) 1 cap) ∧ J w' ∧ Below B w w' ∧ w.heap.size ≤ g ∧ w'.cell? ⟨g, 1, none⟩ = some (.int .i64 m) := by
  obtain ⟨i0, hi0, hz0, hz1, hz2⟩ := info_parts info_stmt
  obtain ⟨q1, q2, q3⟩ := hT.rules
  have HWS := Lib.hid hws
  have HJ := Lib.hid hJ
  have HZ := Lib.hid hz0
  clear hws hJ hI hz0
  unfold stC at q1
  have hWk := Blk.new w 57 (wkC F r)
  obtain ⟨p1, p2, p3⟩ := hWk.rules
  have hb0 := (Below.refl w.heap.size w).alloc (Nat.le_refl _) (.cells (wkC F r) 57)
  unfold wkC at p1 ⊢
  go_enter Tryz.func24, Tryz.ntmps24
  go_wp2_with fail
  go_loopw [5, 10] (fun a v wr => (a = .slice none 0 0 ∧ v = .int .i64 0 ∧ wr = w.alloc (.cells (wkC F r) 57)) ∨ (v = .int .i64 1 ∧ J wr ∧ Below B w wr ∧ ∃ g cap, a = .slice (some ⟨g, 0, none⟩) 1 cap ∧ w.heap.size ≤ g ∧ wr.cell? ⟨g, 1, none⟩ = some (.int .i64 m))) (fun _ v _ => 1 - (RowKit.intOf v).toNat)
  case atStart => exact .inl ⟨rfl, rfl, rfl⟩
  case round =>
    rcases hrel with ⟨rfl, rfl, rfl⟩ | ⟨rfl, hj, hbr, g, cap, rfl, hgg, hcell⟩
    · unfold wkC
      go_wp2_with fail
      have hb1 := hb0.alloc hb0.size (.cells (stC 5 n) 43)
      refine (HWS.out _ hb1).mono ?_
      rintro e w2 ⟨rfl, hj, hbx⟩
      have hb2 := (hb1.mono hB).trans hbx
      clear hbx hb1 hb0 q1 q2 q3 p1 p2 p3 hWk hT
      unfold stC
      go_wp2_with (at_builtin
                   refine wpList_append_row _ rfl (.tmp 14) (.tmp 18) 28 rfl w2.heap.size 43 i0 stZ 15 288 Tryz.underlying28 hi0 HZ.out hz1 hz2 rfl (by decide) (.slice none 0 0) 0 [] rfl (World.ownsRow_nil _ _ _ _) (some ⟨w2.heap.size, 0, none⟩) 1 1 (stC 5 m).toList rfl rfl (Row.new w2 (stC 5 m) 43) (by simp [Value.oneCell', stC]) (by unfold maxLen; omega) (by omega) (by simp) ?_
                   intro v3 w3 hown3 hg3 hat3
                   have hb3 := ((Below.refl w2.heap.size w2).alloc (Nat.le_refl _) (.cells (stC 5 m) 43)).grown hg3 (by simp) (fun g e => by cases e)
                   obtain ⟨A3, c3, rfl, hrow3, _⟩ := own_form hown3
                   obtain ⟨b0, o0, rfl, hb0, hc0⟩ := hrow3.at_ (k := 0) (by simp [stC])
                   have hdis := hown3.2
                   rcases hdis with ⟨_, h0⟩ | ⟨g3, cap3, cur3, he3, hge3, _⟩
                   · omega
                   injection he3 with e1 e2 e3
                   injection e1 with e1
                   injection e1 with e4 e5 _
                   subst e4 e5
                   have hcell := hc0 1 (.int .i64 m) rfl
                   have HC := Lib.hid hcell
                   clear hcell hc0 hrow3 hown3 hg3 hat3)
      go_roundw
      case rel => exact .inr ⟨by go_num, HJ.out _ _ hj hb3, below_then hb2 hb3 (Nat.le_trans hB (by have := hb2.size; omega)), _, _, rfl, Nat.le_trans hb2.size hge3, by simpa using HC.out⟩
      case measure => simp [RowKit.intOf]
    · go_wp2_with fail
      go_ret
      exact ⟨g, cap, rfl, hj, hbr, hgg, hcell⟩

end Go.Proofs.YtegfhjndbnipfaaGreatDoor
