/- The law SourceTellsPlaces: its walk. Nothing is claimed here. -/
import Derived.Lib.QuietBelow
import Derived.Test.YtfocggdplahnbaaDoorRefG
namespace Go.Proofs.YtfocggdplahnbaaDoor
open Go.RowKit Go.Shelf Go.Lib Go.Sort

theorem posOf_none (l : List UInt8) (o : Int) (h : (posOf l o).2.1 ≠ 0) : (posOf l o).1 = (0, 0) := by
  unfold posOf at h ⊢
  split
  · rfl
  · split
    · rfl
    · split
      · rfl
      · rename_i h1 h2 h3
        rw [if_neg h1, if_neg h2, if_neg h3] at h
        exact absurd rfl h

/-- a block in every world in which blocks were laid behind -/
theorem Blk.grows {w : World} {g t : Nat} {cs : Array Value} (h : Blk w g t cs) : ∀ (d : Nat) (os : Array Obj) (i : Nat), (grow (redrawn w d) os).cell? ⟨g, i, none⟩ = cs[i]? := fun d os i => (h.belowS (below_regrown w d os)).cell i

set_option maxRecDepth 1000000 in
set_option maxHeartbeats 4000000 in
theorem tells_bad (l : List UInt8) (o line col : Int) (w : World) (hl : l.length ≤ 1048576) (g1 : -9223372036854775808 ≤ line) (g2 : line ≤ 9223372036854775807) (g3 : -9223372036854775808 ≤ col) (g4 : col ≤ 9223372036854775807)
    (g5 : -9223372036854775808 ≤ o) (g6 : o ≤ 9223372036854775807) (hT : Tabs w) (c i : Int) (hs : sfault l = (c, i)) (hc : c ≠ 0) :
    Calls Tryd.prog 4 #[.string ⟨l.toArray⟩, .int .i64 o, .int .i64 line, .int .i64 col] w fun e w' => e = .returned (.bool true) ∧ Below w.heap.size w w' := by
  obtain ⟨N, hN⟩ : ∃ N, (splitB 10 l).length = N := ⟨_, rfl⟩
  have HN := Lib.hid hN
  have HZ := Lib.hid hs
  have HLN := Lib.hid (show lineN l = 0 by unfold lineN; rw [hs]; exact if_neg hc)
  have HLO := Lib.hid (show lineOf l line = ([], (c, i)) by unfold lineOf; rw [hs]; exact if_pos hc)
  have HPO := Lib.hid (show posOf l o = ((0, 0), (c, i)) by unfold posOf; rw [hs]; exact if_pos hc)
  have HOF := Lib.hid (show offOf l line col = (0, (c, i)) by unfold offOf; rw [hs]; exact if_pos hc)
  have hcb : (c != 0) = true := by simpa using hc
  have hcb2 : (c == 0) = false := by simpa using hc
  have HG := Lib.hid (And.intro g1 (And.intro g2 (And.intro g3 (And.intro g4 (And.intro g5 g6)))))
  clear hN hs hc g1 g2 g3 g4 g5 g6
  go_enter Tryd.func4, Tryd.ntmps4
  go_wp2_with fail
  refine (places_any _ hT).mono ?_
  rintro e w1 ⟨rfl, hb1⟩
  have hT1 := hT.keepB hb1
  go_wp2_with fail
  refine (sourceFault_any l _ (by omega) hT1).mono ?_
  rintro e w2 ⟨rfl, hb2x⟩
  rw [HZ.out]
  have hb2 := below_then hb1 hb2x hb1.size
  clear hb2x hb1 hT1
  unfold flt
  go_wp2_with fail
  refine (sourceLines_any l _ hl).mono ?_
  rintro e w3 ⟨A, cp, rfl, hcap, hrow, hb3x⟩
  rw [HN.out] at hcap
  rw [HN.out]
  have K9 := keep_new hb3x
  have hb3 := below_then (hb2.alloc hb2.size _) hb3x (by have := hb2.size; simp; omega)
  clear hb3x hb2
  go_wp2_with fail
  refine (lines_any l _ (by omega) (hT.keepB hb3)).mono ?_
  rintro e w4 ⟨rfl, hb4x⟩
  rw [HZ.out, HLN.out]
  replace K9 := K9.belowS hb4x
  replace hrow := hrow.keepB hb4x
  have hb4 := below_then hb3 hb4x hb3.size
  clear hb4x hb3
  unfold flt
  go_wp2_with fail
  refine (line_any l _ _ (by omega) HG.out.1 HG.out.2.1 (hT.keepB (hb4.alloc hb4.size _))).mono ?_
  rintro e w5 ⟨rfl, hb5x⟩
  rw [HLO.out]
  have K12 := keep_new hb5x
  replace K9 := (K9.alloc _).belowS hb5x
  replace hrow := (hrow.keepB ((Below.refl _ w4).alloc (Nat.le_refl _) _)).keepB hb5x
  have hb5 := below_then (hb4.alloc hb4.size _) hb5x (by have := hb4.size; simp; omega)
  clear hb5x hb4
  unfold flt
  go_wp2_with fail
  obtain ⟨WA, hWA⟩ : ∃ WA, w5.alloc (.cells #[.int .i64 c, .int .i64 i] 24) = WA := ⟨_, rfl⟩
  have J9 : Blk WA w2.heap.size 24 #[.int .i64 c, .int .i64 i] := by rw [← hWA]; exact K9.alloc _
  have J12 : Blk WA w4.heap.size 24 #[.int .i64 c, .int .i64 i] := by rw [← hWA]; exact K12.alloc _
  have J14 : Blk WA w5.heap.size 24 #[.int .i64 c, .int .i64 i] := by rw [← hWA]; exact Blk.new w5 _ _
  have hbA : RowKit.Below w.heap.size w WA := by rw [← hWA]; exact hb5.alloc hb5.size _
  have hrA : Row WA A (strs (splitB 10 l)) := by rw [← hWA]; exact hrow.keepB ((Below.refl _ w5).alloc (Nat.le_refl _) _)
  rw [hWA]
  have hck : ∀ d os, Calls Tryd.prog 13 #[.string ⟨l.toArray⟩] (grow (redrawn WA d) os) (fun e w'' => e = .returned (.agg #[.int .i64 c, .int .i64 i]) ∧ ∃ p : Regrown, w'' = grow (redrawn WA p.d) p.os) := fun d os => by
    have h := check_any l (grow (redrawn WA d) os) (by omega) (hT.keepB (below_then hbA (below_regrown WA d os) hbA.size))
    rw [HZ.out] at h
    exact Calls.regrown_of h
  have HCK := Lib.hid hck
  clear hck
  clear hWA K9 K12 hrow hb5
  have G9 := J9.grows
  have G12 := J12.grows
  have G14 := J14.grows
  refine wp_region_quiet_below (by kernel_rfl) (by kernel_rfl) ?_
  repeat (first | go_big_quiet_step (exact HCK.out _ _) | quiet_step (exact HCK.out _ _))
  refine wpQuiet_nil ?_
  intro _ hwq
  obtain ⟨⟨dq, osq⟩, hwq'⟩ := hwq
  subst hwq'
  have hbB := below_regrown WA dq osq
  generalize grow (redrawn WA dq) osq = WB at *
  have L9 := J9.belowS hbB
  have L12 := J12.belowS hbB
  have L14 := J14.belowS hbB
  have hrB := hrA.keepB hbB
  have hbC := below_then hbA hbB hbA.size
  clear G9 G12 G14 J9 J12 J14 hbB hbA hrA HCK
  obtain ⟨x1, x2, x3⟩ := L9.rules
  obtain ⟨y1, y2, y3⟩ := L12.rules
  obtain ⟨z1, z2, z3⟩ := L14.rules
  go_wp2_with fail
  refine (position_any l o _ (by omega) HG.out.2.2.2.2.1 HG.out.2.2.2.2.2 (hT.keepB hbC)).mono ?_
  rintro e v1 ⟨rfl, hc1x⟩
  rw [HPO.out]
  have hc1 := below_then hbC hc1x hbC.size
  clear hc1x hbC x1 x2 x3 y1 y2 y3 z1 z2 z3
  unfold flt
  go_wp2_with fail
  refine (placeFault_any l o _ (by omega) HG.out.2.2.2.2.1 HG.out.2.2.2.2.2 (hT.keepB (hc1.alloc hc1.size _))).mono ?_
  rintro e v2 ⟨rfl, hc2x⟩
  rw [HPO.out]
  have M18 := keep_new hc2x
  have hc2 := below_then (hc1.alloc hc1.size _) hc2x (by have := hc1.size; simp; omega)
  clear hc2x hc1
  unfold flt
  go_wp2_with fail
  obtain ⟨vP, hvP⟩ : ∃ vP, v2.alloc (.cells #[.int .i64 c, .int .i64 i] 24) = vP := ⟨_, rfl⟩
  have M21 : Blk vP v2.heap.size 24 #[.int .i64 c, .int .i64 i] := by rw [← hvP]; exact Blk.new v2 _ _
  replace M18 : Blk vP v1.heap.size 24 #[.int .i64 c, .int .i64 i] := by rw [← hvP]; exact M18.alloc _
  have hcP : RowKit.Below w.heap.size w vP := by rw [← hvP]; exact hc2.alloc hc2.size _
  rw [hvP]
  clear hvP hc2
  refine (offset_any l _ col _ (by omega) HG.out.1 HG.out.2.1 HG.out.2.2.1 HG.out.2.2.2.1 (hT.keepB hcP)).mono ?_
  rintro e v3 ⟨rfl, hc3x⟩
  rw [HOF.out]
  replace M18 := M18.belowS hc3x
  replace M21 := M21.belowS hc3x
  have hc3 := below_then hcP hc3x hcP.size
  clear hc3x hcP
  unfold flt
  go_wp2_with fail
  refine (offsetOf_any l _ col _ hl HG.out.1 HG.out.2.1 HG.out.2.2.1 HG.out.2.2.2.1 (hT.keepB (hc3.alloc hc3.size _))).mono ?_
  rintro e v4 ⟨rfl, hc4x⟩
  rw [HOF.out]
  have M23 := keep_new hc4x
  replace M18 := (M18.alloc _).belowS hc4x
  replace M21 := (M21.alloc _).belowS hc4x
  have hc4 := below_then (hc3.alloc hc3.size _) hc4x (by have := hc3.size; simp; omega)
  clear hc4x hc3
  obtain ⟨x1, x2, x3⟩ := M18.rules
  obtain ⟨y1, y2, y3⟩ := M21.rules
  obtain ⟨z1, z2, z3⟩ := M23.rules
  unfold flt
  go_wp2_with fail
  go_ret
  exact ⟨rfl, hc4.alloc hc4.size _⟩

theorem splitB_count : ∀ l : List UInt8, (splitB 10 l).length = l.count 10 + 1
  | [] => rfl
  | x :: l => by
    have ih := splitB_count l
    unfold splitB
    by_cases hx : x = 10
    · subst hx
      rw [if_pos rfl, List.length_cons, ih, List.count_cons_self]
    · rw [if_neg hx, List.count_cons_of_ne hx, ← ih]
      split
      · rename_i h; exact absurd h (splitB_ne 10 l)
      · rename_i h; rw [h]; simp

set_option maxRecDepth 1000000 in
set_option maxHeartbeats 8000000 in
theorem tells_in (l : List UInt8) (o line col : Int) (w : World) (hl : l.length ≤ 1048576) (g1 : -9223372036854775808 ≤ line) (g2 : line ≤ 9223372036854775807) (g3 : -9223372036854775808 ≤ col) (g4 : col ≤ 9223372036854775807)
    (g5 : -9223372036854775808 ≤ o) (g6 : o ≤ 9223372036854775807) (hT : Tabs w) (hs : sfault l = (0, 0)) (hin : ¬ (line < 1 ∨ (splitB 10 l).length < line)) :
    Calls Tryd.prog 4 #[.string ⟨l.toArray⟩, .int .i64 o, .int .i64 line, .int .i64 col] w fun e w' => e = .returned (.bool true) ∧ RowKit.Below w.heap.size w w' := by
  obtain ⟨hle, cs, hlc, hcs⟩ := chars_of l (by rw [hs])
  obtain ⟨q, x, t, a1, a2, a3, a4⟩ := split_at l line (by omega) (by omega)
  have hqk : (splitB 10 l)[q.length]? = some x := by rw [a1, List.getElem?_append_right (Nat.le_refl _)]; simp
  obtain ⟨N, hN⟩ : ∃ N, (splitB 10 l).length = N := ⟨_, rfl⟩
  have hql : q.length < N := by rw [← hN, a1]; simp
  have hNl : N ≤ 16001 := by have := splitB_length_le 10 l; omega
  have HN := Lib.hid hN
  have HQK := Lib.hid hqk
  have HZ := Lib.hid hs
  have HLN := Lib.hid (show lineN l = (N : Int) by unfold lineN; rw [hs, if_pos rfl, ← hN, splitB_count]; simp)
  have HLO := Lib.hid (show lineOf l line = (x, (0, 0)) by unfold lineOf; rw [hs, if_neg (by simp), if_neg hin, a3])
  subst a2
  obtain ⟨p1, p2, pc, pi, hpo⟩ : ∃ p1 p2 pc pi, posOf l o = ((p1, p2), (pc, pi)) := ⟨_, _, _, _, rfl⟩
  obtain ⟨oo, oc, oi, hof⟩ : ∃ oo oc oi, offOf l ((q.length : Int) + 1) col = (oo, (oc, oi)) := ⟨_, _, _, rfl⟩
  have HPO := Lib.hid hpo
  have HOF := Lib.hid hof
  have HLC := Lib.hid hlc
  have HCS := Lib.hid hcs
  have HG := Lib.hid (And.intro g1 (And.intro g2 (And.intro g3 (And.intro g4 (And.intro g5 g6)))))
  clear hpo hof hN hqk hs hin a1 a3 a4 hlc hcs g1 g2 g3 g4 g5 g6
  have d1 : decide ((q.length : Int) + 1 ≤ (N : Int)) = true := decide_eq_true (by omega)
  have d2 : decide (q.length + 1 ≤ N) = true := decide_eq_true (by omega)
  have d3 : decide (q.length < N) = true := decide_eq_true (by omega)
  have d4 : decide ((1 : Int) ≤ (q.length : Int) + 1) = true := decide_eq_true (by omega)
  go_enter Tryd.func4, Tryd.ntmps4
  go_wp2_with fail
  refine (places_any _ hT).mono ?_
  rintro e w1 ⟨rfl, hb1⟩
  have hT1 := hT.keepB hb1
  go_wp2_with fail
  refine (sourceFault_any l _ (by omega) hT1).mono ?_
  rintro e w2 ⟨rfl, hb2x⟩
  rw [HZ.out]
  have hb2 := below_then hb1 hb2x hb1.size
  clear hb2x hb1 hT1
  unfold flt
  go_wp2_with fail
  refine (sourceLines_any l _ hl).mono ?_
  rintro e w3 ⟨A, cp, rfl, hcap, hrow, hb3x⟩
  rw [HN.out] at hcap
  rw [HN.out]
  have K9 := keep_new hb3x
  have hb3 := below_then (hb2.alloc hb2.size _) hb3x (by have := hb2.size; simp; omega)
  clear hb3x hb2
  go_wp2_with fail
  refine (lines_any l _ (by omega) (hT.keepB hb3)).mono ?_
  rintro e w4 ⟨rfl, hb4x⟩
  rw [HZ.out, HLN.out]
  replace K9 := K9.belowS hb4x
  replace hrow := hrow.keepB hb4x
  have hb4 := below_then hb3 hb4x hb3.size
  clear hb4x hb3
  unfold flt
  go_wp2_with fail
  refine (line_any l _ _ (by omega) HG.out.1 HG.out.2.1 (hT.keepB (hb4.alloc hb4.size _))).mono ?_
  rintro e w5 ⟨rfl, hb5x⟩
  rw [HLO.out]
  have K12 := keep_new hb5x
  replace K9 := (K9.alloc _).belowS hb5x
  replace hrow := (hrow.keepB ((Below.refl _ w4).alloc (Nat.le_refl _) _)).keepB hb5x
  have hb5 := below_then (hb4.alloc hb4.size _) hb5x (by have := hb4.size; simp; omega)
  clear hb5x hb4
  unfold flt
  go_wp2_with fail
  obtain ⟨WA, hWA⟩ : ∃ WA, w5.alloc (.cells #[.int .i64 0, .int .i64 0] 24) = WA := ⟨_, rfl⟩
  have J9 : Blk WA w2.heap.size 24 #[.int .i64 0, .int .i64 0] := by rw [← hWA]; exact K9.alloc _
  have J12 : Blk WA w4.heap.size 24 #[.int .i64 0, .int .i64 0] := by rw [← hWA]; exact K12.alloc _
  have J14 : Blk WA w5.heap.size 24 #[.int .i64 0, .int .i64 0] := by rw [← hWA]; exact Blk.new w5 _ _
  have hbA : RowKit.Below w.heap.size w WA := by rw [← hWA]; exact hb5.alloc hb5.size _
  have hrA : Row WA A (strs (splitB 10 l)) := by rw [← hWA]; exact hrow.keepB ((Below.refl _ w5).alloc (Nat.le_refl _) _)
  rw [hWA]
  have hck : ∀ d os, Calls Tryd.prog 13 #[.string ⟨l.toArray⟩] (grow (redrawn WA d) os) (fun e w'' => e = .returned (.agg #[.int .i64 0, .int .i64 0]) ∧ ∃ p : Regrown, w'' = grow (redrawn WA p.d) p.os) := fun d os => by
    have h := check_any l (grow (redrawn WA d) os) (by omega) (hT.keepB (below_then hbA (below_regrown WA d os) hbA.size))
    rw [HZ.out] at h
    exact Calls.regrown_of h
  have HCK := Lib.hid hck
  clear hck
  clear hWA K9 K12 hrow hb5
  have G9 := J9.grows
  have G12 := J12.grows
  have G14 := J14.grows
  refine wp_region_quiet_below (by kernel_rfl) (by kernel_rfl) ?_
  repeat (first | go_big_quiet_step (exact HCK.out _ _) | quiet_step (exact HCK.out _ _))
  refine wpQuiet_nil ?_
  intro _ hwq
  obtain ⟨⟨dq, osq⟩, hwq'⟩ := hwq
  subst hwq'
  have hbB := below_regrown WA dq osq
  generalize grow (redrawn WA dq) osq = WB at *
  have L9 := J9.belowS hbB
  have L12 := J12.belowS hbB
  have L14 := J14.belowS hbB
  have hrB := hrA.keepB hbB
  have hbC := below_then hbA hbB hbA.size
  clear G9 G12 G14 J9 J12 J14 hbB hbA hrA HCK
  obtain ⟨x1, x2, x3⟩ := L9.rules
  obtain ⟨y1, y2, y3⟩ := L12.rules
  obtain ⟨z1, z2, z3⟩ := L14.rules
  obtain ⟨b, off, rfl, hblt, hcell⟩ : ∃ b off, A = some ⟨b, off, none⟩ ∧ b < WB.heap.size ∧ WB.cell? ⟨b, off + q.length, none⟩ = some (.string ⟨x.toArray⟩) := by
    have hq2 : q.length < (splitB 10 l).length := by rw [HN.out]; exact hql
    obtain ⟨b, off, e, hlt, hcc⟩ := hrB.str (k := q.length) hq2
    have := HQK.out
    rw [List.getElem?_eq_getElem hq2] at this
    rw [Option.some.inj this] at hcc
    exact ⟨b, off, e, hlt, hcc⟩
  go_wp2_with fail
  have e1 : IntKind.i64.wrap ((q.length : Nat) : Int) = ((q.length : Nat) : Int) := IntWalk.i64_in _ (by omega)
  have G14 := L14.grows
  have GC : ∀ d os, (grow (redrawn WB d) os).cell? ⟨b, off + q.length, none⟩ = some (.string ⟨x.toArray⟩) := fun d os => cell_regrown hcell d os
  refine wp_region_quiet_below (by kernel_rfl) (by kernel_rfl) ?_
  repeat (first | go_big_quiet_step (fail) | quiet_step (fail))
  refine wpQuiet_nil ?_
  intro _ hwq
  obtain ⟨⟨dq, osq⟩, hwq'⟩ := hwq
  subst hwq'
  have hbD := below_regrown WB dq osq
  generalize grow (redrawn WB dq) osq = WC at *
  replace hbC := below_then hbC hbD hbC.size
  clear hbD G14 GC e1 d1 d2 d3 d4 hrB hcell hblt L9 L12 L14 hql hNl hcap
  have hlc := HLC.out
  have hcs := HCS.out
  clear HLC HCS
  by_cases hp0 : pc = 0
  · subst hp0
    have hpx := pos_at cs hcs o (by rw [← hlc, HPO.out])
    rw [← hlc] at hpx
    obtain ⟨hp1, _, k, hk, hok, hpk⟩ := hpx
    rw [HPO.out] at hp1 hpk
    have hpi : pi = 0 := congrArg Prod.snd hp1
    subst hpi
    have hpl : ∀ W : World, Tabs W → Calls Tryd.prog 16 #[.string ⟨l.toArray⟩, .int .i64 o] W fun e w' => e = .returned (.tuple #[.int .i64 p1, .int .i64 p2]) ∧ RowKit.Below W.heap.size W w' := fun W hW => by
      have h := place_any cs hcs k hk o hok W (by rw [← hlc]; exact hle) hW
      rw [← hpk, ← hlc] at h
      exact h
    have HPL := Lib.hid hpl
    clear hpl hp1 hok hpk hk
    clear hlc hcs
    go_wp2_with fail
    refine (position_any l o _ (by omega) HG.out.2.2.2.2.1 HG.out.2.2.2.2.2 (hT.keepB hbC)).mono ?_
    rintro e v1 ⟨rfl, hc1x⟩
    rw [HPO.out]
    have hc1 := below_then hbC hc1x hbC.size
    clear hc1x hbC x1 x2 x3 y1 y2 y3 z1 z2 z3
    unfold flt
    go_wp2_with fail
    refine (placeFault_any l o _ (by omega) HG.out.2.2.2.2.1 HG.out.2.2.2.2.2 (hT.keepB (hc1.alloc hc1.size _))).mono ?_
    rintro e v2 ⟨rfl, hc2x⟩
    rw [HPO.out]
    have M18 := keep_new hc2x
    have hc2 := below_then (hc1.alloc hc1.size _) hc2x (by have := hc1.size; simp; omega)
    clear hc2x hc1
    unfold flt
    go_wp2_with fail
    obtain ⟨vP, hvP⟩ : ∃ vP, v2.alloc (.cells #[.int .i64 0, .int .i64 0] 24) = vP := ⟨_, rfl⟩
    have M21 : Blk vP v2.heap.size 24 #[.int .i64 0, .int .i64 0] := by rw [← hvP]; exact Blk.new v2 _ _
    replace M18 : Blk vP v1.heap.size 24 #[.int .i64 0, .int .i64 0] := by rw [← hvP]; exact M18.alloc _
    have hcP : RowKit.Below w.heap.size w vP := by rw [← hvP]; exact hc2.alloc hc2.size _
    rw [hvP]
    clear hvP hc2
    refine (HPL.out _ (hT.keepB hcP)).mono ?_
    rintro e v5 ⟨rfl, hc5x⟩
    replace M18 := M18.belowS hc5x
    replace M21 := M21.belowS hc5x
    replace hcP := below_then hcP hc5x hcP.size
    clear hc5x
    go_wp2_with fail
    refine (offset_any l _ col _ (by omega) HG.out.1 HG.out.2.1 HG.out.2.2.1 HG.out.2.2.2.1 (hT.keepB hcP)).mono ?_
    rintro e v3 ⟨rfl, hc3x⟩
    rw [HOF.out]
    replace M18 := M18.belowS hc3x
    replace M21 := M21.belowS hc3x
    have hc3 := below_then hcP hc3x hcP.size
    clear hc3x hcP
    unfold flt
    go_wp2_with fail
    refine (offsetOf_any l _ col _ hl HG.out.1 HG.out.2.1 HG.out.2.2.1 HG.out.2.2.2.1 (hT.keepB (hc3.alloc hc3.size _))).mono ?_
    rintro e v4 ⟨rfl, hc4x⟩
    rw [HOF.out]
    have M23 := keep_new hc4x
    replace M18 := (M18.alloc _).belowS hc4x
    replace M21 := (M21.alloc _).belowS hc4x
    have hc4 := below_then (hc3.alloc hc3.size _) hc4x (by have := hc3.size; simp; omega)
    clear hc4x hc3
    obtain ⟨x1, x2, x3⟩ := M18.rules
    obtain ⟨y1, y2, y3⟩ := M21.rules
    obtain ⟨z1, z2, z3⟩ := M23.rules
    unfold flt
    go_wp2_with fail
    go_ret
    exact ⟨rfl, hc4.alloc hc4.size _⟩
  · have hpn := posOf_none l o (by rw [HPO.out]; exact hp0)
    rw [HPO.out] at hpn
    injection hpn with hpn1 hpn2
    subst hpn1 hpn2
    have hpb : (pc == 0) = false := by simpa using hp0
    clear hp0 hlc hcs
    go_wp2_with fail
    refine (position_any l o _ (by omega) HG.out.2.2.2.2.1 HG.out.2.2.2.2.2 (hT.keepB hbC)).mono ?_
    rintro e v1 ⟨rfl, hc1x⟩
    rw [HPO.out]
    have hc1 := below_then hbC hc1x hbC.size
    clear hc1x hbC x1 x2 x3 y1 y2 y3 z1 z2 z3
    unfold flt
    go_wp2_with fail
    refine (placeFault_any l o _ (by omega) HG.out.2.2.2.2.1 HG.out.2.2.2.2.2 (hT.keepB (hc1.alloc hc1.size _))).mono ?_
    rintro e v2 ⟨rfl, hc2x⟩
    rw [HPO.out]
    have M18 := keep_new hc2x
    have hc2 := below_then (hc1.alloc hc1.size _) hc2x (by have := hc1.size; simp; omega)
    clear hc2x hc1
    unfold flt
    go_wp2_with fail
    obtain ⟨vP, hvP⟩ : ∃ vP, v2.alloc (.cells #[.int .i64 pc, .int .i64 pi] 24) = vP := ⟨_, rfl⟩
    have M21 : Blk vP v2.heap.size 24 #[.int .i64 pc, .int .i64 pi] := by rw [← hvP]; exact Blk.new v2 _ _
    replace M18 : Blk vP v1.heap.size 24 #[.int .i64 pc, .int .i64 pi] := by rw [← hvP]; exact M18.alloc _
    have hcP : RowKit.Below w.heap.size w vP := by rw [← hvP]; exact hc2.alloc hc2.size _
    rw [hvP]
    clear hvP hc2
    refine (offset_any l _ col _ (by omega) HG.out.1 HG.out.2.1 HG.out.2.2.1 HG.out.2.2.2.1 (hT.keepB hcP)).mono ?_
    rintro e v3 ⟨rfl, hc3x⟩
    rw [HOF.out]
    replace M18 := M18.belowS hc3x
    replace M21 := M21.belowS hc3x
    have hc3 := below_then hcP hc3x hcP.size
    clear hc3x hcP
    unfold flt
    go_wp2_with fail
    refine (offsetOf_any l _ col _ hl HG.out.1 HG.out.2.1 HG.out.2.2.1 HG.out.2.2.2.1 (hT.keepB (hc3.alloc hc3.size _))).mono ?_
    rintro e v4 ⟨rfl, hc4x⟩
    rw [HOF.out]
    have M23 := keep_new hc4x
    replace M18 := (M18.alloc _).belowS hc4x
    replace M21 := (M21.alloc _).belowS hc4x
    have hc4 := below_then (hc3.alloc hc3.size _) hc4x (by have := hc3.size; simp; omega)
    clear hc4x hc3
    obtain ⟨x1, x2, x3⟩ := M18.rules
    obtain ⟨y1, y2, y3⟩ := M21.rules
    obtain ⟨z1, z2, z3⟩ := M23.rules
    unfold flt
    go_wp2_with fail
    go_ret
    exact ⟨rfl, hc4.alloc hc4.size _⟩

set_option maxRecDepth 1000000 in
set_option maxHeartbeats 8000000 in
theorem tells_out (l : List UInt8) (o line col : Int) (w : World) (hl : l.length ≤ 1048576) (g1 : -9223372036854775808 ≤ line) (g2 : line ≤ 9223372036854775807) (g3 : -9223372036854775808 ≤ col) (g4 : col ≤ 9223372036854775807)
    (g5 : -9223372036854775808 ≤ o) (g6 : o ≤ 9223372036854775807) (hT : Tabs w) (hs : sfault l = (0, 0)) (hin : line < 1 ∨ (splitB 10 l).length < line) :
    Calls Tryd.prog 4 #[.string ⟨l.toArray⟩, .int .i64 o, .int .i64 line, .int .i64 col] w fun e w' => e = .returned (.bool true) ∧ RowKit.Below w.heap.size w w' := by
  obtain ⟨hle, cs, hlc, hcs⟩ := chars_of l (by rw [hs])
  obtain ⟨N, hN⟩ : ∃ N, (splitB 10 l).length = N := ⟨_, rfl⟩
  have HN := Lib.hid hN
  have HZ := Lib.hid hs
  have HLN := Lib.hid (show lineN l = (N : Int) by unfold lineN; rw [hs, if_pos rfl, ← hN, splitB_count]; simp)
  have HLO := Lib.hid (show lineOf l line = ([], (4, -2)) by unfold lineOf; rw [hs, if_neg (by simp), if_pos hin])
  obtain ⟨p1, p2, pc, pi, hpo⟩ : ∃ p1 p2 pc pi, posOf l o = ((p1, p2), (pc, pi)) := ⟨_, _, _, _, rfl⟩
  obtain ⟨oo, oc, oi, hof⟩ : ∃ oo oc oi, offOf l line col = (oo, (oc, oi)) := ⟨_, _, _, rfl⟩
  have HPO := Lib.hid hpo
  have HOF := Lib.hid hof
  have HLC := Lib.hid hlc
  have HCS := Lib.hid hcs
  have HG := Lib.hid (And.intro g1 (And.intro g2 (And.intro g3 (And.intro g4 (And.intro g5 g6)))))
  rw [hN] at hin
  clear hpo hof hN hs hlc hcs g1 g2 g3 g4 g5 g6
  by_cases h1 : line < 1
  · have d1 : decide ((1 : Int) ≤ line) = false := decide_eq_false (by omega)
    clear h1 hin
    go_enter Tryd.func4, Tryd.ntmps4
    go_wp2_with fail
    refine (places_any _ hT).mono ?_
    rintro e w1 ⟨rfl, hb1⟩
    have hT1 := hT.keepB hb1
    go_wp2_with fail
    refine (sourceFault_any l _ (by omega) hT1).mono ?_
    rintro e w2 ⟨rfl, hb2x⟩
    rw [HZ.out]
    have hb2 := below_then hb1 hb2x hb1.size
    clear hb2x hb1 hT1
    unfold flt
    go_wp2_with fail
    refine (sourceLines_any l _ hl).mono ?_
    rintro e w3 ⟨A, cp, rfl, hcap, hrow, hb3x⟩
    rw [HN.out] at hcap
    rw [HN.out]
    have K9 := keep_new hb3x
    have hb3 := below_then (hb2.alloc hb2.size _) hb3x (by have := hb2.size; simp; omega)
    clear hb3x hb2
    go_wp2_with fail
    refine (lines_any l _ (by omega) (hT.keepB hb3)).mono ?_
    rintro e w4 ⟨rfl, hb4x⟩
    rw [HZ.out, HLN.out]
    replace K9 := K9.belowS hb4x
    replace hrow := hrow.keepB hb4x
    have hb4 := below_then hb3 hb4x hb3.size
    clear hb4x hb3
    unfold flt
    go_wp2_with fail
    refine (line_any l _ _ (by omega) HG.out.1 HG.out.2.1 (hT.keepB (hb4.alloc hb4.size _))).mono ?_
    rintro e w5 ⟨rfl, hb5x⟩
    rw [HLO.out]
    have K12 := keep_new hb5x
    replace K9 := (K9.alloc _).belowS hb5x
    replace hrow := (hrow.keepB ((Below.refl _ w4).alloc (Nat.le_refl _) _)).keepB hb5x
    have hb5 := below_then (hb4.alloc hb4.size _) hb5x (by have := hb4.size; simp; omega)
    clear hb5x hb4
    unfold flt
    go_wp2_with fail
    obtain ⟨WA, hWA⟩ : ∃ WA, w5.alloc (.cells #[.int .i64 4, .int .i64 (-2)] 24) = WA := ⟨_, rfl⟩
    have J9 : Blk WA w2.heap.size 24 #[.int .i64 0, .int .i64 0] := by rw [← hWA]; exact K9.alloc _
    have J12 : Blk WA w4.heap.size 24 #[.int .i64 0, .int .i64 0] := by rw [← hWA]; exact K12.alloc _
    have J14 : Blk WA w5.heap.size 24 #[.int .i64 4, .int .i64 (-2)] := by rw [← hWA]; exact Blk.new w5 _ _
    have hbA : RowKit.Below w.heap.size w WA := by rw [← hWA]; exact hb5.alloc hb5.size _
    have hrA : Row WA A (strs (splitB 10 l)) := by rw [← hWA]; exact hrow.keepB ((Below.refl _ w5).alloc (Nat.le_refl _) _)
    rw [hWA]
    have hck : ∀ d os, Calls Tryd.prog 13 #[.string ⟨l.toArray⟩] (grow (redrawn WA d) os) (fun e w'' => e = .returned (.agg #[.int .i64 0, .int .i64 0]) ∧ ∃ p : Regrown, w'' = grow (redrawn WA p.d) p.os) := fun d os => by
      have h := check_any l (grow (redrawn WA d) os) (by omega) (hT.keepB (below_then hbA (below_regrown WA d os) hbA.size))
      rw [HZ.out] at h
      exact Calls.regrown_of h
    have HCK := Lib.hid hck
    clear hck
    clear hWA K9 K12 hrow hb5
    have G9 := J9.grows
    have G12 := J12.grows
    have G14 := J14.grows
    refine wp_region_quiet_below (by kernel_rfl) (by kernel_rfl) ?_
    repeat (first | go_big_quiet_step (exact HCK.out _ _) | quiet_step (exact HCK.out _ _))
    refine wpQuiet_nil ?_
    intro _ hwq
    obtain ⟨⟨dq, osq⟩, hwq'⟩ := hwq
    subst hwq'
    have hbB := below_regrown WA dq osq
    generalize grow (redrawn WA dq) osq = WB at *
    have L9 := J9.belowS hbB
    have L12 := J12.belowS hbB
    have L14 := J14.belowS hbB
    have hrB := hrA.keepB hbB
    have hbC := below_then hbA hbB hbA.size
    clear G9 G12 G14 J9 J12 J14 hbB hbA hrA HCK
    obtain ⟨x1, x2, x3⟩ := L9.rules
    obtain ⟨y1, y2, y3⟩ := L12.rules
    obtain ⟨z1, z2, z3⟩ := L14.rules
    go_wp2_with fail
    have hat : ∀ d os, Calls Tryd.prog 14 #[.int .i64 4, .int .i64 (-2)] (grow (redrawn WB d) os) (fun e w'' => e = .returned (.agg #[.int .i64 4, .int .i64 (-2)]) ∧ ∃ p : Regrown, w'' = grow (redrawn WB p.d) p.os) := fun d os => Calls.regrown_of (at_any 4 (-2) (grow (redrawn WB d) os))
    have HAT := Lib.hid hat
    clear hat
    have G14 := L14.grows
    refine wp_region_quiet_below (by kernel_rfl) (by kernel_rfl) ?_
    repeat (first | go_big_quiet_step (exact HAT.out _ _) | quiet_step (exact HAT.out _ _))
    refine wpQuiet_nil ?_
    intro _ hwq
    obtain ⟨⟨dq, osq⟩, hwq'⟩ := hwq
    subst hwq'
    have hbD := below_regrown WB dq osq
    generalize grow (redrawn WB dq) osq = WC at *
    replace hbC := below_then hbC hbD hbC.size
    clear hbD G14 HAT hrB L9 L12 L14 hcap
    have hlc := HLC.out
    have hcs := HCS.out
    clear HLC HCS
    by_cases hp0 : pc = 0
    · subst hp0
      have hpx := pos_at cs hcs o (by rw [← hlc, HPO.out])
      rw [← hlc] at hpx
      obtain ⟨hp1, _, k, hk, hok, hpk⟩ := hpx
      rw [HPO.out] at hp1 hpk
      have hpi : pi = 0 := congrArg Prod.snd hp1
      subst hpi
      have hpl : ∀ W : World, Tabs W → Calls Tryd.prog 16 #[.string ⟨l.toArray⟩, .int .i64 o] W fun e w' => e = .returned (.tuple #[.int .i64 p1, .int .i64 p2]) ∧ RowKit.Below W.heap.size W w' := fun W hW => by
        have h := place_any cs hcs k hk o hok W (by rw [← hlc]; exact hle) hW
        rw [← hpk, ← hlc] at h
        exact h
      have HPL := Lib.hid hpl
      clear hpl hp1 hok hpk hk
      clear hlc hcs
      go_wp2_with fail
      refine (position_any l o _ (by omega) HG.out.2.2.2.2.1 HG.out.2.2.2.2.2 (hT.keepB hbC)).mono ?_
      rintro e v1 ⟨rfl, hc1x⟩
      rw [HPO.out]
      have hc1 := below_then hbC hc1x hbC.size
      clear hc1x hbC x1 x2 x3 y1 y2 y3 z1 z2 z3
      unfold flt
      go_wp2_with fail
      refine (placeFault_any l o _ (by omega) HG.out.2.2.2.2.1 HG.out.2.2.2.2.2 (hT.keepB (hc1.alloc hc1.size _))).mono ?_
      rintro e v2 ⟨rfl, hc2x⟩
      rw [HPO.out]
      have M18 := keep_new hc2x
      have hc2 := below_then (hc1.alloc hc1.size _) hc2x (by have := hc1.size; simp; omega)
      clear hc2x hc1
      unfold flt
      go_wp2_with fail
      obtain ⟨vP, hvP⟩ : ∃ vP, v2.alloc (.cells #[.int .i64 0, .int .i64 0] 24) = vP := ⟨_, rfl⟩
      have M21 : Blk vP v2.heap.size 24 #[.int .i64 0, .int .i64 0] := by rw [← hvP]; exact Blk.new v2 _ _
      replace M18 : Blk vP v1.heap.size 24 #[.int .i64 0, .int .i64 0] := by rw [← hvP]; exact M18.alloc _
      have hcP : RowKit.Below w.heap.size w vP := by rw [← hvP]; exact hc2.alloc hc2.size _
      rw [hvP]
      clear hvP hc2
      refine (HPL.out _ (hT.keepB hcP)).mono ?_
      rintro e v5 ⟨rfl, hc5x⟩
      replace M18 := M18.belowS hc5x
      replace M21 := M21.belowS hc5x
      replace hcP := below_then hcP hc5x hcP.size
      clear hc5x
      go_wp2_with fail
      refine (offset_any l _ col _ (by omega) HG.out.1 HG.out.2.1 HG.out.2.2.1 HG.out.2.2.2.1 (hT.keepB hcP)).mono ?_
      rintro e v3 ⟨rfl, hc3x⟩
      rw [HOF.out]
      replace M18 := M18.belowS hc3x
      replace M21 := M21.belowS hc3x
      have hc3 := below_then hcP hc3x hcP.size
      clear hc3x hcP
      unfold flt
      go_wp2_with fail
      refine (offsetOf_any l _ col _ hl HG.out.1 HG.out.2.1 HG.out.2.2.1 HG.out.2.2.2.1 (hT.keepB (hc3.alloc hc3.size _))).mono ?_
      rintro e v4 ⟨rfl, hc4x⟩
      rw [HOF.out]
      have M23 := keep_new hc4x
      replace M18 := (M18.alloc _).belowS hc4x
      replace M21 := (M21.alloc _).belowS hc4x
      have hc4 := below_then (hc3.alloc hc3.size _) hc4x (by have := hc3.size; simp; omega)
      clear hc4x hc3
      obtain ⟨x1, x2, x3⟩ := M18.rules
      obtain ⟨y1, y2, y3⟩ := M21.rules
      obtain ⟨z1, z2, z3⟩ := M23.rules
      unfold flt
      go_wp2_with fail
      go_ret
      exact ⟨rfl, hc4.alloc hc4.size _⟩
    · have hpn := posOf_none l o (by rw [HPO.out]; exact hp0)
      rw [HPO.out] at hpn
      injection hpn with hpn1 hpn2
      subst hpn1 hpn2
      have hpb : (pc == 0) = false := by simpa using hp0
      clear hp0 hlc hcs
      go_wp2_with fail
      refine (position_any l o _ (by omega) HG.out.2.2.2.2.1 HG.out.2.2.2.2.2 (hT.keepB hbC)).mono ?_
      rintro e v1 ⟨rfl, hc1x⟩
      rw [HPO.out]
      have hc1 := below_then hbC hc1x hbC.size
      clear hc1x hbC x1 x2 x3 y1 y2 y3 z1 z2 z3
      unfold flt
      go_wp2_with fail
      refine (placeFault_any l o _ (by omega) HG.out.2.2.2.2.1 HG.out.2.2.2.2.2 (hT.keepB (hc1.alloc hc1.size _))).mono ?_
      rintro e v2 ⟨rfl, hc2x⟩
      rw [HPO.out]
      have M18 := keep_new hc2x
      have hc2 := below_then (hc1.alloc hc1.size _) hc2x (by have := hc1.size; simp; omega)
      clear hc2x hc1
      unfold flt
      go_wp2_with fail
      obtain ⟨vP, hvP⟩ : ∃ vP, v2.alloc (.cells #[.int .i64 pc, .int .i64 pi] 24) = vP := ⟨_, rfl⟩
      have M21 : Blk vP v2.heap.size 24 #[.int .i64 pc, .int .i64 pi] := by rw [← hvP]; exact Blk.new v2 _ _
      replace M18 : Blk vP v1.heap.size 24 #[.int .i64 pc, .int .i64 pi] := by rw [← hvP]; exact M18.alloc _
      have hcP : RowKit.Below w.heap.size w vP := by rw [← hvP]; exact hc2.alloc hc2.size _
      rw [hvP]
      clear hvP hc2
      refine (offset_any l _ col _ (by omega) HG.out.1 HG.out.2.1 HG.out.2.2.1 HG.out.2.2.2.1 (hT.keepB hcP)).mono ?_
      rintro e v3 ⟨rfl, hc3x⟩
      rw [HOF.out]
      replace M18 := M18.belowS hc3x
      replace M21 := M21.belowS hc3x
      have hc3 := below_then hcP hc3x hcP.size
      clear hc3x hcP
      unfold flt
      go_wp2_with fail
      refine (offsetOf_any l _ col _ hl HG.out.1 HG.out.2.1 HG.out.2.2.1 HG.out.2.2.2.1 (hT.keepB (hc3.alloc hc3.size _))).mono ?_
      rintro e v4 ⟨rfl, hc4x⟩
      rw [HOF.out]
      have M23 := keep_new hc4x
      replace M18 := (M18.alloc _).belowS hc4x
      replace M21 := (M21.alloc _).belowS hc4x
      have hc4 := below_then (hc3.alloc hc3.size _) hc4x (by have := hc3.size; simp; omega)
      clear hc4x hc3
      obtain ⟨x1, x2, x3⟩ := M18.rules
      obtain ⟨y1, y2, y3⟩ := M21.rules
      obtain ⟨z1, z2, z3⟩ := M23.rules
      unfold flt
      go_wp2_with fail
      go_ret
      exact ⟨rfl, hc4.alloc hc4.size _⟩
  · have d1 : decide ((1 : Int) ≤ line) = true := decide_eq_true (by omega)
    have d2 : decide (line ≤ (N : Int)) = false := decide_eq_false (by omega)
    clear h1 hin
    go_enter Tryd.func4, Tryd.ntmps4
    go_wp2_with fail
    refine (places_any _ hT).mono ?_
    rintro e w1 ⟨rfl, hb1⟩
    have hT1 := hT.keepB hb1
    go_wp2_with fail
    refine (sourceFault_any l _ (by omega) hT1).mono ?_
    rintro e w2 ⟨rfl, hb2x⟩
    rw [HZ.out]
    have hb2 := below_then hb1 hb2x hb1.size
    clear hb2x hb1 hT1
    unfold flt
    go_wp2_with fail
    refine (sourceLines_any l _ hl).mono ?_
    rintro e w3 ⟨A, cp, rfl, hcap, hrow, hb3x⟩
    rw [HN.out] at hcap
    rw [HN.out]
    have K9 := keep_new hb3x
    have hb3 := below_then (hb2.alloc hb2.size _) hb3x (by have := hb2.size; simp; omega)
    clear hb3x hb2
    go_wp2_with fail
    refine (lines_any l _ (by omega) (hT.keepB hb3)).mono ?_
    rintro e w4 ⟨rfl, hb4x⟩
    rw [HZ.out, HLN.out]
    replace K9 := K9.belowS hb4x
    replace hrow := hrow.keepB hb4x
    have hb4 := below_then hb3 hb4x hb3.size
    clear hb4x hb3
    unfold flt
    go_wp2_with fail
    refine (line_any l _ _ (by omega) HG.out.1 HG.out.2.1 (hT.keepB (hb4.alloc hb4.size _))).mono ?_
    rintro e w5 ⟨rfl, hb5x⟩
    rw [HLO.out]
    have K12 := keep_new hb5x
    replace K9 := (K9.alloc _).belowS hb5x
    replace hrow := (hrow.keepB ((Below.refl _ w4).alloc (Nat.le_refl _) _)).keepB hb5x
    have hb5 := below_then (hb4.alloc hb4.size _) hb5x (by have := hb4.size; simp; omega)
    clear hb5x hb4
    unfold flt
    go_wp2_with fail
    obtain ⟨WA, hWA⟩ : ∃ WA, w5.alloc (.cells #[.int .i64 4, .int .i64 (-2)] 24) = WA := ⟨_, rfl⟩
    have J9 : Blk WA w2.heap.size 24 #[.int .i64 0, .int .i64 0] := by rw [← hWA]; exact K9.alloc _
    have J12 : Blk WA w4.heap.size 24 #[.int .i64 0, .int .i64 0] := by rw [← hWA]; exact K12.alloc _
    have J14 : Blk WA w5.heap.size 24 #[.int .i64 4, .int .i64 (-2)] := by rw [← hWA]; exact Blk.new w5 _ _
    have hbA : RowKit.Below w.heap.size w WA := by rw [← hWA]; exact hb5.alloc hb5.size _
    have hrA : Row WA A (strs (splitB 10 l)) := by rw [← hWA]; exact hrow.keepB ((Below.refl _ w5).alloc (Nat.le_refl _) _)
    rw [hWA]
    have hck : ∀ d os, Calls Tryd.prog 13 #[.string ⟨l.toArray⟩] (grow (redrawn WA d) os) (fun e w'' => e = .returned (.agg #[.int .i64 0, .int .i64 0]) ∧ ∃ p : Regrown, w'' = grow (redrawn WA p.d) p.os) := fun d os => by
      have h := check_any l (grow (redrawn WA d) os) (by omega) (hT.keepB (below_then hbA (below_regrown WA d os) hbA.size))
      rw [HZ.out] at h
      exact Calls.regrown_of h
    have HCK := Lib.hid hck
    clear hck
    clear hWA K9 K12 hrow hb5
    have G9 := J9.grows
    have G12 := J12.grows
    have G14 := J14.grows
    refine wp_region_quiet_below (by kernel_rfl) (by kernel_rfl) ?_
    repeat (first | go_big_quiet_step (exact HCK.out _ _) | quiet_step (exact HCK.out _ _))
    refine wpQuiet_nil ?_
    intro _ hwq
    obtain ⟨⟨dq, osq⟩, hwq'⟩ := hwq
    subst hwq'
    have hbB := below_regrown WA dq osq
    generalize grow (redrawn WA dq) osq = WB at *
    have L9 := J9.belowS hbB
    have L12 := J12.belowS hbB
    have L14 := J14.belowS hbB
    have hrB := hrA.keepB hbB
    have hbC := below_then hbA hbB hbA.size
    clear G9 G12 G14 J9 J12 J14 hbB hbA hrA HCK
    obtain ⟨x1, x2, x3⟩ := L9.rules
    obtain ⟨y1, y2, y3⟩ := L12.rules
    obtain ⟨z1, z2, z3⟩ := L14.rules
    go_wp2_with fail
    have hat : ∀ d os, Calls Tryd.prog 14 #[.int .i64 4, .int .i64 (-2)] (grow (redrawn WB d) os) (fun e w'' => e = .returned (.agg #[.int .i64 4, .int .i64 (-2)]) ∧ ∃ p : Regrown, w'' = grow (redrawn WB p.d) p.os) := fun d os => Calls.regrown_of (at_any 4 (-2) (grow (redrawn WB d) os))
    have HAT := Lib.hid hat
    clear hat
    have G14 := L14.grows
    refine wp_region_quiet_below (by kernel_rfl) (by kernel_rfl) ?_
    repeat (first | go_big_quiet_step (exact HAT.out _ _) | quiet_step (exact HAT.out _ _))
    refine wpQuiet_nil ?_
    intro _ hwq
    obtain ⟨⟨dq, osq⟩, hwq'⟩ := hwq
    subst hwq'
    have hbD := below_regrown WB dq osq
    generalize grow (redrawn WB dq) osq = WC at *
    replace hbC := below_then hbC hbD hbC.size
    clear hbD G14 HAT hrB L9 L12 L14 hcap
    have hlc := HLC.out
    have hcs := HCS.out
    clear HLC HCS
    by_cases hp0 : pc = 0
    · subst hp0
      have hpx := pos_at cs hcs o (by rw [← hlc, HPO.out])
      rw [← hlc] at hpx
      obtain ⟨hp1, _, k, hk, hok, hpk⟩ := hpx
      rw [HPO.out] at hp1 hpk
      have hpi : pi = 0 := congrArg Prod.snd hp1
      subst hpi
      have hpl : ∀ W : World, Tabs W → Calls Tryd.prog 16 #[.string ⟨l.toArray⟩, .int .i64 o] W fun e w' => e = .returned (.tuple #[.int .i64 p1, .int .i64 p2]) ∧ RowKit.Below W.heap.size W w' := fun W hW => by
        have h := place_any cs hcs k hk o hok W (by rw [← hlc]; exact hle) hW
        rw [← hpk, ← hlc] at h
        exact h
      have HPL := Lib.hid hpl
      clear hpl hp1 hok hpk hk
      clear hlc hcs
      go_wp2_with fail
      refine (position_any l o _ (by omega) HG.out.2.2.2.2.1 HG.out.2.2.2.2.2 (hT.keepB hbC)).mono ?_
      rintro e v1 ⟨rfl, hc1x⟩
      rw [HPO.out]
      have hc1 := below_then hbC hc1x hbC.size
      clear hc1x hbC x1 x2 x3 y1 y2 y3 z1 z2 z3
      unfold flt
      go_wp2_with fail
      refine (placeFault_any l o _ (by omega) HG.out.2.2.2.2.1 HG.out.2.2.2.2.2 (hT.keepB (hc1.alloc hc1.size _))).mono ?_
      rintro e v2 ⟨rfl, hc2x⟩
      rw [HPO.out]
      have M18 := keep_new hc2x
      have hc2 := below_then (hc1.alloc hc1.size _) hc2x (by have := hc1.size; simp; omega)
      clear hc2x hc1
      unfold flt
      go_wp2_with fail
      obtain ⟨vP, hvP⟩ : ∃ vP, v2.alloc (.cells #[.int .i64 0, .int .i64 0] 24) = vP := ⟨_, rfl⟩
      have M21 : Blk vP v2.heap.size 24 #[.int .i64 0, .int .i64 0] := by rw [← hvP]; exact Blk.new v2 _ _
      replace M18 : Blk vP v1.heap.size 24 #[.int .i64 0, .int .i64 0] := by rw [← hvP]; exact M18.alloc _
      have hcP : RowKit.Below w.heap.size w vP := by rw [← hvP]; exact hc2.alloc hc2.size _
      rw [hvP]
      clear hvP hc2
      refine (HPL.out _ (hT.keepB hcP)).mono ?_
      rintro e v5 ⟨rfl, hc5x⟩
      replace M18 := M18.belowS hc5x
      replace M21 := M21.belowS hc5x
      replace hcP := below_then hcP hc5x hcP.size
      clear hc5x
      go_wp2_with fail
      refine (offset_any l _ col _ (by omega) HG.out.1 HG.out.2.1 HG.out.2.2.1 HG.out.2.2.2.1 (hT.keepB hcP)).mono ?_
      rintro e v3 ⟨rfl, hc3x⟩
      rw [HOF.out]
      replace M18 := M18.belowS hc3x
      replace M21 := M21.belowS hc3x
      have hc3 := below_then hcP hc3x hcP.size
      clear hc3x hcP
      unfold flt
      go_wp2_with fail
      refine (offsetOf_any l _ col _ hl HG.out.1 HG.out.2.1 HG.out.2.2.1 HG.out.2.2.2.1 (hT.keepB (hc3.alloc hc3.size _))).mono ?_
      rintro e v4 ⟨rfl, hc4x⟩
      rw [HOF.out]
      have M23 := keep_new hc4x
      replace M18 := (M18.alloc _).belowS hc4x
      replace M21 := (M21.alloc _).belowS hc4x
      have hc4 := below_then (hc3.alloc hc3.size _) hc4x (by have := hc3.size; simp; omega)
      clear hc4x hc3
      obtain ⟨x1, x2, x3⟩ := M18.rules
      obtain ⟨y1, y2, y3⟩ := M21.rules
      obtain ⟨z1, z2, z3⟩ := M23.rules
      unfold flt
      go_wp2_with fail
      go_ret
      exact ⟨rfl, hc4.alloc hc4.size _⟩
    · have hpn := posOf_none l o (by rw [HPO.out]; exact hp0)
      rw [HPO.out] at hpn
      injection hpn with hpn1 hpn2
      subst hpn1 hpn2
      have hpb : (pc == 0) = false := by simpa using hp0
      clear hp0 hlc hcs
      go_wp2_with fail
      refine (position_any l o _ (by omega) HG.out.2.2.2.2.1 HG.out.2.2.2.2.2 (hT.keepB hbC)).mono ?_
      rintro e v1 ⟨rfl, hc1x⟩
      rw [HPO.out]
      have hc1 := below_then hbC hc1x hbC.size
      clear hc1x hbC x1 x2 x3 y1 y2 y3 z1 z2 z3
      unfold flt
      go_wp2_with fail
      refine (placeFault_any l o _ (by omega) HG.out.2.2.2.2.1 HG.out.2.2.2.2.2 (hT.keepB (hc1.alloc hc1.size _))).mono ?_
      rintro e v2 ⟨rfl, hc2x⟩
      rw [HPO.out]
      have M18 := keep_new hc2x
      have hc2 := below_then (hc1.alloc hc1.size _) hc2x (by have := hc1.size; simp; omega)
      clear hc2x hc1
      unfold flt
      go_wp2_with fail
      obtain ⟨vP, hvP⟩ : ∃ vP, v2.alloc (.cells #[.int .i64 pc, .int .i64 pi] 24) = vP := ⟨_, rfl⟩
      have M21 : Blk vP v2.heap.size 24 #[.int .i64 pc, .int .i64 pi] := by rw [← hvP]; exact Blk.new v2 _ _
      replace M18 : Blk vP v1.heap.size 24 #[.int .i64 pc, .int .i64 pi] := by rw [← hvP]; exact M18.alloc _
      have hcP : RowKit.Below w.heap.size w vP := by rw [← hvP]; exact hc2.alloc hc2.size _
      rw [hvP]
      clear hvP hc2
      refine (offset_any l _ col _ (by omega) HG.out.1 HG.out.2.1 HG.out.2.2.1 HG.out.2.2.2.1 (hT.keepB hcP)).mono ?_
      rintro e v3 ⟨rfl, hc3x⟩
      rw [HOF.out]
      replace M18 := M18.belowS hc3x
      replace M21 := M21.belowS hc3x
      have hc3 := below_then hcP hc3x hcP.size
      clear hc3x hcP
      unfold flt
      go_wp2_with fail
      refine (offsetOf_any l _ col _ hl HG.out.1 HG.out.2.1 HG.out.2.2.1 HG.out.2.2.2.1 (hT.keepB (hc3.alloc hc3.size _))).mono ?_
      rintro e v4 ⟨rfl, hc4x⟩
      rw [HOF.out]
      have M23 := keep_new hc4x
      replace M18 := (M18.alloc _).belowS hc4x
      replace M21 := (M21.alloc _).belowS hc4x
      have hc4 := below_then (hc3.alloc hc3.size _) hc4x (by have := hc3.size; simp; omega)
      clear hc4x hc3
      obtain ⟨x1, x2, x3⟩ := M18.rules
      obtain ⟨y1, y2, y3⟩ := M21.rules
      obtain ⟨z1, z2, z3⟩ := M23.rules
      unfold flt
      go_wp2_with fail
      go_ret
      exact ⟨rfl, hc4.alloc hc4.size _⟩

/-- the law's walk -/
theorem tells_any (l : List UInt8) (o line col : Int) (w : World) (hl : l.length ≤ 1048576) (g1 : -9223372036854775808 ≤ line) (g2 : line ≤ 9223372036854775807) (g3 : -9223372036854775808 ≤ col) (g4 : col ≤ 9223372036854775807)
    (g5 : -9223372036854775808 ≤ o) (g6 : o ≤ 9223372036854775807) (hT : Tabs w) :
    Calls Tryd.prog 4 #[.string ⟨l.toArray⟩, .int .i64 o, .int .i64 line, .int .i64 col] w fun e w' => e = .returned (.bool true) ∧ RowKit.Below w.heap.size w w' := by
  by_cases hc : (sfault l).1 = 0
  · by_cases hin : line < 1 ∨ (splitB 10 l).length < line
    · exact tells_out l o line col w hl g1 g2 g3 g4 g5 g6 hT (sfault_zero l hc) hin
    · exact tells_in l o line col w hl g1 g2 g3 g4 g5 g6 hT (sfault_zero l hc) hin
  · exact tells_bad l o line col w hl g1 g2 g3 g4 g5 g6 hT _ _ rfl hc

end Go.Proofs.YtfocggdplahnbaaDoor
