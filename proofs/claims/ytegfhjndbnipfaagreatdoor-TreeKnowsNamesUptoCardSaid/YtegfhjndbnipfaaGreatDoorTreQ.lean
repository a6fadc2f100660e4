/- The example of the laws on trees. Nothing is claimed here. -/
import Derived.Lib.QuietBelow
import Derived.Great.Walk
import Derived.Test.YtegfhjndbnipfaaGreatDoorTreP
import Derived.Test.YtegfhjndbnipfaaGreatDoorNamD
namespace Go.Proofs.YtegfhjndbnipfaaGreatDoor
open Go.RowKit Go.Lib Go.Maps Go.Sort
set_option linter.unusedVariables false

theorem fill_stmt : Instr.fill (fun i => some (i * 15, 15)) (Array.map (fun x => stZ.cells[x % stZ.cells.size]!) (Array.range (1 * 15))) [(0, Value.agg (stC 6 1))] = some (stC 6 1) := by kernel_rfl

set_option maxRecDepth 100000 in
set_option maxHeartbeats 4000000 in
theorem grows_any (w : World) (he : Env w) : Calls Tryz.prog 4 #[] w fun e w' => e = .returned (.bool true) ∧ Below w.heap.size w w' := by
  obtain ⟨i0, hi0, hz0, hz1, hz2⟩ := info_parts info_stmt
  have FILL := Lib.hid fill_stmt
  obtain ⟨n0, hn0⟩ : ∃ n, w.heap.size = n := ⟨_, rfl⟩
  have b0 := Below.refl n0 w
  have HN := Lib.hid hn0
  go_enter Tryz.func4, Tryz.ntmps4
  rw [hn0]
  clear hn0
  go_wp2_with fail
  refine (pass_any 1 w).mono ?_
  rintro e w1 ⟨rfl, hw1⟩
  have hP := Blk.new w 43 (stC 5 1)
  have b1 := b0.alloc (Nat.le_of_eq HN.out.symm) (.cells (stC 5 1) 43)
  rw [← hw1] at hP b1
  rw [HN.out] at hP ⊢
  have s1 : n0 ≤ w1.heap.size := by have := b1.size; rwa [HN.out] at this
  clear hw1
  go_wp2_with fail
  refine (pass_any 2 w1).mono ?_
  rintro e w2 ⟨rfl, hw2⟩
  have hQ := Blk.new w1 43 (stC 5 2)
  have hP2 := hP.alloc (.cells (stC 5 2) 43)
  have b2 := b1.alloc s1 (.cells (stC 5 2) 43)
  rw [← hw2] at hQ hP2 b2
  have s2 : n0 ≤ w2.heap.size := by have := b2.size; rwa [HN.out] at this
  obtain ⟨q, hq⟩ : ∃ n, w1.heap.size = n := ⟨_, rfl⟩
  rw [hq] at hQ ⊢
  clear hw2 hP hq b1 s1 b0
  go_wp2_with fail
  refine (alike_any n0 q 1 2 (by omega) (by omega) (by omega) (by omega) w2 hP2 hQ).mono ?_
  rintro e w3 ⟨rfl, ba⟩
  have b3 := below_then b2 ba s2
  have s3 : n0 ≤ w3.heap.size := by have := b3.size; rwa [HN.out] at this
  clear ba b2 s2 hP2 hQ
  unfold flt
  as_aux_lemma =>
  have hF1 := Blk.new w3 25 #[.int .i64 0, .int .i64 0]
  have b4 := b3.alloc s3 (.cells #[.int .i64 0, .int .i64 0] 25)
  go_wp2_with fail
  obtain ⟨w4, hw⟩ : ∃ x, w3.alloc (.cells #[.int .i64 0, .int .i64 0] 25) = x := ⟨_, rfl⟩
  obtain ⟨f1, hf⟩ : ∃ n, w3.heap.size = n := ⟨_, rfl⟩
  rw [hw, hf] at hF1
  rw [hw] at b4
  rw [hw, hf]
  clear hw hf b3 s3
  have s4 : n0 ≤ w4.heap.size := by have := b4.size; rwa [HN.out] at this
  refine (pass_any 3 w4).mono ?_
  rintro e w5 ⟨rfl, hw5⟩
  have hP := Blk.new w4 43 (stC 5 3)
  have hF1b := hF1.alloc (.cells (stC 5 3) 43)
  have b5 := b4.alloc s4 (.cells (stC 5 3) 43)
  rw [← hw5] at hP hF1b b5
  obtain ⟨q, hq⟩ : ∃ n, w4.heap.size = n := ⟨_, rfl⟩
  rw [hq] at hP ⊢
  clear hw5 hq b4 s4 hF1
  have s5 : n0 ≤ w5.heap.size := by have := b5.size; rwa [HN.out] at this
  go_wp2_with fail
  refine (lines_any q 3 (by omega) (by omega) w5 hP).mono ?_
  rintro e w6 ⟨g, gc, cur, rfl, ba, hG, hg0⟩
  have b6 := below_then b5 ba s5
  have s6 : n0 ≤ w6.heap.size := by have := b6.size; rwa [HN.out] at this
  have hF1 := hF1b.belowS ba
  clear ba b5 s5 hP hF1b
  unfold flt
  as_aux_lemma =>
  have hF2 := Blk.new w6 25 #[.int .i64 0, .int .i64 0]
  have b7 := b6.alloc s6 (.cells #[.int .i64 0, .int .i64 0] 25)
  have hF1c := hF1.alloc (.cells #[.int .i64 0, .int .i64 0] 25)
  have hGc := hG.alloc (.cells #[.int .i64 0, .int .i64 0] 25)
  go_wp2_with fail
  obtain ⟨w7, hw⟩ : ∃ x, w6.alloc (.cells #[.int .i64 0, .int .i64 0] 25) = x := ⟨_, rfl⟩
  obtain ⟨f2, hf⟩ : ∃ n, w6.heap.size = n := ⟨_, rfl⟩
  rw [hw, hf] at hF2
  rw [hw] at b7 hF1c hGc
  rw [hw, hf]
  clear hw hf b6 s6 hF1 hG
  have s7 : n0 ≤ w7.heap.size := by have := b7.size; rwa [HN.out] at this
  refine (pass_any 3 w7).mono ?_
  rintro e w8 ⟨rfl, hw8⟩
  have hP := Blk.new w7 43 (stC 5 3)
  have hF1 := hF1c.alloc (.cells (stC 5 3) 43)
  have hF2b := hF2.alloc (.cells (stC 5 3) 43)
  have hG := hGc.alloc (.cells (stC 5 3) 43)
  have b8 := b7.alloc s7 (.cells (stC 5 3) 43)
  rw [← hw8] at hP hF1 hF2b hG b8
  obtain ⟨q, hq⟩ : ∃ n, w7.heap.size = n := ⟨_, rfl⟩
  rw [hq] at hP ⊢
  clear hw8 hq b7 s7 hF1c hF2 hGc
  have s8 : n0 ≤ w8.heap.size := by have := b8.size; rwa [HN.out] at this
  go_wp2_with fail
  refine (shift_any q w8 hP).mono ?_
  rintro e w9 ⟨m, mc, rfl, ba, hm7⟩
  have b9 := below_then b8 ba s8
  have s9 : n0 ≤ w9.heap.size := by have := b9.size; rwa [HN.out] at this
  have hF1c := hF1.belowS ba
  have hF2 := hF2b.belowS ba
  have hGc := hG.belowS ba
  clear ba b8 s8 hP hF1 hF2b hG
  unfold flt
  as_aux_lemma =>
  have hF3 := Blk.new w9 25 #[.int .i64 0, .int .i64 0]
  have bz := (Below.refl w9.heap.size w9).alloc (Nat.le_refl _) (.cells #[.int .i64 0, .int .i64 0] 25)
  have b10 := b9.alloc s9 (.cells #[.int .i64 0, .int .i64 0] 25)
  have hF1 := hF1c.alloc (.cells #[.int .i64 0, .int .i64 0] 25)
  have hF2b := hF2.alloc (.cells #[.int .i64 0, .int .i64 0] 25)
  have hG := hGc.alloc (.cells #[.int .i64 0, .int .i64 0] 25)
  have hm8 := cell_later bz hm7
  clear bz hm7 hF1c hF2 hGc
  go_upto_region 4 with fail
  obtain ⟨w10, hw⟩ : ∃ x, w9.alloc (.cells #[.int .i64 0, .int .i64 0] 25) = x := ⟨_, rfl⟩
  obtain ⟨f3, hf⟩ : ∃ n, w9.heap.size = n := ⟨_, rfl⟩
  rw [hw, hf] at hF3
  rw [hw] at b10 hF1 hF2b hG hm8
  rw [hw, hf]
  clear hw hf b9 s9
  have s10 : n0 ≤ w10.heap.size := by have := b10.size; rwa [HN.out] at this
  have HH := Lib.hid (And.intro hF3 (And.intro b10 (And.intro hF1 (And.intro hF2b (And.intro hG (And.intro hm8 (And.intro s10 hg0)))))))
  clear hF3 b10 hF1 hF2b hG hm8 s10 hg0
  go_step
  go_step
  go_step
  go_step
  refine wpList_buildSlice rfl 28 43 1 _ rfl (stC 6 1) i0 _ Tryz.underlying28 hi0 hz0 (by rw [hz1]; decide) (by rw [hz1]; decide) ?_ ?_
  · rw [hz1]
    rw [Array.toList_map]
    exact FILL.out
  clear hi0 hz0 hz1 hz2 FILL
  obtain ⟨hF3, b10, hF1, hF2, hG, hm8, s10, hg0⟩ := HH.out
  have hP := Blk.new w10 43 (stC 6 1)
  have b11 := b10.alloc s10 (.cells (stC 6 1) 43)
  have s11 : n0 ≤ (w10.alloc (.cells (stC 6 1) 43)).heap.size := by have := b11.size; rwa [HN.out] at this
  have bz := (Below.refl w10.heap.size w10).alloc (Nat.le_refl _) (.cells (stC 6 1) 43)
  have hF1b := hF1.belowS bz
  have hF2b := hF2.belowS bz
  have hF3b := hF3.belowS bz
  have hGb := hG.belowS bz
  have hm9 := cell_later bz hm8
  have HH := Lib.hid (And.intro hP (And.intro b11 (And.intro hF1b (And.intro hF2b (And.intro hF3b (And.intro hGb (And.intro hm9 (And.intro s11 hg0))))))))
  clear hP b11 s11 bz hF1 hF2 hF3 hG hm8 s10 b10 hg0 hF1b hF2b hF3b hGb hm9
  obtain ⟨w11, hw⟩ : ∃ x, w10.alloc (.cells (stC 6 1) 43) = x := ⟨_, rfl⟩
  obtain ⟨q, hq⟩ : ∃ n, w10.heap.size = n := ⟨_, rfl⟩
  rw [hw, hq] at HH ⊢
  clear hw hq
  go_wp2_with fail
  obtain ⟨hP, b11, hF1, hF2, hF3, hG, hm8, s11, hg0⟩ := HH.out
  refine (validate_bad q 1 (by omega) (by omega) w11 hP).mono ?_
  rintro e w12 ⟨rfl, ba⟩
  have b12 := below_then b11 ba s11
  have s12 : n0 ≤ w12.heap.size := by have := b12.size; rwa [HN.out] at this
  have hF1b := hF1.belowS ba
  have hF2b := hF2.belowS ba
  have hF3b := hF3.belowS ba
  have hGb := hG.belowS ba
  have hm9 := cell_later ba hm8
  clear ba HH hP b11 hF1 hF2 hF3 hG hm8 s11
  unfold flt
  have bz := (Below.refl w12.heap.size w12).alloc (Nat.le_refl _) (.cells #[.int .i64 20, .int .i64 0] 25)
  have hF4 := Blk.new w12 25 #[.int .i64 20, .int .i64 0]
  have b13 := b12.alloc s12 (.cells #[.int .i64 20, .int .i64 0] 25)
  have hF1 := hF1b.belowS bz
  have hF2 := hF2b.belowS bz
  have hF3 := hF3b.belowS bz
  have hG := hGb.belowS bz
  have hm8 := cell_later bz hm9
  clear bz b12 s12 hF1b hF2b hF3b hGb hm9
  as_aux_lemma =>
  go_upto_region 5 with fail
  obtain ⟨w13, hw⟩ : ∃ x, w12.alloc (.cells #[.int .i64 20, .int .i64 0] 25) = x := ⟨_, rfl⟩
  obtain ⟨f4, hf⟩ : ∃ n, w12.heap.size = n := ⟨_, rfl⟩
  rw [hw, hf] at hF4
  rw [hw] at b13 hF1 hF2 hF3 hG hm8
  rw [hw, hf]
  clear hw hf
  have he13 : Env w13 := he.keepB (HN.out.symm ▸ b13)
  have heg : ∀ d os, Env (grow (redrawn w13 d) os) := fun d os => he13.keepB (below_regrown w13 d os)
  have hat : ∀ d os, Calls Tryz.prog 14 #[.int .i64 20, .int .i64 0] (grow (redrawn w13 d) os) (fun e w'' => e = .returned (.agg #[.int .i64 20, .int .i64 0]) ∧ ∃ p : Regrown, w'' = grow (redrawn w13 p.d) p.os) := fun d os => Calls.regrown_of (at_any 20 0 (grow (redrawn w13 d) os))
  have hn1 : ∀ d os, Calls Tryz.prog 5 #[.string ⟨#[97, 95, 49]⟩] (grow (redrawn w13 d) os) (fun e w'' => e = .returned (.bool true) ∧ ∃ p : Regrown, w'' = grow (redrawn w13 p.d) p.os) := fun d os => Calls.regrown_of (tname_any [97, 95, 49] (grow (redrawn w13 d) os) (by decide) (heg d os))
  have hn2 : ∀ d os, Calls Tryz.prog 5 #[.string ⟨#[105, 102]⟩] (grow (redrawn w13 d) os) (fun e w'' => e = .returned (.bool false) ∧ ∃ p : Regrown, w'' = grow (redrawn w13 p.d) p.os) := fun d os => Calls.regrown_of (tname_any [105, 102] (grow (redrawn w13 d) os) (by decide) (heg d os))
  have HAT := Lib.hid hat
  have HN1 := Lib.hid hn1
  have HN2 := Lib.hid hn2
  have g1 := hF1.grows
  have g2 := hF2.grows
  have g3 := hF3.grows
  have g4 := hF4.grows
  have g5 : ∀ d os, (grow (redrawn w13 d) os).cell? ⟨g, 0, none⟩ = some (.int .i64 3) := fun d os => (hG.grows d os 0).trans hg0
  have g6 : ∀ d os, (grow (redrawn w13 d) os).cell? ⟨m, 1, none⟩ = some (.int .i64 7) := fun d os => cell_later (below_regrown w13 d os) hm8
  clear hat hn1 hn2 hF1 hF2 hF3 hF4 hG hm8 hg0 he13 heg
  refine wp_region_quiet_below (by kernel_rfl) (by kernel_rfl) ?_
  iterate 44 (first | go_big_quiet_step (first | exact HAT.out _ _ | exact HN1.out _ _) | quiet_step (first | exact HAT.out _ _ | exact HN1.out _ _))
  repeat (first | go_big_quiet_step (exact HN2.out _ _) | quiet_step (exact HN2.out _ _))
  refine wpQuiet_nil ?_
  intro _ hwq
  obtain ⟨⟨dq, osq⟩, hwq'⟩ := hwq
  subst hwq'
  have hbD := below_regrown w13 dq osq
  have s13 : n0 ≤ w13.heap.size := by have := b13.size; rwa [HN.out] at this
  have bE := below_then b13 hbD s13
  generalize grow (redrawn w13 dq) osq = wE at bE ⊢
  clear hbD b13 s13 g1 g2 g3 g4 g5 g6 HAT HN1 HN2
  go_wp2_with fail
  go_ret
  exact ⟨rfl, bE⟩
end Go.Proofs.YtegfhjndbnipfaaGreatDoor
