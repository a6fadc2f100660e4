/- Walks: the program's encoding. Nothing is claimed here. -/
import Derived.Test.YtdajaddgdmoneaaDoorOpP
namespace Go.Proofs.YtdajaddgdmoneaaDoor
open Go.RowKit
set_option linter.unusedVariables false

def EncRel (l : List Ins) (w1 : World) (v i : Value) (wr : World) : Prop :=
  ∃ (k : Nat) (d : List Int), k ≤ l.length ∧ i = .int .i64 k ∧ encFault l = encF k (l.drop k) ∧ encB l = d ++ encB (l.drop k) ∧ wr.ownsRow w1.heap.size 5 1 v d.length (bcs d) ∧ d.length ≤ 7 * k ∧ Below w1.heap.size w1 wr

/-- what the inner loop has added -/
def EncIn (w1 : World) (g : Nat) (a bb : Int) (d : List Int) (q : Nat) (os : List Int) (v i : Value) (wr : World) : Prop :=
  ∃ j : Nat, j ≤ os.length ∧ i = .int .i64 j ∧ wr.ownsRow w1.heap.size 5 1 v (d ++ (q : Int) :: (os.take j).flatMap sp).length (bcs (d ++ (q : Int) :: (os.take j).flatMap sp)) ∧ Blk wr g 3 #[.int .i64 a, .int .i64 bb] ∧ some g ≠ v.ownBlock ∧ Below w1.heap.size w1 wr

theorem in_snoc (d : List Int) (q : Int) (t s : List Int) : d ++ q :: (t ++ s) = (d ++ q :: t) ++ s := by simp
theorem own_app {w : World} {base : Nat} {v : Value} {x y : List Int} (h : w.ownsRow base 5 1 v (x.length + y.length) (bcs x ++ bcs y)) : w.ownsRow base 5 1 v (x ++ y).length (bcs (x ++ y)) := by
  rw [List.length_append, bcs, List.map_append]
  exact h
theorem moved_ne {w : World} {g : Nat} {r s : Option Nat} (h : Moved w r s) (hne : some g ≠ r) (hg : g < w.heap.size) : some g ≠ s := by
  rcases h with h | ⟨x, h, hx⟩
  · rw [h]; exact hne
  · rw [h]; intro e; injection e with e; omega

set_option maxHeartbeats 4000000 in
set_option maxRecDepth 100000 in
theorem encode_any (A : Option Addr) (c : Nat) (l : List Ins) (w : World) (hl : l.length ≤ 9223372036854775807) (hm : Row w A (l.flatMap insc)) :
    Calls Tryd.prog 8 #[.slice A l.length c] w (EncPost l w) := by
  obtain ⟨i0, hi, hz0, hz1, hz2⟩ := info_parts info_byte
  have hB : Blk (w.alloc (.cells #[.int .i64 0, .int .i64 0] 25)) w.heap.size 25 #[.int .i64 0, .int .i64 0] := Blk.new _ _ _
  have HB := Lib.hid hB
  clear hB
  have HM := Lib.hid (hm.keepB ((Below.refl w.heap.size w).alloc (Nat.le_refl _) (.cells #[.int .i64 0, .int .i64 0] 25)))
  clear hm
  by_cases hbig : 60000 < l.length
  · go_enter Tryd.func8, Tryd.ntmps8
    go_wp2_with fail
    refine (fault_any _ _ _).mono ?_
    rintro e w' ⟨rfl, hb'⟩
    have hB' := HB.out.belowS hb'
    obtain ⟨hc', hf', hz'⟩ := hB'.rules
    go_wp2_with fail
    refine ret_tmp_blk Tryd.results8 rfl ((hB'.set_ 0 (.int .i64 2)).set_ 1 (.int .i64 (-1))) _ Tryd.underlying25 rfl (by kernel_rfl) rfl _ rfl ?_
    exact encPost_bad (2, -1) (by rw [encFault, if_pos hbig]) (by decide) rfl (((below_then ((Below.refl _ _).alloc (Nat.le_refl _) _) hb' (by simp)).setCell (Nat.le_refl _) _).setCell (Nat.le_refl _) _)
  · have hbig' : l.length ≤ 60000 := by omega
    go_enter Tryd.func8, Tryd.ntmps8
    go_wp2_with fail
    refine (table_row _).mono ?_
    rintro e w1 ⟨tb, rfl, hrow, hb1⟩
    have hB1 := HB.out.belowS hb1
    have hm1 := HM.out.keepB hb1
    have hbw : Below w.heap.size w w1 := below_then ((Below.refl _ _).alloc (Nat.le_refl _) _) hb1 (by simp)
    clear HB HM hb1
    go_wp2_with fail
    go_loopw [4, 18] (fun v i wr => EncRel l w1 v i wr) (fun _ i _ => l.length - (intOf i).toNat)
    case atStart => exact ⟨0, [], Nat.zero_le _, rfl, by rw [encFault, if_neg hbig]; rfl, rfl, World.ownsRow_nil _ _ _ _, by simp, Below.refl _ _⟩
    case round =>
      obtain ⟨k, d, hk, rfl, he, hd, hown, hdl, hb0⟩ := hrel
      have He := Lib.hid he
      have Hd := Lib.hid hd
      clear he hd
      have hB := hB1.belowS hb0
      obtain ⟨hr, hf, hsz⟩ := hB.rules
      by_cases hlt : k < l.length
      · obtain ⟨b, off, rfl, had, h1, h2, h3⟩ := (hm1.keepB hb0).ins hlt
        obtain ⟨x, hx⟩ : ∃ x, x = l[k] := ⟨_, rfl⟩
        rw [← hx] at h1 h2 h3
        have HX := Lib.hid (show l.drop k = x :: l.drop (k + 1) by rw [hx, drop_cons hlt])
        clear hx
        obtain ⟨op, a, bb⟩ := x
        by_cases hkind : 0 ≤ op ∧ op < 80
        · obtain ⟨hk1, hk2⟩ := hkind
          obtain ⟨q, rfl⟩ := Int.eq_ofNat_of_zero_le hk1
          have hq : q < 80 := by omega
          have HK := Lib.hid (show kindOk ((q : Int), a, bb) from ⟨hk1, hk2⟩)
          obtain ⟨b2, off2, s, ta, tbb, hA, had2, hE, g1, g2, g3⟩ := (hrow.keepB hb0).ent (k := q) hq
          injection hA with hA
          injection hA with hA1 hA2
          subst hA1 hA2
          simp only [Nat.zero_add] at g1 g2 g3
          have HN := Lib.hid (opk_of hE.out)
          go_wp2_with (first | (go_at_call 17; refine (within_yes _ _ _ (by omega) (by omega)).mono ?_; rintro e w' ⟨rfl, rfl⟩))
          refine (operands_any _ _ _ _).mono ?_
          rintro e w2 ⟨rfl, hb2⟩
          have hI := (Blk.new wr 30 #[.int .i64 q, .int .i64 a, .int .i64 bb]).belowS hb2
          have hB2 := (hB.alloc (.cells #[.int .i64 q, .int .i64 a, .int .i64 bb] 30)).belowS hb2
          have hown2 := own_belowS (hown.alloc (.cells #[.int .i64 q, .int .i64 a, .int .i64 bb] 30)) hb2
          have hbr : Below w1.heap.size w1 w2 := below_then (hb0.alloc hb0.size _) hb2 (by have := hb0.size; simp; omega)
          have hs2 : wr.heap.size + 1 ≤ w2.heap.size := by simpa using hb2.size
          have hs1 := hb0.size
          have hs0 := hbw.size
          obtain ⟨n, hn⟩ : ∃ n, n = opn ta tbb := ⟨_, rfl⟩
          rw [← hn]
          have HN2 := Lib.hid (show opk q = n by rw [HN.out, hn])
          have hn2 : n ≤ 2 := by rw [← HN2.out]; exact opk_le q
          have hne : some wr.heap.size ≠ u4.ownBlock := fun e => by have := hown.lt _ e.symm; omega
          clear hn HN hE g1 g2 g3 h1 h2 h3 hb2 hown hb0 hB hr hf
          obtain ⟨ri, fi, zi⟩ := hI.rules
          obtain ⟨hr, hf, hsz⟩ := hB2.rules
          by_cases hra : 0 ≤ a ∧ a ≤ 16000 ∧ 0 ≤ bb ∧ bb ≤ 16000 ∧ (n < 2 → bb = 0) ∧ (n < 1 → a = 0)
          · have HR := Lib.hid (show rangeOk ((q : Int), a, bb) by
              unfold rangeOk
              simp only [Int.toNat_natCast, HN2.out]
              exact hra)
            obtain ⟨a1, a2, b1, b2, z1, z2⟩ := hra
            have hn3 : n = 0 ∨ n = 1 ∨ n = 2 := by omega
            rcases hn3 with rfl | rfl | rfl
            · obtain rfl : bb = 0 := z1 (by omega)
              obtain rfl : a = 0 := z2 (by omega)
              clear z1 z2 hn2
              go_wp2_with (at_builtin; refine wpList_append_own_at _ rfl (.tmp 75) (.tmp 79) 22 rfl w1.heap.size 5 i0 (.int .u8 0) 1 1 Tryd.underlying22 hi hz0 hz1 hz2 rfl (by decide) u4 d.length (bcs d) rfl (hown2.alloc _) ⟨w2.heap.size, 0, none⟩ 1 1 [_] rfl rfl (cell_one_new w2 _ _) (by simp [Value.oneCell']) (by unfold maxLen; omega) (by omega) (by simp; omega) ?_; intro v3 w3 hown3 hg3 _ hat3; have hI3 := (hI.alloc _).grown hg3 hne; obtain ⟨ri3, fi3, zi3⟩ := hI3.rules)
              have hb3 := (hbr.alloc hbr.size _).grown hg3 (by simp; omega) (fun g e => (hown2.lt g e).1)
              have hO := Blk.new w3 3 #[.int .i64 0, .int .i64 0]
              have hneO : some w3.heap.size ≠ v3.ownBlock := fun e => by have := (hown3.lt _ e.symm).2; omega
              have hown3' := hown3.alloc (.cells #[.int .i64 0, .int .i64 0] 3)
              have hb3' := hb3.alloc hb3.size (.cells #[.int .i64 0, .int .i64 0] 3)
              have HR4 := Lib.hid (show EncIn w1 w3.heap.size 0 0 d q ([] : List Int) v3 (.int .i64 0) (w3.alloc (.cells #[.int .i64 0, .int .i64 0] 3)) from ⟨0, Nat.zero_le _, rfl, by simpa [bcs] using hown3', hO, hneO, hb3'⟩)
              have HW3 := Lib.hid (show w.heap.size < w3.heap.size by have := hb3.size; omega)
              clear hown3 hown3' hb3 hb3' hO hneO hI3 ri3 fi3 zi3 hg3 hat3 hI ri fi zi hB2 hr hf hsz hown2 hne
              go_loopw [4, 89] (fun v i wq => EncIn w1 w3.heap.size 0 0 d q ([] : List Int) v i wq) (fun _ i _ => 0 - (intOf i).toNat)
              case atStart => exact HR4.out
              case round =>
                clear HR4
                obtain ⟨wo, rfl⟩ : ∃ wo : World, wo = wr := ⟨_, rfl⟩
                obtain ⟨j, hj, rfl, hown, hO, hneO, hb0⟩ := hrel
                obtain ⟨ro, fo, zo⟩ := hO.rules
                have hs4 := hb0.size
                have hj' : j ≤ 0 := hj
                clear hj
                by_cases hj2 : j < 0
                · (exact absurd hj2 (by omega))
                · obtain rfl : j = 0 := by omega
                  have E1 := Lib.hid (show enc1 ((q : Int), 0, 0) = (q : Int) :: (([] : List Int).take 0).flatMap sp by
                    unfold enc1 args
                    simp only [Int.toNat_natCast, HN2.out] <;> rfl)
                  have El := enc1_len ((q : Int), 0, 0)
                  go_wp2_with fail
                  go_roundw
                  case rel =>
                    refine ⟨k + 1, d ++ enc1 ((q : Int), 0, 0), by omega, by go_num, by rw [He.out, HX.out, encF_ok HK.out HR.out], by rw [Hd.out, HX.out, encB_cons]; simp, ?_, by simp; omega, hb0⟩
                    rw [E1.out]
                    exact hown
                  case measure => simp [intOf]; omega
            · obtain rfl : bb = 0 := z1 (by omega)
              clear z1 z2 hn2
              go_wp2_with (at_builtin; refine wpList_append_own_at _ rfl (.tmp 75) (.tmp 79) 22 rfl w1.heap.size 5 i0 (.int .u8 0) 1 1 Tryd.underlying22 hi hz0 hz1 hz2 rfl (by decide) u4 d.length (bcs d) rfl (hown2.alloc _) ⟨w2.heap.size, 0, none⟩ 1 1 [_] rfl rfl (cell_one_new w2 _ _) (by simp [Value.oneCell']) (by unfold maxLen; omega) (by omega) (by simp; omega) ?_; intro v3 w3 hown3 hg3 _ hat3; have hI3 := (hI.alloc _).grown hg3 hne; obtain ⟨ri3, fi3, zi3⟩ := hI3.rules)
              have hb3 := (hbr.alloc hbr.size _).grown hg3 (by simp; omega) (fun g e => (hown2.lt g e).1)
              have hO := Blk.new w3 3 #[.int .i64 a, .int .i64 0]
              have hneO : some w3.heap.size ≠ v3.ownBlock := fun e => by have := (hown3.lt _ e.symm).2; omega
              have hown3' := hown3.alloc (.cells #[.int .i64 a, .int .i64 0] 3)
              have hb3' := hb3.alloc hb3.size (.cells #[.int .i64 a, .int .i64 0] 3)
              have HR4 := Lib.hid (show EncIn w1 w3.heap.size a 0 d q [a] v3 (.int .i64 0) (w3.alloc (.cells #[.int .i64 a, .int .i64 0] 3)) from ⟨0, Nat.zero_le _, rfl, by simpa [bcs] using hown3', hO, hneO, hb3'⟩)
              have HW3 := Lib.hid (show w.heap.size < w3.heap.size by have := hb3.size; omega)
              clear hown3 hown3' hb3 hb3' hO hneO hI3 ri3 fi3 zi3 hg3 hat3 hI ri fi zi hB2 hr hf hsz hown2 hne
              go_loopw [4, 89] (fun v i wq => EncIn w1 w3.heap.size a 0 d q [a] v i wq) (fun _ i _ => 1 - (intOf i).toNat)
              case atStart => exact HR4.out
              case round =>
                clear HR4
                obtain ⟨wo, rfl⟩ : ∃ wo : World, wo = wr := ⟨_, rfl⟩
                obtain ⟨j, hj, rfl, hown, hO, hneO, hb0⟩ := hrel
                obtain ⟨ro, fo, zo⟩ := hO.rules
                have hs4 := hb0.size
                have hj' : j ≤ 1 := hj
                clear hj
                by_cases hj2 : j < 1
                · obtain rfl : j = 0 := by omega
                  have E := Lib.hid (show ([a].take (0 + 1)).flatMap sp = ([a].take 0).flatMap sp ++ sp a by simp)
                  have hx := sp_len a
                  have hlen : (d ++ (q : Int) :: ([a].take 0).flatMap sp).length ≤ 1000000 := by
                    have e1 := sp_len a
                    have e2 := sp_len 0
                    simp
                    omega
                  go_wp2_with (go_at_call 22; refine (varint_any w1.heap.size u4 _ _ a _ (by omega) (by omega) (by omega) hown (by omega)).mono ?_; rintro e w5 ⟨v5, rfl, hown5, hg5, hm5⟩)
                  go_roundw
                  case rel =>
                    refine ⟨0 + 1, by simp, by first | rfl | go_num, ?_, hO.grown hg5 hneO, moved_ne hm5 hneO hO.lt, hb0.grown hg5 hs4 (fun g e => (hown.lt g e).1)⟩
                    rw [E.out, in_snoc]
                    exact own_app hown5
                  case measure => simp [intOf]
                · obtain rfl : j = 1 := by omega
                  have E1 := Lib.hid (show enc1 ((q : Int), a, 0) = (q : Int) :: ([a].take 1).flatMap sp by
                    unfold enc1 args
                    simp only [Int.toNat_natCast, HN2.out] <;> rfl)
                  have El := enc1_len ((q : Int), a, 0)
                  go_wp2_with fail
                  go_roundw
                  case rel =>
                    refine ⟨k + 1, d ++ enc1 ((q : Int), a, 0), by omega, by go_num, by rw [He.out, HX.out, encF_ok HK.out HR.out], by rw [Hd.out, HX.out, encB_cons]; simp, ?_, by simp; omega, hb0⟩
                    rw [E1.out]
                    exact hown
                  case measure => simp [intOf]; omega
            · clear z1 z2 hn2
              go_wp2_with (at_builtin; refine wpList_append_own_at _ rfl (.tmp 75) (.tmp 79) 22 rfl w1.heap.size 5 i0 (.int .u8 0) 1 1 Tryd.underlying22 hi hz0 hz1 hz2 rfl (by decide) u4 d.length (bcs d) rfl (hown2.alloc _) ⟨w2.heap.size, 0, none⟩ 1 1 [_] rfl rfl (cell_one_new w2 _ _) (by simp [Value.oneCell']) (by unfold maxLen; omega) (by omega) (by simp; omega) ?_; intro v3 w3 hown3 hg3 _ hat3; have hI3 := (hI.alloc _).grown hg3 hne; obtain ⟨ri3, fi3, zi3⟩ := hI3.rules)
              have hb3 := (hbr.alloc hbr.size _).grown hg3 (by simp; omega) (fun g e => (hown2.lt g e).1)
              have hO := Blk.new w3 3 #[.int .i64 a, .int .i64 bb]
              have hneO : some w3.heap.size ≠ v3.ownBlock := fun e => by have := (hown3.lt _ e.symm).2; omega
              have hown3' := hown3.alloc (.cells #[.int .i64 a, .int .i64 bb] 3)
              have hb3' := hb3.alloc hb3.size (.cells #[.int .i64 a, .int .i64 bb] 3)
              have HR4 := Lib.hid (show EncIn w1 w3.heap.size a bb d q [a, bb] v3 (.int .i64 0) (w3.alloc (.cells #[.int .i64 a, .int .i64 bb] 3)) from ⟨0, Nat.zero_le _, rfl, by simpa [bcs] using hown3', hO, hneO, hb3'⟩)
              have HW3 := Lib.hid (show w.heap.size < w3.heap.size by have := hb3.size; omega)
              clear hown3 hown3' hb3 hb3' hO hneO hI3 ri3 fi3 zi3 hg3 hat3 hI ri fi zi hB2 hr hf hsz hown2 hne
              go_loopw [4, 89] (fun v i wq => EncIn w1 w3.heap.size a bb d q [a, bb] v i wq) (fun _ i _ => 2 - (intOf i).toNat)
              case atStart => exact HR4.out
              case round =>
                clear HR4
                obtain ⟨wo, rfl⟩ : ∃ wo : World, wo = wr := ⟨_, rfl⟩
                obtain ⟨j, hj, rfl, hown, hO, hneO, hb0⟩ := hrel
                obtain ⟨ro, fo, zo⟩ := hO.rules
                have hs4 := hb0.size
                have hj' : j ≤ 2 := hj
                clear hj
                by_cases hj2 : j < 2
                · have hj3 : j = 0 ∨ j = 1 := by omega
                  rcases hj3 with rfl | rfl
                  · have E := Lib.hid (show ([a, bb].take (0 + 1)).flatMap sp = ([a, bb].take 0).flatMap sp ++ sp a by simp)
                    have hx := sp_len a
                    have hlen : (d ++ (q : Int) :: ([a, bb].take 0).flatMap sp).length ≤ 1000000 := by
                      have e1 := sp_len a
                      have e2 := sp_len bb
                      simp
                      omega
                    go_wp2_with (go_at_call 22; refine (varint_any w1.heap.size u4 _ _ a _ (by omega) (by omega) (by omega) hown (by omega)).mono ?_; rintro e w5 ⟨v5, rfl, hown5, hg5, hm5⟩)
                    go_roundw
                    case rel =>
                      refine ⟨0 + 1, by simp, by first | rfl | go_num, ?_, hO.grown hg5 hneO, moved_ne hm5 hneO hO.lt, hb0.grown hg5 hs4 (fun g e => (hown.lt g e).1)⟩
                      rw [E.out, in_snoc]
                      exact own_app hown5
                    case measure => simp [intOf]
                  · have E := Lib.hid (show ([a, bb].take (1 + 1)).flatMap sp = ([a, bb].take 1).flatMap sp ++ sp bb by simp)
                    have hx := sp_len bb
                    have hlen : (d ++ (q : Int) :: ([a, bb].take 1).flatMap sp).length ≤ 1000000 := by
                      have e1 := sp_len a
                      have e2 := sp_len bb
                      simp
                      omega
                    go_wp2_with (go_at_call 22; refine (varint_any w1.heap.size u4 _ _ bb _ (by omega) (by omega) (by omega) hown (by omega)).mono ?_; rintro e w5 ⟨v5, rfl, hown5, hg5, hm5⟩)
                    go_roundw
                    case rel =>
                      refine ⟨1 + 1, by simp, by first | rfl | go_num, ?_, hO.grown hg5 hneO, moved_ne hm5 hneO hO.lt, hb0.grown hg5 hs4 (fun g e => (hown.lt g e).1)⟩
                      rw [E.out, in_snoc]
                      exact own_app hown5
                    case measure => simp [intOf]
                · obtain rfl : j = 2 := by omega
                  have E1 := Lib.hid (show enc1 ((q : Int), a, bb) = (q : Int) :: ([a, bb].take 2).flatMap sp by
                    unfold enc1 args
                    simp only [Int.toNat_natCast, HN2.out] <;> rfl)
                  have El := enc1_len ((q : Int), a, bb)
                  go_wp2_with fail
                  go_roundw
                  case rel =>
                    refine ⟨k + 1, d ++ enc1 ((q : Int), a, bb), by omega, by go_num, by rw [He.out, HX.out, encF_ok HK.out HR.out], by rw [Hd.out, HX.out, encB_cons]; simp, ?_, by simp; omega, hb0⟩
                    rw [E1.out]
                    exact hown
                  case measure => simp [intOf]; omega
          · have HR := Lib.hid (show ¬ rangeOk ((q : Int), a, bb) by
              unfold rangeOk
              simp only [Int.toNat_natCast, HN2.out]
              exact hra)
            have hbad : a < 0 ∨ (0 ≤ a ∧ bb < 0) ∨ (0 ≤ a ∧ 0 ≤ bb ∧ 16000 < a) ∨ (0 ≤ a ∧ 0 ≤ bb ∧ a ≤ 16000 ∧ 16000 < bb) ∨ (0 ≤ a ∧ 0 ≤ bb ∧ a ≤ 16000 ∧ bb ≤ 16000 ∧ n < 2 ∧ bb ≠ 0) ∨ (0 ≤ a ∧ 0 ≤ bb ∧ a ≤ 16000 ∧ bb ≤ 16000 ∧ n = 0 ∧ bb = 0 ∧ a ≠ 0) := by omega
            clear hra HN2
            rcases hbad with h | ⟨h, h'⟩ | ⟨h, h', h''⟩ | ⟨h, h', h'', h'''⟩ | ⟨h, h', h'', h''', h2, h3⟩ | ⟨h, h', h'', h''', rfl, rfl, h3⟩
            · go_wp2_with (go_at_call 18; refine (fault_any _ _ _).mono ?_; rintro e w' ⟨rfl, hb'⟩; have hB' := hB2.belowS hb'; obtain ⟨hc', hf', hz'⟩ := hB'.rules)
              refine ret_tmp_blk Tryd.results8 rfl ((hB'.set_ 0 (.int .i64 4)).set_ 1 (.int .i64 k)) _ Tryd.underlying25 rfl (by kernel_rfl) rfl _ rfl ?_
              exact encPost_bad (4, (k : Int)) (by rw [He.out, HX.out, encF_range HK.out HR.out]) (by simp) rfl (((below_then (below_then hbw hbr hbw.size) hb' (by omega)).setCell (Nat.le_refl _) _).setCell (Nat.le_refl _) _)
            · go_wp2_with (go_at_call 18; refine (fault_any _ _ _).mono ?_; rintro e w' ⟨rfl, hb'⟩; have hB' := hB2.belowS hb'; obtain ⟨hc', hf', hz'⟩ := hB'.rules)
              refine ret_tmp_blk Tryd.results8 rfl ((hB'.set_ 0 (.int .i64 4)).set_ 1 (.int .i64 k)) _ Tryd.underlying25 rfl (by kernel_rfl) rfl _ rfl ?_
              exact encPost_bad (4, (k : Int)) (by rw [He.out, HX.out, encF_range HK.out HR.out]) (by simp) rfl (((below_then (below_then hbw hbr hbw.size) hb' (by omega)).setCell (Nat.le_refl _) _).setCell (Nat.le_refl _) _)
            · go_wp2_with (go_at_call 18; refine (fault_any _ _ _).mono ?_; rintro e w' ⟨rfl, hb'⟩; have hB' := hB2.belowS hb'; obtain ⟨hc', hf', hz'⟩ := hB'.rules)
              refine ret_tmp_blk Tryd.results8 rfl ((hB'.set_ 0 (.int .i64 4)).set_ 1 (.int .i64 k)) _ Tryd.underlying25 rfl (by kernel_rfl) rfl _ rfl ?_
              exact encPost_bad (4, (k : Int)) (by rw [He.out, HX.out, encF_range HK.out HR.out]) (by simp) rfl (((below_then (below_then hbw hbr hbw.size) hb' (by omega)).setCell (Nat.le_refl _) _).setCell (Nat.le_refl _) _)
            · go_wp2_with (go_at_call 18; refine (fault_any _ _ _).mono ?_; rintro e w' ⟨rfl, hb'⟩; have hB' := hB2.belowS hb'; obtain ⟨hc', hf', hz'⟩ := hB'.rules)
              refine ret_tmp_blk Tryd.results8 rfl ((hB'.set_ 0 (.int .i64 4)).set_ 1 (.int .i64 k)) _ Tryd.underlying25 rfl (by kernel_rfl) rfl _ rfl ?_
              exact encPost_bad (4, (k : Int)) (by rw [He.out, HX.out, encF_range HK.out HR.out]) (by simp) rfl (((below_then (below_then hbw hbr hbw.size) hb' (by omega)).setCell (Nat.le_refl _) _).setCell (Nat.le_refl _) _)
            · have hn3 : n = 0 ∨ n = 1 := by omega
              have e1 : (bb != 0) = true := by simpa using h3
              clear h3
              rcases hn3 with rfl | rfl
              · go_wp2_with (go_at_call 18; refine (fault_any _ _ _).mono ?_; rintro e w' ⟨rfl, hb'⟩; have hB' := hB2.belowS hb'; obtain ⟨hc', hf', hz'⟩ := hB'.rules)
                refine ret_tmp_blk Tryd.results8 rfl ((hB'.set_ 0 (.int .i64 4)).set_ 1 (.int .i64 k)) _ Tryd.underlying25 rfl (by kernel_rfl) rfl _ rfl ?_
                exact encPost_bad (4, (k : Int)) (by rw [He.out, HX.out, encF_range HK.out HR.out]) (by simp) rfl (((below_then (below_then hbw hbr hbw.size) hb' (by omega)).setCell (Nat.le_refl _) _).setCell (Nat.le_refl _) _)
              · go_wp2_with (go_at_call 18; refine (fault_any _ _ _).mono ?_; rintro e w' ⟨rfl, hb'⟩; have hB' := hB2.belowS hb'; obtain ⟨hc', hf', hz'⟩ := hB'.rules)
                refine ret_tmp_blk Tryd.results8 rfl ((hB'.set_ 0 (.int .i64 4)).set_ 1 (.int .i64 k)) _ Tryd.underlying25 rfl (by kernel_rfl) rfl _ rfl ?_
                exact encPost_bad (4, (k : Int)) (by rw [He.out, HX.out, encF_range HK.out HR.out]) (by simp) rfl (((below_then (below_then hbw hbr hbw.size) hb' (by omega)).setCell (Nat.le_refl _) _).setCell (Nat.le_refl _) _)
            · have e1 : (a != 0) = true := by simpa using h3
              clear h3
              go_wp2_with (go_at_call 18; refine (fault_any _ _ _).mono ?_; rintro e w' ⟨rfl, hb'⟩; have hB' := hB2.belowS hb'; obtain ⟨hc', hf', hz'⟩ := hB'.rules)
              refine ret_tmp_blk Tryd.results8 rfl ((hB'.set_ 0 (.int .i64 4)).set_ 1 (.int .i64 k)) _ Tryd.underlying25 rfl (by kernel_rfl) rfl _ rfl ?_
              exact encPost_bad (4, (k : Int)) (by rw [He.out, HX.out, encF_range HK.out HR.out]) (by simp) rfl (((below_then (below_then hbw hbr hbw.size) hb' (by omega)).setCell (Nat.le_refl _) _).setCell (Nat.le_refl _) _)
        · have hk' : op < 0 ∨ 80 ≤ op := by omega
          have HK := Lib.hid (show ¬ kindOk (op, a, bb) from hkind)
          clear hkind
          go_wp2_with (first | (go_at_call 17; refine (within_no _ _ _ (by omega)).mono ?_; rintro e w' ⟨rfl, rfl⟩))
          refine (fault_any _ _ _).mono ?_
          rintro e w' ⟨rfl, hb'⟩
          have hB' := (hB.alloc _).belowS hb'
          obtain ⟨hc', hf', hz'⟩ := hB'.rules
          go_wp2_with fail
          refine ret_tmp_blk Tryd.results8 rfl ((hB'.set_ 0 (.int .i64 5)).set_ 1 (.int .i64 k)) _ Tryd.underlying25 rfl (by kernel_rfl) rfl _ rfl ?_
          exact encPost_bad (5, (k : Int)) (by rw [He.out, HX.out, encF_kind HK.out]) (by simp) rfl (((below_then ((below_then hbw hb0 hbw.size).alloc (by have := hbw.size; have := hb0.size; omega) _) hb' (by have := hbw.size; have := hb0.size; simp; omega)).setCell (Nat.le_refl _) _).setCell (Nat.le_refl _) _)
      · obtain ⟨Av, cv, rfl, hrow2, hc⟩ := own_form hown
        go_wp2_with fail
        refine ret_tmp_blk Tryd.results8 rfl ((hB.set_ 0 _).set_ 1 _) _ Tryd.underlying25 rfl (by kernel_rfl) rfl _ rfl ?_
        have e : encB l = d := by rw [Hd.out, List.drop_of_length_le (by omega)]; simp [encB]
        have hs0 := hbw.size
        refine encPost_good (by rw [He.out, List.drop_of_length_le (by omega)]; rfl) Av cv (by rw [e]; rfl) ?_ (((below_then hbw hb0 hbw.size).setCell (Nat.le_refl _) _).setCell (Nat.le_refl _) _)
        rw [e]
        exact Row.of_own (ownsRow_setCell_below (ownsRow_setCell_below hown (a := ⟨w.heap.size, 0, none⟩) (by have := hB1.lt; simpa using this) _) (a := ⟨w.heap.size, 1, none⟩) (by have := hB1.lt; simpa using this) _)

end Go.Proofs.YtdajaddgdmoneaaDoor
