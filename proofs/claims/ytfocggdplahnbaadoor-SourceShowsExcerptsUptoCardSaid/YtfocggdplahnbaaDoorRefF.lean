/- The reference's PlaceFault and OffsetOf: what they compute. Nothing is claimed here. -/
import Derived.Test.YtfocggdplahnbaaDoorRefE
namespace Go.Proofs.YtfocggdplahnbaaDoor
open Go.RowKit Go.Shelf Go.Lib

/-- a byte has width 0 just where it goes on -/
theorem wid_zero (cs : List (List UInt8)) (h : ∀ c ∈ cs, Chr c) (n : Nat) (hn : n < cs.flatten.length) : ∃ m : Int, (widths cs.flatten)[n]? = some m ∧ (m = 0 ↔ bAt cs.flatten n / 64 = 2) := by
  obtain ⟨j, r, hj, hr, rfl⟩ := in_char cs n hn
  have hc := h cs[j] (List.getElem_mem hj)
  have hp := hc.pos
  refine ⟨_, wid_at cs h j hj r hr, ?_⟩
  rw [byte_of cs h j hj r hr]
  rcases Nat.eq_zero_or_pos r with rfl | hrp
  · rw [if_pos rfl]
    exact ⟨fun e => by omega, fun e => absurd e hc.head⟩
  · rw [if_neg (by omega)]
    exact ⟨fun _ => hc.tail r hrp hr, fun _ => rfl⟩

set_option maxRecDepth 100000 in
set_option maxHeartbeats 1000000 in
theorem placeFault_any (l : List UInt8) (o : Int) (w : World) (hl : l.length ≤ 9223372036854775807) (g1 : -9223372036854775808 ≤ o) (g2 : o ≤ 9223372036854775807) (hT : Tabs w) :
    Calls Tryd.prog 15 #[.string ⟨l.toArray⟩, .int .i64 o] w fun e w' => e = .returned (flt (posOf l o).2.1 (posOf l o).2.2) ∧ Below w.heap.size w w' := by
  have hT1 : Tabs (w.alloc (.cells #[.int .i64 0, .int .i64 0] 24)) := hT.keepB ((Below.refl _ _).alloc (Nat.le_refl _) _)
  obtain ⟨c, i, hs⟩ : ∃ c i, sfault l = (c, i) := ⟨_, _, rfl⟩
  by_cases hc : c = 0
  · obtain ⟨hle, cs, hlc, hcs⟩ := chars_of l (by rw [hs]; exact hc)
    replace hs := sfault_zero l (by rw [hs]; exact hc)
    have HZ := Lib.hid hs
    have HLC := Lib.hid hlc
    clear hc hs hlc
    by_cases hneg : o < 0
    · have HL := Lib.hid (show (posOf l o).2 = (4, -2) by unfold posOf; rw [HZ.out, if_neg (by simp), if_pos (.inl hneg)])
      go_enter Tryd.func15, Tryd.ntmps15
      go_wp2_with fail
      refine (sourceFault_any l _ hl hT1).mono ?_
      rintro e w1 ⟨rfl, hb1⟩
      rw [HZ.out]
      have hB1 := (Blk.new w 24 #[.int .i64 0, .int .i64 0]).belowS hb1
      have hb := below_then ((Below.refl _ w).alloc (Nat.le_refl _) _) hb1 (by simp)
      have hT2 := (hT1.keepB hb1)
      clear hb1 hT1
      obtain ⟨q1, q2, q3⟩ := hB1.rules
      unfold flt
      go_wp2_with fail
      refine (at_any _ _ _).mono ?_
      rintro e w2 ⟨rfl, hb2⟩
      have hB2 := (hB1.alloc _).belowS hb2
      have hb3 := below_then (hb.alloc hb.size _) hb2 (by have := hb.size; simp; omega)
      clear q1 q2 q3
      obtain ⟨q1, q2, q3⟩ := hB2.rules
      unfold flt
      go_wp2_with fail
      exact ret_blk rfl rfl ((hB2.set_ 0 (.int .i64 4)).set_ 1 (.int .i64 (-2))) _ Tryd.underlying24 rfl (by kernel_rfl) rfl  ⟨(by rw [HL.out]; rfl), (hb3.setCell (p := ⟨_, 0, none⟩) (by simp) _).setCell (p := ⟨_, 1, none⟩) (by simp) _⟩
    · obtain ⟨n, rfl⟩ := Int.eq_ofNat_of_zero_le (show 0 ≤ o by omega)
      clear hneg g1 g2
      by_cases hbig : l.length < n
      · have HL := Lib.hid (show (posOf l n).2 = (4, -2) by unfold posOf; rw [HZ.out, if_neg (by simp), if_pos (.inr (by omega))])
        go_enter Tryd.func15, Tryd.ntmps15
        go_wp2_with fail
        refine (sourceFault_any l _ hl hT1).mono ?_
        rintro e w1 ⟨rfl, hb1⟩
        rw [HZ.out]
        have hB1 := (Blk.new w 24 #[.int .i64 0, .int .i64 0]).belowS hb1
        have hb := below_then ((Below.refl _ w).alloc (Nat.le_refl _) _) hb1 (by simp)
        have hT2 := (hT1.keepB hb1)
        clear hb1 hT1
        obtain ⟨q1, q2, q3⟩ := hB1.rules
        unfold flt
        go_wp2_with fail
        refine (at_any _ _ _).mono ?_
        rintro e w2 ⟨rfl, hb2⟩
        have hB2 := (hB1.alloc _).belowS hb2
        have hb3 := below_then (hb.alloc hb.size _) hb2 (by have := hb.size; simp; omega)
        clear q1 q2 q3
        obtain ⟨q1, q2, q3⟩ := hB2.rules
        unfold flt
        go_wp2_with fail
        exact ret_blk rfl rfl ((hB2.set_ 0 (.int .i64 4)).set_ 1 (.int .i64 (-2))) _ Tryd.underlying24 rfl (by kernel_rfl) rfl  ⟨(by rw [HL.out]; rfl), (hb3.setCell (p := ⟨_, 0, none⟩) (by simp) _).setCell (p := ⟨_, 1, none⟩) (by simp) _⟩
      · rcases Nat.lt_or_ge n l.length with hlt | hge
        · obtain ⟨m, hm1, hm2⟩ := wid_zero cs hcs n (by rw [← HLC.out]; exact hlt)
          rw [← HLC.out] at hm1 hm2
          have hk' : n < (widths l).length := by rw [widths_len]; exact hlt
          have hcm : (ics (widths l)).toArray[n]? = some (.int .i64 m) := by
            rw [List.getElem?_eq_getElem hk'] at hm1
            have := Option.some.inj hm1
            simp [ics, hk', this]
          have HCM := Lib.hid hcm
          have HM := Lib.hid hm2
          clear hm1 hm2 hcm hk'
          by_cases hct : bAt l n / 64 = 2
          · have HL := Lib.hid (show (posOf l n).2 = (6, -2) by unfold posOf; rw [HZ.out, if_neg (by simp), if_neg (by omega), if_pos (by rw [Int.toNat_natCast]; omega)])
            obtain rfl : m = 0 := HM.out.2 hct
            go_enter Tryd.func15, Tryd.ntmps15
            go_wp2_with fail
            refine (sourceFault_any l _ hl hT1).mono ?_
            rintro e w1 ⟨rfl, hb1⟩
            rw [HZ.out]
            have hB1 := (Blk.new w 24 #[.int .i64 0, .int .i64 0]).belowS hb1
            have hb := below_then ((Below.refl _ w).alloc (Nat.le_refl _) _) hb1 (by simp)
            have hT2 := (hT1.keepB hb1)
            clear hb1 hT1
            obtain ⟨q1, q2, q3⟩ := hB1.rules
            unfold flt
            go_wp2_with fail
            refine (widths_any l _ hle (hT2.keepB ((Below.refl _ _).alloc (Nat.le_refl _) _))).mono ?_
            rintro e w2 ⟨rfl, hBW, hb2⟩
            simp only [World.size_alloc] at hBW
            have hcw := hBW.cell n
            rw [HCM.out] at hcw
            have hB2 := (hB1.alloc _).belowS hb2
            have hb2' := below_then (hb.alloc hb.size _) hb2 (by have := hb.size; simp; omega)
            clear q1 q2 q3
            obtain ⟨q1, q2, q3⟩ := hB2.rules
            go_wp2_with fail
            refine (at_any _ _ _).mono ?_
            rintro e w3 ⟨rfl, hb3⟩
            have hB3 := hB2.belowS hb3
            have hb4 := below_then hb2' hb3 hb2'.size
            clear q1 q2 q3
            obtain ⟨q1, q2, q3⟩ := hB3.rules
            unfold flt
            go_wp2_with fail
            exact ret_blk rfl rfl ((hB3.set_ 0 (.int .i64 6)).set_ 1 (.int .i64 (-2))) _ Tryd.underlying24 rfl (by kernel_rfl) rfl  ⟨(by rw [HL.out]; rfl), (hb4.setCell (p := ⟨_, 0, none⟩) (by simp) _).setCell (p := ⟨_, 1, none⟩) (by simp) _⟩
          · have HL := Lib.hid (show (posOf l n).2 = (0, 0) by unfold posOf; rw [HZ.out, if_neg (by simp), if_neg (by omega), if_neg (by rw [Int.toNat_natCast]; omega)])
            have hm0 : (m == 0) = false := by rw [beq_eq_false_iff_ne]; exact fun e => hct (HM.out.1 e)
            go_enter Tryd.func15, Tryd.ntmps15
            go_wp2_with fail
            refine (sourceFault_any l _ hl hT1).mono ?_
            rintro e w1 ⟨rfl, hb1⟩
            rw [HZ.out]
            have hB1 := (Blk.new w 24 #[.int .i64 0, .int .i64 0]).belowS hb1
            have hb := below_then ((Below.refl _ w).alloc (Nat.le_refl _) _) hb1 (by simp)
            have hT2 := (hT1.keepB hb1)
            clear hb1 hT1
            obtain ⟨q1, q2, q3⟩ := hB1.rules
            unfold flt
            go_wp2_with fail
            refine (widths_any l _ hle (hT2.keepB ((Below.refl _ _).alloc (Nat.le_refl _) _))).mono ?_
            rintro e w2 ⟨rfl, hBW, hb2⟩
            simp only [World.size_alloc] at hBW
            have hcw := hBW.cell n
            rw [HCM.out] at hcw
            have hB2 := (hB1.alloc _).belowS hb2
            have hb2' := below_then (hb.alloc hb.size _) hb2 (by have := hb.size; simp; omega)
            clear q1 q2 q3
            obtain ⟨q1, q2, q3⟩ := hB2.rules
            go_wp2_with fail
            exact ret_blk rfl rfl ((hB2.set_ 0 (.int .i64 0)).set_ 1 (.int .i64 0)) _ Tryd.underlying24 rfl (by kernel_rfl) rfl  ⟨(by rw [HL.out]; rfl), (hb2'.setCell (p := ⟨_, 0, none⟩) (by simp) _).setCell (p := ⟨_, 1, none⟩) (by simp) _⟩
        · have HL := Lib.hid (show (posOf l n).2 = (0, 0) by unfold posOf; rw [HZ.out, if_neg (by simp), if_neg (by omega), if_neg (by omega)])
          obtain rfl : n = l.length := by omega
          go_enter Tryd.func15, Tryd.ntmps15
          go_wp2_with fail
          refine (sourceFault_any l _ hl hT1).mono ?_
          rintro e w1 ⟨rfl, hb1⟩
          rw [HZ.out]
          have hB1 := (Blk.new w 24 #[.int .i64 0, .int .i64 0]).belowS hb1
          have hb := below_then ((Below.refl _ w).alloc (Nat.le_refl _) _) hb1 (by simp)
          have hT2 := (hT1.keepB hb1)
          clear hb1 hT1
          obtain ⟨q1, q2, q3⟩ := hB1.rules
          unfold flt
          go_wp2_with fail
          exact ret_blk rfl rfl (((hB1.set_ 0 (.int .i64 0)).set_ 1 (.int .i64 0)).alloc _) _ Tryd.underlying24 rfl (by kernel_rfl) rfl  ⟨(by rw [HL.out]; rfl), ((hb.setCell (p := ⟨_, 0, none⟩) (by simp) _).setCell (p := ⟨_, 1, none⟩) (by simp) _).alloc (by simp <;> omega) _⟩
  · have HL := Lib.hid (show (posOf l o).2 = (c, i) by unfold posOf; rw [hs]; exact congrArg Prod.snd (if_pos hc))
    have HZ := Lib.hid hs
    have hcb : (c != 0) = true := by simpa using hc
    clear hc hs
    go_enter Tryd.func15, Tryd.ntmps15
    go_wp2_with fail
    refine (sourceFault_any l _ hl hT1).mono ?_
    rintro e w1 ⟨rfl, hb1⟩
    rw [HZ.out]
    have hB1 := (Blk.new w 24 #[.int .i64 0, .int .i64 0]).belowS hb1
    have hb := below_then ((Below.refl _ w).alloc (Nat.le_refl _) _) hb1 (by simp)
    have hT2 := (hT1.keepB hb1)
    clear hb1 hT1
    obtain ⟨q1, q2, q3⟩ := hB1.rules
    unfold flt
    go_wp2_with fail
    exact ret_blk rfl rfl (((hB1.set_ 0 (.int .i64 c)).set_ 1 (.int .i64 i)).alloc _) _ Tryd.underlying24 rfl (by kernel_rfl) rfl  ⟨(by rw [HL.out]; rfl), ((hb.setCell (p := ⟨_, 0, none⟩) (by simp) _).setCell (p := ⟨_, 1, none⟩) (by simp) _).alloc (by simp <;> omega) _⟩

end Go.Proofs.YtfocggdplahnbaaDoor
