/- source.Position: what it computes. Nothing is claimed here. -/
import Derived.Test.YtfocggdplahnbaaDoorSrcG
import Derived.Deep.RegionWith
import Derived.BigGuardPart
namespace Go.Proofs.YtfocggdplahnbaaDoor
open Go.RowKit Go.Shelf Go.Lib

theorem runes_any (l : List UInt8) (w : World) (hl : l.length ≤ 140737488355328) :
    Calls Tryd.prog 23 #[.string ⟨l.toArray⟩] w fun e w' => e = .returned (.int .i64 (runeCountL l)) ∧ Below w.heap.size w w' := by
  refine (Tryd.utf8_RuneCountInString ⟨l.toArray⟩ w (by simp [ByteArray.size]; omega)).mono ?_
  rintro e w' ⟨rfl, pos, rfl⟩
  exact ⟨rfl, (Below.refl _ _).alloc (Nat.le_refl _) _⟩
theorem count_any (l : List UInt8) (w : World) :
    Calls Tryd.prog 22 #[.string ⟨l.toArray⟩, .string ⟨#[10]⟩] w fun e w' => e = .returned (.int .i64 (l.count 10 : Nat)) ∧ w = w' := by
  refine (Tryd.strings_Count_one ⟨l.toArray⟩ 10 w).mono ?_
  rintro e w' ⟨rfl, rfl⟩
  exact ⟨by simp [countByte], rfl⟩
theorem start_yes (x : UInt8) (w : World) (h : x.toNat / 64 ≠ 2) : Calls Tryd.prog 20 #[.int .u8 x.toNat] w fun e w' => e = .returned (.bool true) ∧ w = w' := by
  refine (Tryd.utf8_RuneStart x.toNat w (by omega) (by have := x.toNat_lt; omega)).mono ?_
  rintro e w' ⟨rfl, rfl⟩
  refine ⟨ret_bool ?_, rfl⟩
  unfold runeStart
  rw [bne_iff_ne]
  omega
theorem start_no (x : UInt8) (w : World) (h : x.toNat / 64 = 2) : Calls Tryd.prog 20 #[.int .u8 x.toNat] w fun e w' => e = .returned (.bool false) ∧ w = w' := by
  refine (Tryd.utf8_RuneStart x.toNat w (by omega) (by have := x.toNat_lt; omega)).mono ?_
  rintro e w' ⟨rfl, rfl⟩
  refine ⟨ret_bool ?_, rfl⟩
  unfold runeStart
  rw [bne_eq_false_iff_eq]
  omega

theorem byte_at (l : List UInt8) (n : Nat) (h : n < (⟨l.toArray⟩ : ByteArray).size) : ((⟨l.toArray⟩ : ByteArray)[n]'h).toNat = bAt l n := by
  have h' : n < l.length := by simpa [ByteArray.size] using h
  simp [bAt, h']
  rfl

set_option maxRecDepth 100000 in
set_option maxHeartbeats 1000000 in
theorem position_any (l : List UInt8) (o : Int) (w : World) (hl : l.length ≤ 9223372036854775807) (g1 : -9223372036854775808 ≤ o) (g2 : o ≤ 9223372036854775807) (hT : Tabs w) :
    Calls Tryd.prog 7 #[.string ⟨l.toArray⟩, .int .i64 o] w fun e w' => e = .returned (.tuple #[.int .i64 (posOf l o).1.1, .int .i64 (posOf l o).1.2, flt (posOf l o).2.1 (posOf l o).2.2]) ∧ Below w.heap.size w w' := by
  have hT1 : Tabs (w.alloc (.cells #[.int .i64 0, .int .i64 0] 24)) := hT.keepB ((Below.refl _ _).alloc (Nat.le_refl _) _)
  obtain ⟨c, i, hs⟩ : ∃ c i, sfault l = (c, i) := ⟨_, _, rfl⟩
  by_cases hc : c = 0
  · have hle := (chars_of l (by rw [hs]; exact hc)).1
    replace hs := sfault_zero l (by rw [hs]; exact hc)
    have HZ := Lib.hid hs
    clear hc
    by_cases hneg : o < 0
    · have HL := Lib.hid (show posOf l o = ((0, 0), (4, -2)) by unfold posOf; rw [HZ.out, if_neg (by simp), if_pos (.inl hneg)])
      go_enter Tryd.func7, Tryd.ntmps7
      go_wp2_with fail
      refine (check_any l _ hl hT1).mono ?_
      rintro e w1 ⟨rfl, hb1⟩
      rw [hs]
      have hB1 := (Blk.new w 24 #[.int .i64 0, .int .i64 0]).belowS hb1
      have hb := below_then ((Below.refl _ w).alloc (Nat.le_refl _) _) hb1 (by simp)
      clear hs hb1 hT1
      obtain ⟨q1, q2, q3⟩ := hB1.rules
      unfold flt
      go_wp2_with fail
      exact ret_tmp2_blk rfl rfl (((hB1.set_ 0 (.int .i64 4)).set_ 1 (.int .i64 (-2))).alloc _) _ Tryd.underlying24 rfl (by kernel_rfl) rfl _ _ rfl rfl ⟨(by rw [HL.out]; rfl), ((hb.setCell (p := ⟨_, 0, none⟩) (by simp) _).setCell (p := ⟨_, 1, none⟩) (by simp) _).alloc (by simp <;> omega) _⟩
    · obtain ⟨n, rfl⟩ := Int.eq_ofNat_of_zero_le (show 0 ≤ o by omega)
      clear hneg g1 g2
      by_cases hbig : l.length < n
      · have HL := Lib.hid (show posOf l n = ((0, 0), (4, -2)) by unfold posOf; rw [HZ.out, if_neg (by simp), if_pos (.inr (by omega))])
        go_enter Tryd.func7, Tryd.ntmps7
        go_wp2_with fail
        refine (check_any l _ hl hT1).mono ?_
        rintro e w1 ⟨rfl, hb1⟩
        rw [hs]
        have hB1 := (Blk.new w 24 #[.int .i64 0, .int .i64 0]).belowS hb1
        have hb := below_then ((Below.refl _ w).alloc (Nat.le_refl _) _) hb1 (by simp)
        clear hs hb1 hT1
        obtain ⟨q1, q2, q3⟩ := hB1.rules
        unfold flt
        go_wp2_with fail
        exact ret_tmp2_blk rfl rfl (((hB1.set_ 0 (.int .i64 4)).set_ 1 (.int .i64 (-2))).alloc _) _ Tryd.underlying24 rfl (by kernel_rfl) rfl _ _ rfl rfl ⟨(by rw [HL.out]; rfl), ((hb.setCell (p := ⟨_, 0, none⟩) (by simp) _).setCell (p := ⟨_, 1, none⟩) (by simp) _).alloc (by simp <;> omega) _⟩
      · by_cases hcont : n < l.length ∧ bAt l n / 64 = 2
        · have HL := Lib.hid (show posOf l n = ((0, 0), (6, -2)) by unfold posOf; rw [HZ.out, if_neg (by simp), if_neg (by omega), if_pos (by rw [Int.toNat_natCast]; omega)])
          obtain ⟨hlt, hct⟩ := hcont
          go_enter Tryd.func7, Tryd.ntmps7
          go_wp2_with fail
          refine (check_any l _ hl hT1).mono ?_
          rintro e w1 ⟨rfl, hb1⟩
          rw [hs]
          have hB1 := (Blk.new w 24 #[.int .i64 0, .int .i64 0]).belowS hb1
          have hb := below_then ((Below.refl _ w).alloc (Nat.le_refl _) _) hb1 (by simp)
          clear hs hb1 hT1
          obtain ⟨q1, q2, q3⟩ := hB1.rules
          unfold flt
          go_wp2_with fail
          refine (start_no _ _ (by rw [byte_at]; exact hct)).mono ?_
          rintro e w2 ⟨rfl, rfl⟩
          go_wp2_with fail
          exact ret_tmp2_blk rfl rfl (((hB1.set_ 0 (.int .i64 6)).set_ 1 (.int .i64 (-2))).alloc _) _ Tryd.underlying24 rfl (by kernel_rfl) rfl _ _ rfl rfl ⟨(by rw [HL.out]; rfl), ((hb.setCell (p := ⟨_, 0, none⟩) (by simp) _).setCell (p := ⟨_, 1, none⟩) (by simp) _).alloc (by simp <;> omega) _⟩
        · have hn : n ≤ l.length := by omega
          have hLn : (l.take n).length = n := by rw [List.length_take]; omega
          have HL := Lib.hid (show posOf l n = (((((l.take n).count 10 : Nat) : Int) + 1, ((runeCountL (tailNl (l.take n)) : Nat) : Int) + 1), (0, 0)) by unfold posOf; rw [HZ.out, if_neg (by simp), if_neg (by omega), if_neg (by rw [Int.toNat_natCast]; omega), Int.toNat_natCast])
          have hli := lastIndex_ge (l.take n)
          obtain ⟨b, hbi⟩ : ∃ b : Nat, lastIndexByte ⟨(l.take n).toArray⟩ 10 = (b : Int) - 1 := ⟨(lastIndexByte ⟨(l.take n).toArray⟩ 10 + 1).toNat, by omega⟩
          have hbn : b ≤ n := by omega
          have HT := Lib.hid (show tailNl (l.take n) = (l.take n).drop b by unfold tailNl; rw [hbi]; congr 1; omega)
          have hcount : (l.take n).count 10 ≤ n := by have := List.count_le_length (a := (10 : UInt8)) (l := l.take n); omega
          have hruns : runeCountL ((l.take n).drop b) ≤ n := by have := rcl_le ((l.take n).drop b); rw [List.length_drop] at this; omega
          have hlast : ∀ W : World, Calls Tryd.prog 21 #[.string ⟨(l.take n).toArray⟩, .int .u8 10] W fun e w' => e = .returned (.int .i64 ((b : Int) - 1)) ∧ W = w' := fun W => by
            refine (Tryd.strings_LastIndexByte ⟨(l.take n).toArray⟩ 10 (by simp [ByteArray.size]; omega) W).mono ?_
            rintro e w' ⟨rfl, rfl⟩
            exact ⟨ret_int hbi, rfl⟩
          have HLast := Lib.hid hlast
          have hL1 : (l.take n).length ≤ n := by omega
          have hL2 : n ≤ (l.take n).length := by omega
          clear hli hbi hlast hLn
          generalize hbf : l.take n = bf at *
          have HBF := Lib.hid hbf
          clear hbf
          rcases Nat.lt_or_ge n l.length with hlt | hge
          · have hct : bAt l n / 64 ≠ 2 := fun h => hcont ⟨hlt, h⟩
            clear hcont
            go_enter Tryd.func7, Tryd.ntmps7
            go_wp2_with fail
            refine (check_any l _ hl hT1).mono ?_
            rintro e w1 ⟨rfl, hb1⟩
            rw [hs]
            have hB1 := (Blk.new w 24 #[.int .i64 0, .int .i64 0]).belowS hb1
            have hb := below_then ((Below.refl _ w).alloc (Nat.le_refl _) _) hb1 (by simp)
            clear hs hb1 hT1
            obtain ⟨q1, q2, q3⟩ := hB1.rules
            unfold flt
            go_wp2_with fail
            refine (start_yes _ _ (by rw [byte_at]; exact hct)).mono ?_
            rintro e w2 ⟨rfl, rfl⟩
            go_wp2_with fail
            rw [extract_take, HBF.out]
            refine (HLast.out _).mono ?_
            rintro e w2 ⟨rfl, rfl⟩
            go_wp2_with fail
            obtain ⟨WA, hWA⟩ : ∃ WA, w1.alloc (.cells #[.int .i64 0, .int .i64 0] 24) = WA := ⟨_, rfl⟩
            have hBA : Blk WA w.heap.size 24 #[.int .i64 0, .int .i64 0] := by rw [← hWA]; exact hB1.alloc _
            have hbA : Below w.heap.size w WA := by rw [← hWA]; exact hb.alloc (by omega) _
            rw [hWA]
            clear hWA hB1 hb q1 q2 q3
            obtain ⟨q1, q2, q3⟩ := hBA.rules
            have e1 : IntKind.i64.wrap ((bf.count 10 : Nat) + 1 : Int) = (bf.count 10 : Nat) + 1 := IntWalk.i64_in _ (by omega)
            have e2 : IntKind.i64.wrap ((runeCountL (bf.drop b) : Nat) + 1 : Int) = (runeCountL (bf.drop b) : Nat) + 1 := IntWalk.i64_in _ (by omega)
            have e3 : b ≤ bf.length := by omega
            go_region_with (first
              | (go_at_call 22; refine (count_any _ _).mono ?_; rintro e w' ⟨rfl, rfl⟩)
              | (go_at_call 23; rw [extract_from bf b _ (Nat.le_refl _)]; refine (runes_any _ _ (by rw [List.length_drop]; omega)).mono ?_; rintro e w2 ⟨rfl, hb2⟩; have hB2 := hBA.drew.belowS hb2; obtain ⟨p1, p2, p3⟩ := hB2.rules))
            all_goals go_wp2_with fail
            all_goals exact ret_tmp2_blk rfl rfl ((hB2.set_ 0 (.int .i64 0)).set_ 1 (.int .i64 0)) _ Tryd.underlying24 rfl (by kernel_rfl) rfl _ _ rfl rfl ⟨(by rw [HL.out, HT.out]; rfl), ((below_then hbA.drew hb2 hbA.size).setCell (p := ⟨_, 0, none⟩) (by simp) _).setCell (p := ⟨_, 1, none⟩) (by simp) _⟩
          · obtain rfl : n = l.length := by omega
            go_enter Tryd.func7, Tryd.ntmps7
            go_wp2_with fail
            refine (check_any l _ hl hT1).mono ?_
            rintro e w1 ⟨rfl, hb1⟩
            rw [hs]
            have hB1 := (Blk.new w 24 #[.int .i64 0, .int .i64 0]).belowS hb1
            have hb := below_then ((Below.refl _ w).alloc (Nat.le_refl _) _) hb1 (by simp)
            clear hs hb1 hT1
            obtain ⟨q1, q2, q3⟩ := hB1.rules
            unfold flt
            go_wp2_with fail
            rw [extract_take, HBF.out]
            refine (HLast.out _).mono ?_
            rintro e w2 ⟨rfl, rfl⟩
            go_wp2_with fail
            obtain ⟨WA, hWA⟩ : ∃ WA, w1.alloc (.cells #[.int .i64 0, .int .i64 0] 24) = WA := ⟨_, rfl⟩
            have hBA : Blk WA w.heap.size 24 #[.int .i64 0, .int .i64 0] := by rw [← hWA]; exact hB1.alloc _
            have hbA : Below w.heap.size w WA := by rw [← hWA]; exact hb.alloc (by omega) _
            rw [hWA]
            clear hWA hB1 hb q1 q2 q3
            obtain ⟨q1, q2, q3⟩ := hBA.rules
            have e1 : IntKind.i64.wrap ((bf.count 10 : Nat) + 1 : Int) = (bf.count 10 : Nat) + 1 := IntWalk.i64_in _ (by omega)
            have e2 : IntKind.i64.wrap ((runeCountL (bf.drop b) : Nat) + 1 : Int) = (runeCountL (bf.drop b) : Nat) + 1 := IntWalk.i64_in _ (by omega)
            have e3 : b ≤ bf.length := by omega
            go_region_with (first
              | (go_at_call 22; refine (count_any _ _).mono ?_; rintro e w' ⟨rfl, rfl⟩)
              | (go_at_call 23; rw [extract_from bf b _ (Nat.le_refl _)]; refine (runes_any _ _ (by rw [List.length_drop]; omega)).mono ?_; rintro e w2 ⟨rfl, hb2⟩; have hB2 := hBA.drew.belowS hb2; obtain ⟨p1, p2, p3⟩ := hB2.rules))
            all_goals go_wp2_with fail
            all_goals exact ret_tmp2_blk rfl rfl ((hB2.set_ 0 (.int .i64 0)).set_ 1 (.int .i64 0)) _ Tryd.underlying24 rfl (by kernel_rfl) rfl _ _ rfl rfl ⟨(by rw [HL.out, HT.out]; rfl), ((below_then hbA.drew hb2 hbA.size).setCell (p := ⟨_, 0, none⟩) (by simp) _).setCell (p := ⟨_, 1, none⟩) (by simp) _⟩
  · have HL := Lib.hid (show posOf l o = ((0, 0), (c, i)) by unfold posOf; rw [hs]; exact if_pos hc)
    have HZ := Lib.hid hs
    have hcb : ((c : Int) == 0) = false := by simpa using hc
    clear hc
    go_enter Tryd.func7, Tryd.ntmps7
    go_wp2_with fail
    refine (check_any l _ hl hT1).mono ?_
    rintro e w1 ⟨rfl, hb1⟩
    rw [hs]
    have hB1 := (Blk.new w 24 #[.int .i64 0, .int .i64 0]).belowS hb1
    have hb := below_then ((Below.refl _ w).alloc (Nat.le_refl _) _) hb1 (by simp)
    clear hs hb1 hT1
    obtain ⟨q1, q2, q3⟩ := hB1.rules
    unfold flt
    go_wp2_with fail
    go_region
    all_goals go_wp2_with fail
    exact ret_tmp2_blk rfl rfl (((hB1.set_ 0 (.int .i64 c)).set_ 1 (.int .i64 i)).alloc _) _ Tryd.underlying24 rfl (by kernel_rfl) rfl _ _ rfl rfl ⟨(by rw [HL.out]; rfl), (((hb.setCell (p := ⟨_, 0, none⟩) (by simp) _).setCell (p := ⟨_, 1, none⟩) (by simp) _).alloc (by simp <;> omega) _).drew⟩

end Go.Proofs.YtfocggdplahnbaaDoor
