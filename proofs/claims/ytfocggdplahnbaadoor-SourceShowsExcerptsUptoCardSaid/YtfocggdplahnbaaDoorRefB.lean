/- The reference's At, SourceFault: what they compute. Nothing is claimed here. -/
import Derived.Test.YtfocggdplahnbaaDoorRefA
namespace Go.Proofs.YtfocggdplahnbaaDoor
open Go.RowKit Go.Shelf Go.Lib

theorem at_any (c i : Int) (w : World) : Calls Tryd.prog 14 #[.int .i64 c, .int .i64 i] w fun e w' => e = .returned (flt c i) ∧ Below w.heap.size w w' := by
  go_enter Tryd.func14, Tryd.ntmps14
  go_wp2
  exact ret_blk rfl rfl (Blk.new w 24 #[.int .i64 c, .int .i64 i]) _ Tryd.underlying24 rfl (by kernel_rfl) rfl ⟨rfl, (Below.refl _ _).alloc (Nat.le_refl _) _⟩

def firstNeg : List Int → Nat → Option Nat
  | [], _ => none
  | n :: l, p => if n < 0 then some p else firstNeg l (p + 1)
theorem firstNeg_zeros : ∀ (k : Nat) (l : List Int) (p : Nat), firstNeg (List.replicate k 0 ++ l) p = firstNeg l (p + k)
  | 0, l, p => by simp
  | k + 1, l, p => by
    rw [List.replicate_succ, List.cons_append]
    have e : firstNeg (0 :: (List.replicate k 0 ++ l)) p = firstNeg (List.replicate k 0 ++ l) (p + 1) := by simp [firstNeg]
    rw [e, firstNeg_zeros k l (p + 1), show p + 1 + k = p + (k + 1) by omega]
theorem firstNeg_widths : ∀ (f : Nat) (l : List UInt8) (p : Nat), firstNeg (widthsF f l) p = badAt f l p
  | 0, _, _ => rfl
  | f + 1, l, p => by
    unfold widthsF badAt
    split
    · rfl
    · rename_i hne
      have hw := width_pos l hne
      split
      · simp [firstNeg]
      · unfold firstNeg
        rw [if_neg (by omega), firstNeg_zeros, firstNeg_widths f]
        congr 1
        omega
theorem firstNeg_fault (l : List UInt8) (h : l.length ≤ 16000) : sfault l = match firstNeg (widths l) 0 with
    | none => (0, 0)
    | some p => (1, (p : Int)) := by
  unfold sfault widths
  rw [if_neg (by omega), firstNeg_widths]
  cases badAt l.length l 0 <;> rfl

set_option maxRecDepth 100000 in
set_option maxHeartbeats 1000000 in
theorem sourceFault_any (l : List UInt8) (w : World) (hl : l.length ≤ 9223372036854775807) (hT : Tabs w) :
    Calls Tryd.prog 9 #[.string ⟨l.toArray⟩] w fun e w' => e = .returned (flt (sfault l).1 (sfault l).2) ∧ Below w.heap.size w w' := by
  have hT1 : Tabs (w.alloc (.cells #[.int .i64 0, .int .i64 0] 24)) := hT.keepB ((Below.refl _ _).alloc (Nat.le_refl _) _)
  by_cases hlen : 16000 < l.length
  · have HZ := Lib.hid (show sfault l = (3, -1) by unfold sfault; rw [if_pos hlen])
    go_enter Tryd.func9, Tryd.ntmps9
    go_wp2_with fail
    refine (at_any _ _ _).mono ?_
    rintro e w1 ⟨rfl, hb1⟩
    have hB1 := (Blk.new w 24 #[.int .i64 0, .int .i64 0]).belowS hb1
    have hb := below_then ((Below.refl _ w).alloc (Nat.le_refl _) _) hb1 (by simp)
    obtain ⟨q1, q2, q3⟩ := hB1.rules
    unfold flt
    go_wp2_with fail
    exact ret_blk rfl rfl ((hB1.set_ 0 (.int .i64 3)).set_ 1 (.int .i64 (-1))) _ Tryd.underlying24 rfl (by kernel_rfl) rfl  ⟨(by rw [HZ.out]; rfl), (hb.setCell (p := ⟨_, 0, none⟩) (by simp) _).setCell (p := ⟨_, 1, none⟩) (by simp) _⟩
  · have hle : l.length ≤ 16000 := by omega
    have hwl := widths_len l
    have HF := Lib.hid (firstNeg_fault l hle)
    have hn1 : (widths l).length ≤ l.length := by omega
    have hn2 : l.length ≤ (widths l).length := by omega
    clear hlen hwl
    go_enter Tryd.func9, Tryd.ntmps9
    go_wp2_with fail
    refine (widths_any l _ hle hT1).mono ?_
    rintro e w1 ⟨rfl, hBW, hb1⟩
    have hB1 := (Blk.new w 24 #[.int .i64 0, .int .i64 0]).belowS hb1
    have hb := below_then ((Below.refl _ w).alloc (Nat.le_refl _) _) hb1 (by simp)
    simp only [World.size_alloc] at hBW
    obtain ⟨q1, q2, q3⟩ := hB1.rules
    generalize hws : widths l = ws at *
    have HWS := Lib.hid hws
    clear hws hb1 hT1
    go_wp2_with fail
    go_loop [12] (fun i => ∃ k : Nat, i = .int .i64 k ∧ k ≤ ws.length ∧ firstNeg (ws.drop k) k = firstNeg ws 0) (fun i => l.length - (RowKit.intOf i).toNat)
    case atStart => exact ⟨0, rfl, Nat.zero_le _, by simp⟩
    case round =>
      obtain ⟨k, rfl, hk, hfn⟩ := hrel
      have HFN := Lib.hid hfn
      clear hfn
      by_cases hlt : k < l.length
      · have hk' : k < ws.length := by omega
        have hc := hBW.cell k
        rw [show (ics ws).toArray[k]? = some (.int .i64 ws[k]) by simp [ics, hk']] at hc
        have hdr := List.drop_eq_getElem_cons hk'
        have HDR := Lib.hid hdr
        clear hdr
        generalize ws[k] = n at *
        by_cases hneg : n < 0
        · have HZ := Lib.hid (show sfault l = (1, (k : Int)) by
            rw [HF.out, ← HFN.out, HDR.out]
            simp [firstNeg, hneg])
          go_wp2_with fail
          refine (at_any _ _ _).mono ?_
          rintro e w2 ⟨rfl, hb2⟩
          have hB2 := hB1.belowS hb2
          have hb3 := below_then hb hb2 hb.size
          clear q1 q2 q3
          obtain ⟨q1, q2, q3⟩ := hB2.rules
          unfold flt
          go_wp2_with fail
          exact ret_blk rfl rfl ((hB2.set_ 0 (.int .i64 1)).set_ 1 (.int .i64 k)) _ Tryd.underlying24 rfl (by kernel_rfl) rfl  ⟨(by rw [HZ.out]; rfl), (hb3.setCell (p := ⟨_, 0, none⟩) (by simp) _).setCell (p := ⟨_, 1, none⟩) (by simp) _⟩
        · go_wp2_with fail
          go_round
          case rel =>
            refine ⟨k + 1, by go_num, by omega, ?_⟩
            rw [← HFN.out, HDR.out]
            simp [firstNeg, hneg]
          case measure => simp [RowKit.intOf]; omega
      · have HZ := Lib.hid (show sfault l = (0, 0) by
          rw [HF.out, ← HFN.out, List.drop_eq_nil_of_le (by omega)]
          rfl)
        go_wp2_with fail
        exact ret_blk rfl rfl ((hB1.set_ 0 (.int .i64 0)).set_ 1 (.int .i64 0)) _ Tryd.underlying24 rfl (by kernel_rfl) rfl  ⟨(by rw [HZ.out]; rfl), (hb.setCell (p := ⟨_, 0, none⟩) (by simp) _).setCell (p := ⟨_, 1, none⟩) (by simp) _⟩

end Go.Proofs.YtfocggdplahnbaaDoor
