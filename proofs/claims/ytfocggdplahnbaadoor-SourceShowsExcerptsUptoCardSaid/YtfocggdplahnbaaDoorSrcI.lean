/- source.Offset: what it computes. Nothing is claimed here. -/
import Derived.Test.YtfocggdplahnbaaDoorSrcH
namespace Go.Proofs.YtfocggdplahnbaaDoor
open Go.RowKit Go.Shelf Go.Lib

set_option maxRecDepth 100000 in
set_option maxHeartbeats 1000000 in
theorem offset_any (l : List UInt8) (line col : Int) (w : World) (hl : l.length ≤ 9223372036854775807) (g1 : -9223372036854775808 ≤ line) (g2 : line ≤ 9223372036854775807) (g3 : -9223372036854775808 ≤ col) (g4 : col ≤ 9223372036854775807) (hT : Tabs w) :
    Calls Tryd.prog 8 #[.string ⟨l.toArray⟩, .int .i64 line, .int .i64 col] w fun e w' => e = .returned (.tuple #[.int .i64 (offOf l line col).1, flt (offOf l line col).2.1 (offOf l line col).2.2]) ∧ Below w.heap.size w w' := by
  have hT1 : Tabs (w.alloc (.cells #[.int .i64 0, .int .i64 0] 24)) := hT.keepB ((Below.refl _ _).alloc (Nat.le_refl _) _)
  obtain ⟨c, i, hs⟩ : ∃ c i, sfault l = (c, i) := ⟨_, _, rfl⟩
  by_cases hc : c = 0
  · have hle := (chars_of l (by rw [hs]; exact hc)).1
    replace hs := sfault_zero l (by rw [hs]; exact hc)
    have HZ := Lib.hid hs
    clear hc
    go_enter Tryd.func8, Tryd.ntmps8
    go_wp2_with fail
    refine (check_any l _ hl hT1).mono ?_
    rintro e w1 ⟨rfl, hb1⟩
    rw [hs]
    have hB1 := (Blk.new w 24 #[.int .i64 0, .int .i64 0]).belowS hb1
    have hb := below_then ((Below.refl _ w).alloc (Nat.le_refl _) _) hb1 (by simp)
    clear hs hb1 hT1
    obtain ⟨q1, q2, q3⟩ := hB1.rules
    unfold flt
    go_wp2_with fail
    refine (find_any l hle line g1 g2 _).mono ?_
    rintro e w2 ⟨f1, f2, hb2⟩
    have hB2 := (hB1.alloc (.cells #[.int .i64 0, .int .i64 0] 24)).belowS hb2
    have hb3 := below_then (hb.alloc (by omega) (.cells #[.int .i64 0, .int .i64 0] 24)) hb2 (by simp; omega)
    clear hB1 hb hb2 q1 q2 q3
    obtain ⟨q1, q2, q3⟩ := hB2.rules
    by_cases hin : line < 1 ∨ (splitB 10 l).length < line
    · have HL := Lib.hid (show offOf l line col = (0, (4, -2)) by unfold offOf; rw [HZ.out, if_neg (by simp), if_pos hin])
      have he := f2 hin
      subst he
      clear f1 f2 hin
      go_wp2_with fail
      exact ret_tmp_blk rfl rfl ((hB2.set_ 0 (.int .i64 4)).set_ 1 (.int .i64 (-2))) _ Tryd.underlying24 rfl (by kernel_rfl) rfl _ rfl ⟨(by rw [HL.out]; rfl), (hb3.setCell (p := ⟨_, 0, none⟩) (by simp) _).setCell (p := ⟨_, 1, none⟩) (by simp) _⟩
    · obtain ⟨q, x, t, h1, h2, h3, h4⟩ := split_at l line (by omega) (by omega)
      have he := f1 q t x h1 h2
      subst he
      have hat := atOf_splitB 10 l
      rw [h1, atOf_append] at hat
      simp only [atOf] at hat
      have hxl : x.length + atOf q ≤ l.length := by omega
      have hrc := rcl_le x
      have HO := Lib.hid (show offOf l line col = if col < 1 ∨ runeCountL x + 1 < col then (0, (4, -3)) else (((atOf q : Nat) : Int) + ((runeOff (col - 1).toNat x : Nat) : Int), (0, 0)) by unfold offOf; rw [HZ.out, if_neg (by simp), if_neg hin, h3, h4])
      clear f1 f2 hin h1 h2 h3 h4 hat
      go_wp2_with fail
      refine (runes_any x _ (by omega)).mono ?_
      rintro e w3 ⟨rfl, hb4⟩
      have hB4 := hB2.belowS hb4
      have hb5 := below_then hb3 hb4 hb3.size
      clear hB2 hb3 hb4 q1 q2 q3
      obtain ⟨q1, q2, q3⟩ := hB4.rules
      by_cases hlo : col < 1
      · have HL := Lib.hid (show offOf l line col = (0, (4, -3)) by rw [HO.out, if_pos (.inl hlo)])
        go_wp2_with fail
        exact ret_tmp_blk rfl rfl ((hB4.set_ 0 (.int .i64 4)).set_ 1 (.int .i64 (-3))) _ Tryd.underlying24 rfl (by kernel_rfl) rfl _ rfl ⟨(by rw [HL.out]; rfl), (hb5.setCell (p := ⟨_, 0, none⟩) (by simp) _).setCell (p := ⟨_, 1, none⟩) (by simp) _⟩
      · by_cases hhi : runeCountL x + 1 < col
        · have HL := Lib.hid (show offOf l line col = (0, (4, -3)) by rw [HO.out, if_pos (.inr hhi)])
          go_wp2_with fail
          exact ret_tmp_blk rfl rfl ((hB4.set_ 0 (.int .i64 4)).set_ 1 (.int .i64 (-3))) _ Tryd.underlying24 rfl (by kernel_rfl) rfl _ rfl ⟨(by rw [HL.out]; rfl), (hb5.setCell (p := ⟨_, 0, none⟩) (by simp) _).setCell (p := ⟨_, 1, none⟩) (by simp) _⟩
        · obtain ⟨m, hm⟩ : ∃ m : Nat, col = (m : Int) + 1 := ⟨(col - 1).toNat, by omega⟩
          subst hm
          have hmr : m ≤ runeCountL x := by omega
          have HL := Lib.hid (show offOf l line ((m : Int) + 1) = (((atOf q : Nat) : Int) + ((runeOff m x : Nat) : Int), (0, 0)) by rw [HO.out, if_neg (by omega), show ((m : Int) + 1 - 1).toNat = m by omega])
          clear HO hlo hhi g3 g4
          go_wp2_with fail
          go_loopw [2] (fun v wr => ∃ (k pos : Nat), wr.heap[w3.heap.size]? = some (.stringIter ⟨x.toArray⟩ pos) ∧ Blk wr w.heap.size 24 #[.int .i64 0, .int .i64 0] ∧ Below w.heap.size w wr ∧ v = .int .i64 ((m : Int) + 1 - k) ∧ k ≤ m ∧ pos = runeOff k x ∧ runeCountL x = k + runeCountL (x.drop pos))
            (fun _ wr => x.length - wr.iterPos w3.heap.size)
          case atStart =>
            exact ⟨0, 0, World.iter_heap _ _ _, hB4.alloc _, hb5.alloc (by omega) _, by simp, Nat.zero_le _, rfl, by simp⟩
          case round =>
            obtain ⟨k, pos, hit, hB, hb, rfl, hkm, hpos, hcnt⟩ := hrel
            clear hB4 hb5 q1 q2
            obtain ⟨q1, q2, q4⟩ := hB.rules
            have hpl := runeOff_le k x
            rw [← hpos] at hpl
            by_cases hp : pos < x.length
            · have hnx : ∀ ty, (Instr.next (.pointer (some ⟨w3.heap.size, 0, none⟩)) true ty).run Tryd.prog wr = _ := fun ty => run_next_any_at wr w3.heap.size ⟨x.toArray⟩ pos ty hit hp
              obtain ⟨W1, hW1⟩ : ∃ W1, wr.iterAt w3.heap.size ⟨x.toArray⟩ (pos + (Utf8.decode ⟨x.toArray⟩ pos).2) = W1 := ⟨_, rfl⟩
              have hB1 : Blk W1 w.heap.size 24 #[.int .i64 0, .int .i64 0] := by rw [← hW1]; exact (iterAt_other _ _ _ _ _ (by omega)).trans hB
              have hb1 : Below w.heap.size w W1 := by rw [← hW1]; exact below_iterAt hb (by omega) _ _
              have hit1 : W1.heap[w3.heap.size]? = some (.stringIter ⟨x.toArray⟩ (pos + (Utf8.decode ⟨x.toArray⟩ pos).2)) := by rw [← hW1]; exact iterAt_heap _ _ _ _ _ hit
              rw [hW1] at hnx
              obtain ⟨r1, r2, r3⟩ := hB1.rules
              have hne : x.drop pos ≠ [] := by intro e; have := congrArg List.length e; rw [List.length_drop, List.length_nil] at this; omega
              have hwp := width_pos _ hne
              have hcn := rcl_cons _ hne
              have hsc := runeOff_succ k x (by omega)
              rw [← hpos] at hsc
              rw [decode_drop] at hit1
              have HI1 := Lib.hid hit1
              have HI := Lib.hid hit
              have HC := Lib.hid hcn
              have HS := Lib.hid hsc
              have HK := Lib.hid hcnt
              have HP := Lib.hid hpos
              clear hit1 hit hcn hsc hcnt hpos hW1
              generalize Utf8.decode ⟨x.toArray⟩ pos = dd at *
              by_cases hkk : k = m
              · subst hkk
                have hz : ((k : Int) + 1 - k - 1 == 0) = true := by rw [beq_iff_eq]; omega
                go_wp2_with fail
                exact ret_tmp_blk rfl rfl ((hB1.set_ 0 (.int .i64 0)).set_ 1 (.int .i64 0)) _ Tryd.underlying24 rfl (by kernel_rfl) rfl _ rfl ⟨(by rw [HL.out, ← HP.out]; rfl), (hb1.setCell (p := ⟨_, 0, none⟩) (by simp) _).setCell (p := ⟨_, 1, none⟩) (by simp) _⟩
              · have hz : ((m : Int) + 1 - k - 1 == 0) = false := by rw [beq_eq_false_iff_ne]; omega
                go_wp2_with fail
                go_roundw
                case rel =>
                  refine ⟨k + 1, pos + (decodeL (x.drop pos)).2, HI1.out, hB1, hb1, by go_num, by omega, HS.out.symm, ?_⟩
                  have := HK.out
                  rw [this, HC.out, List.drop_drop]
                  omega
                case measure =>
                  unfold World.iterPos
                  rw [HI1.out, HI.out]
                  simp only
                  omega
            · have hnx : ∀ ty, (Instr.next (.pointer (some ⟨w3.heap.size, 0, none⟩)) true ty).run Tryd.prog wr = _ := fun ty => run_next_end_at wr w3.heap.size ⟨x.toArray⟩ pos ty hit hp
              have HI := Lib.hid hit
              have hkm' : k = m := by
                rw [List.drop_eq_nil_of_le (by omega), rcl_nil] at hcnt
                omega
              subst hkm'
              have HPx := Lib.hid (show runeOff k x = x.length by omega)
              clear hit hpos hcnt
              go_wp2_with fail
              exact ret_tmp_blk rfl rfl ((hB.set_ 0 (.int .i64 0)).set_ 1 (.int .i64 0)) _ Tryd.underlying24 rfl (by kernel_rfl) rfl _ rfl ⟨(by rw [HL.out, HPx.out]; rfl), (hb.setCell (p := ⟨_, 0, none⟩) (by simp) _).setCell (p := ⟨_, 1, none⟩) (by simp) _⟩
  · have HL := Lib.hid (show offOf l line col = (0, (c, i)) by unfold offOf; rw [hs]; exact if_pos hc)
    have HZ := Lib.hid hs
    have hcb : ((c : Int) == 0) = false := by simpa using hc
    clear hc
    go_enter Tryd.func8, Tryd.ntmps8
    go_wp2_with fail
    refine (check_any l _ hl hT1).mono ?_
    rintro e w1 ⟨rfl, hb1⟩
    rw [hs]
    have hB1 := (Blk.new w 24 #[.int .i64 0, .int .i64 0]).belowS hb1
    have hb := below_then ((Below.refl _ w).alloc (Nat.le_refl _) _) hb1 (by simp)
    clear hs hb1 hT1
    obtain ⟨q1, q2, q3⟩ := hB1.rules
    unfold flt
    go_wp2_with fail
    go_region
    all_goals go_wp2_with fail
    exact ret_tmp_blk rfl rfl (((hB1.set_ 0 (.int .i64 c)).set_ 1 (.int .i64 i)).alloc _) _ Tryd.underlying24 rfl (by kernel_rfl) rfl _ rfl ⟨(by rw [HL.out]; rfl), (((hb.setCell (p := ⟨_, 0, none⟩) (by simp) _).setCell (p := ⟨_, 1, none⟩) (by simp) _).alloc (by simp <;> omega) _).drew⟩

end Go.Proofs.YtfocggdplahnbaaDoor
