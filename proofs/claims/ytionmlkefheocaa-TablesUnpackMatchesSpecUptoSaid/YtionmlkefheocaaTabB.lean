/- Walks: the checks of a table of lines. Nothing is claimed here. -/
import Derived.Test.YtionmlkefheocaaTabA
namespace Go.Proofs.Ytionmlkefheocaa
open Go.RowKit
set_option linter.unusedVariables false

def mfGo : Nat → Int → List Mark → Int × Int
  | _, _, [] => (0, 0)
  | i, p, m :: l => if btw m.1 0 59999 && btw m.2 1 16000 then (if (i = 0 ∧ m.1 ≠ 0) ∨ (0 < i ∧ m.1 ≤ p) then (11, (i : Int)) else mfGo (i + 1) m.1 l) else (4, (i : Int))
def marksFault (l : List Mark) : Int × Int := if 60000 < l.length then (2, -1) else mfGo 0 (-1) l

def aggF (f : Int × Int) : Value := .agg #[.int .i64 f.1, .int .i64 f.2]

theorem mf_bad {i : Nat} {p : Int} {m : Mark} {l : List Mark} (h : m.1 < 0 ∨ 60000 ≤ m.1 ∨ m.2 < 1 ∨ 16000 < m.2) : mfGo i p (m :: l) = (4, (i : Int)) := by
  rw [mfGo, if_neg]
  simp only [btw, Bool.and_eq_true, decide_eq_true_eq]
  omega
theorem mf_ok {i : Nat} {p : Int} {m : Mark} {l : List Mark} (h : 0 ≤ m.1 ∧ m.1 ≤ 59999 ∧ 1 ≤ m.2 ∧ m.2 ≤ 16000) : mfGo i p (m :: l) = if (i = 0 ∧ m.1 ≠ 0) ∨ (0 < i ∧ m.1 ≤ p) then (11, (i : Int)) else mfGo (i + 1) m.1 l := by
  rw [mfGo, if_pos]
  simp only [btw, Bool.and_eq_true, decide_eq_true_eq]
  omega


set_option maxHeartbeats 400000 in
theorem checkLines_any (A : Option Addr) (c : Nat) (l : List Mark) (w : World) (hl : l.length ≤ 9223372036854775807) (hm : Row w A (l.flatMap mkc)) :
    Calls Try.prog 27 #[.slice A l.length c] w fun e w' => e = .returned (aggF (marksFault l)) ∧ Below w.heap.size w w' := by
  have hB : Blk (w.alloc (.cells #[.int .i64 0, .int .i64 0] 24)) w.heap.size 24 #[.int .i64 0, .int .i64 0] := Blk.new _ _ _
  have HB := Lib.hid hB
  clear hB
  by_cases hbig : 60000 < l.length
  · go_enter Try.func27, Try.ntmps27
    go_wp2_with (have hB := HB.out; (go_at_call 28; refine (fault_any _ _ _).mono ?_; rintro e w' ⟨rfl, hb'⟩; have hB' := (by first | exact hB.belowS hb' | exact (hB.alloc _).belowS hb' | exact ((hB.alloc _).drewN _).belowS hb' : Blk w' w.heap.size 24 #[.int .i64 0, .int .i64 0]); obtain ⟨hc', hf', hz'⟩ := hB'.rules))
    refine ret_blk Try.results27 rfl ((hB'.set_ 0 (.int .i64 ((2, -1) : Int × Int).1)).set_ 1 (.int .i64 ((2, -1) : Int × Int).2)) _ Try.underlying24 rfl (by kernel_rfl) rfl ⟨by simp [marksFault, hbig, aggF], ?_⟩
    exact ((((Below.refl _ _).alloc (Nat.le_refl _) _).trans (hb'.mono (by simp))).setCell (Nat.le_refl _) _).setCell (Nat.le_refl _) _
  · go_enter Try.func27, Try.ntmps27
    go_wp2
    go_loopw [11] (fun i wr => ∃ (k : Nat) (p : Int), k ≤ l.length ∧ i = .int .i64 k ∧ marksFault l = mfGo k p (l.drop k) ∧ (∀ h : 0 < k, ∀ hlt : k - 1 < l.length, p = l[k - 1].1) ∧ Below w.heap.size w wr ∧ Blk wr w.heap.size 24 #[.int .i64 0, .int .i64 0]) (fun i _ => l.length - (intOf i).toNat)
    case atStart => exact ⟨0, -1, Nat.zero_le _, rfl, by simp [marksFault, hbig], by omega, (Below.refl _ _).alloc (Nat.le_refl _) _, HB.out⟩
    case round =>
      clear HB
      obtain ⟨k, p, hk, rfl, he, hp, hb0, hB⟩ := hrel
      have He := Lib.hid he
      clear he
      obtain ⟨hr, hf, hsz⟩ := hB.rules
      by_cases hlt : k < l.length
      · obtain ⟨b, off, rfl, had, h1, h2⟩ := (hm.keepB hb0).mark hlt
        by_cases hbad : l[k].1 < 0 ∨ 60000 ≤ l[k].1 ∨ l[k].2 < 1 ∨ 16000 < l[k].2
        · have Hb := Lib.hid hbad
          clear hbad
          go_wp2_with (go_at_call 28; refine (fault_any _ _ _).mono ?_; rintro e w' ⟨rfl, hb'⟩; have hB' := (by first | exact hB.belowS hb' | exact (hB.alloc _).belowS hb' | exact ((hB.alloc _).drewN _).belowS hb' : Blk w' w.heap.size 24 #[.int .i64 0, .int .i64 0]); obtain ⟨hc', hf', hz'⟩ := hB'.rules)
          all_goals first | (exfalso; have := Hb.out; omega) | skip
          all_goals
            refine ret_blk Try.results27 rfl ((hB'.set_ 0 (.int .i64 ((4, (k : Int)) : Int × Int).1)).set_ 1 (.int .i64 ((4, (k : Int)) : Int × Int).2)) _ Try.underlying24 rfl (by kernel_rfl) rfl ⟨(by rw [He.out, drop_cons hlt, mf_bad Hb.out]; rfl), ?_⟩
            exact ((below_then (hb0.alloc hb0.size _) hb' (by simp; omega)).setCell (Nat.le_refl _) _).setCell (Nat.le_refl _) _
        · have hok : 0 ≤ l[k].1 ∧ l[k].1 ≤ 59999 ∧ 1 ≤ l[k].2 ∧ l[k].2 ≤ 16000 := by omega
          clear hbad
          obtain ⟨o1, o2, o3, o4⟩ := hok
          have Hmf := Lib.hid (mf_ok (i := k) (p := p) (l := l.drop (k + 1)) ⟨o1, o2, o3, o4⟩)
          by_cases hk0 : k = 0
          · subst hk0
            simp only [Nat.zero_mul, Nat.add_zero] at h1 h2
            by_cases h00 : l[0].1 = 0
            · have h01 : (l[0].1 == 0) = true := by simpa using h00
              have h02 : (l[0].1 != 0) = false := by simpa using h00
              have H00 := Lib.hid h00
              clear h00
              go_wp2_with fail
              go_quiet (fail)
              go_wp2_with fail
              go_roundw
              case rel =>
                refine ⟨1, l[0].1, by omega, by go_num, ?_, by intro _ _; rfl, ?_, ?_⟩
                · rw [He.out, drop_cons hlt, Hmf.out, if_neg]
                  simp [H00.out]
                · exact below_drewN (hb0.alloc hb0.size _) _
                · exact (hB.alloc _).drewN _
              case measure => simp [intOf]; omega
            · have h01 : (l[0].1 == 0) = false := by simpa using h00
              have h02 : (l[0].1 != 0) = true := by simpa using h00
              have H00 := Lib.hid h00
              clear h00
              go_wp2_with fail
              go_quiet (fail)
              go_wp2_with (go_at_call 28; refine (fault_any _ _ _).mono ?_; rintro e w' ⟨rfl, hb'⟩; have hB' := (by first | exact hB.belowS hb' | exact (hB.alloc _).belowS hb' | exact ((hB.alloc _).drewN _).belowS hb' : Blk w' w.heap.size 24 #[.int .i64 0, .int .i64 0]); obtain ⟨hc', hf', hz'⟩ := hB'.rules)
              refine ret_blk Try.results27 rfl ((hB'.set_ 0 (.int .i64 ((11, ((0 : Nat) : Int)) : Int × Int).1)).set_ 1 (.int .i64 ((11, ((0 : Nat) : Int)) : Int × Int).2)) _ Try.underlying24 rfl (by kernel_rfl) rfl ⟨(by rw [He.out, drop_cons hlt, Hmf.out, if_pos (Or.inl ⟨trivial, H00.out⟩)]; rfl), ?_⟩
              exact ((below_then (below_drewN (hb0.alloc hb0.size _) _) hb' (by simp; omega)).setCell (Nat.le_refl _) _).setCell (Nat.le_refl _) _
          · obtain ⟨j, rfl⟩ : ∃ j, k = j + 1 := ⟨k - 1, by omega⟩
            obtain ⟨b', off', hab, _, h3, _⟩ := (hm.keepB hb0).mark (show j < l.length by omega)
            obtain ⟨rfl, rfl⟩ : b = b' ∧ off = off' := by simpa using hab
            clear hab
            have Hp := Lib.hid (hp (by omega) (by omega))
            simp only [Nat.add_sub_cancel] at Hp
            clear hp hk0
            have hj0 : ((j : Int) + 1 == 0) = false := by rw [beq_eq_false_iff_ne]; omega
            have hj1 : ¬ ((j : Int) + 1 = 0) := by omega
            have hj2 : IntKind.i64.wrap (j : Int) = j := IntWalk.i64_in _ (by omega)
            have hj3 : IntKind.i64.wrap ((j : Int) + 1 - 1) = j := by rw [Int.add_sub_cancel]; exact hj2
            have hj4 : (j : Int) < l.length := by omega
            by_cases hle : l[j + 1].1 ≤ l[j].1
            · go_wp2_with fail
              go_quiet (fail)
              go_wp2_with (go_at_call 28; refine (fault_any _ _ _).mono ?_; rintro e w' ⟨rfl, hb'⟩; have hB' := (by first | exact hB.belowS hb' | exact (hB.alloc _).belowS hb' | exact ((hB.alloc _).drewN _).belowS hb' : Blk w' w.heap.size 24 #[.int .i64 0, .int .i64 0]); obtain ⟨hc', hf', hz'⟩ := hB'.rules)
              refine ret_blk Try.results27 rfl ((hB'.set_ 0 (.int .i64 ((11, ((j + 1 : Nat) : Int)) : Int × Int).1)).set_ 1 (.int .i64 ((11, ((j + 1 : Nat) : Int)) : Int × Int).2)) _ Try.underlying24 rfl (by kernel_rfl) rfl ⟨(by rw [He.out, drop_cons hlt, Hmf.out, if_pos (Or.inr ⟨by omega, by rw [Hp.out]; exact hle⟩)]; rfl), ?_⟩
              exact ((below_then (below_drewN (hb0.alloc hb0.size _) _) hb' (by simp; omega)).setCell (Nat.le_refl _) _).setCell (Nat.le_refl _) _
            · have hgt : l[j].1 < l[j + 1].1 := by omega
              go_wp2_with fail
              go_quiet (fail)
              go_wp2_with fail
              go_roundw
              case rel =>
                refine ⟨j + 1 + 1, l[j + 1].1, by omega, by go_num, ?_, by intro _ _; rfl, ?_, ?_⟩
                · rw [He.out, drop_cons hlt, Hmf.out, if_neg]
                  rw [Hp.out]
                  omega
                · exact below_drewN (hb0.alloc hb0.size _) _
                · exact (hB.alloc _).drewN _
              case measure => simp [intOf]; omega
      · go_wp2
        refine ret_blk Try.results27 rfl ((hB.set_ 0 (.int .i64 ((0, 0) : Int × Int).1)).set_ 1 (.int .i64 ((0, 0) : Int × Int).2)) _ Try.underlying24 rfl (by kernel_rfl) rfl ⟨(by rw [He.out, List.drop_of_length_le (by omega)]; rfl), ?_⟩
        exact (hb0.setCell (Nat.le_refl _) _).setCell (Nat.le_refl _) _

end Go.Proofs.Ytionmlkefheocaa
