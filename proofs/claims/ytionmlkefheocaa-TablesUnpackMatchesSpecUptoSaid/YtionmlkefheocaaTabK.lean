/- Walks: a line is found, a table of lines is shortened. Nothing is claimed here. -/
import Derived.Test.YtionmlkefheocaaTabJ
namespace Go.Proofs.Ytionmlkefheocaa
open Go.RowKit
set_option linter.unusedVariables false

theorem lineAt_append (a : Int) : ∀ (l m : List Mark) (r : Int), lineAt a (l ++ m) r = lineAt a m (lineAt a l r)
  | [], m, r => rfl
  | x :: l, m, r => by simp only [List.cons_append, lineAt]; exact lineAt_append a l m _
theorem lineAt_above (a : Int) : ∀ (l : List Mark) (r : Int), (∀ x ∈ l, a < x.1) → lineAt a l r = r
  | [], r, _ => rfl
  | x :: l, r, h => by
    rw [lineAt, if_neg (by have := h x (by simp); omega)]
    exact lineAt_above a l r (fun y hy => h y (by simp [hy]))
theorem lineAt_is {a : Int} {l : List Mark} {k : Nat} (r : Int) (hk : k < l.length) (h1 : l[k].1 ≤ a) (h2 : ∀ j (hj : j < l.length), k < j → a < l[j].1) : lineAt a l r = l[k].2 := by
  have e : l = l.take k ++ l[k] :: l.drop (k + 1) := by
    rw [← drop_cons hk, List.take_append_drop]
  have e' : lineAt a l r = lineAt a (l.take k ++ l[k] :: l.drop (k + 1)) r := congrArg (fun x => lineAt a x r) e
  rw [e', lineAt_append, lineAt, if_pos h1, lineAt_above]
  intro x hx
  obtain ⟨j, hj, rfl⟩ := List.mem_iff_getElem.1 hx
  rw [List.getElem_drop]
  exact h2 _ (by simp at hj; omega) (by omega)

theorem okL_get : ∀ (l : List Mark) (p : Int), okL p l → ∀ j (hj : j < l.length), p < l[j].1 ∧ 0 ≤ l[j].1 ∧ l[j].1 ≤ 59999 ∧ 1 ≤ l[j].2 ∧ l[j].2 ≤ 16000
  | m :: l, p, h, 0, _ => ⟨h.1, h.2.1, h.2.2.1, h.2.2.2.1, h.2.2.2.2.1⟩
  | m :: l, p, h, j + 1, hj => by
    have := okL_get l m.1 h.2.2.2.2.2 j (by simpa using hj)
    have h1 := h.1
    simp only [List.getElem_cons_succ]
    exact ⟨by omega, this.2⟩
theorem okL_sorted : ∀ (l : List Mark) (p : Int), okL p l → ∀ i j (hj : j < l.length) (hi : i < j), l[i].1 < l[j].1
  | m :: l, p, h, 0, j + 1, hj, _ => by
    have := okL_get l m.1 h.2.2.2.2.2 j (by simpa using hj)
    simpa using this.1
  | m :: l, p, h, i + 1, j + 1, hj, hi => by
    simp only [List.getElem_cons_succ]
    exact okL_sorted l m.1 h.2.2.2.2.2 i j (by simpa using hj) (by omega)
theorem marks_first {l : List Mark} (h : marksFault l = (0, 0)) (h0 : 0 < l.length) : l[0].1 = 0 := by
  unfold marksFault at h
  split at h
  · simp at h
  · match l, h0 with
    | m :: l, _ =>
      rw [mfGo] at h
      split at h
      · split at h
        · simp at h
        · rename_i ho
          simp at ho
          simpa using ho
      · simp at h

def lineRes (l : List Mark) (a : Int) : Int × Int × Int := if a < 0 ∨ 60000 ≤ a then (0, 4, -2) else if l.length = 0 then (0, 12, -2) else (lineAt a l 0, 0, 0)

def LinePost (r : Int × Int × Int) (w : World) (e : Ending) (w' : World) : Prop :=
  e = .returned (.tuple #[.int .i64 r.1, .agg #[.int .i64 r.2.1, .int .i64 r.2.2]]) ∧ Below w.heap.size w w'


set_option maxHeartbeats 1000000 in
theorem line_ok (A : Option Addr) (c : Nat) (l : List Mark) (a : Int) (w : World) (hm : Row w A (l.flatMap mkc)) (hf : Hid (marksFault l = (0, 0))) :
    Calls Try.prog 6 #[.slice A l.length c, .int .i64 a] w (LinePost (lineRes l a) w) := by
  obtain ⟨hok, hl⟩ := okL_marks hf.out
  have hB : Blk (w.alloc (.cells #[.int .i64 0, .int .i64 0] 24)) w.heap.size 24 #[.int .i64 0, .int .i64 0] := Blk.new _ _ _
  have HB := Lib.hid hB
  clear hB
  have hm1 : Row (w.alloc (.cells #[.int .i64 0, .int .i64 0] 24)) A (l.flatMap mkc) := hm.keepB ((Below.refl _ _).alloc (Nat.le_refl _) _)
  go_enter Try.func6, Try.ntmps6
  go_wp2_with fail
  refine (check_at _ _ _ 0 0 _ (by omega) hm1 hf).mono ?_
  rintro e w' ⟨rfl, hb'⟩
  have hB' := HB.out.belowS hb'
  have hBx := hB'.alloc (.cells #[.int .i64 0, .int .i64 0] 24)
  have hbw : Below w.heap.size w w' := below_then ((Below.refl _ _).alloc (Nat.le_refl _) _) hb' (by simp)
  have hbx := hbw.alloc hbw.size (.cells #[.int .i64 0, .int .i64 0] 24)
  have hmx := hm.keepB hbx
  clear hm1 HB hb'
  by_cases hr : a < 0 ∨ 60000 ≤ a
  · have Hr := Lib.hid hr
    rcases hr with hr | hr
    all_goals
      go_wp2_with (go_at_call 28; refine (fault_any _ _ _).mono ?_; rintro e w3 ⟨rfl, hb3⟩; have hB3 := hBx.belowS hb3; obtain ⟨t1, t2, t3⟩ := hB3.rules)
      refine ret_tmp_blk Try.results6 rfl ((hB3.set_ 0 _).set_ 1 _) _ Try.underlying24 rfl (by kernel_rfl) rfl _ rfl ?_
      rw [lineRes, if_pos Hr.out]
      exact ⟨rfl, ((below_then hbx hb3 hbx.size).setCell (Nat.le_refl _) _).setCell (Nat.le_refl _) _⟩
  · have a0 : 0 ≤ a := by omega
    have a1 : a ≤ 59999 := by omega
    have Hr := Lib.hid hr
    clear hr
    go_wp2_with fail
    refine (search_any A c l a _ hl hmx (fun j hj => by have := okL_get l _ hok j hj; omega) (okL_sorted l _ hok) a0 a1).mono ?_
    rintro e w1 ⟨i, hi, rfl, hlo, hhi, hb1⟩
    have HL := Lib.hid hlo
    have HH := Lib.hid hhi
    clear hlo hhi
    have hB1 := hBx.belowS hb1
    obtain ⟨s1, s2, s3⟩ := hB1.rules
    have hbz := below_then hbx hb1 hbx.size
    have hmz := hm.keepB hbz
    clear hB' hbw hbx hmx hb1
    by_cases hz : l.length = 0
    · obtain rfl : i = 0 := by omega
      have hd : decide (∃ h : 0 < l.length, l[0].1 = a) = false := by simp [hz]
      rw [hd]
      have Hz := Lib.hid hz
      clear hz hd hBx
      have hBx := hB1
      go_wp2_with (go_at_call 28; refine (fault_any _ _ _).mono ?_; rintro e w3 ⟨rfl, hb3⟩; have hB3 := hBx.belowS hb3; obtain ⟨t1, t2, t3⟩ := hB3.rules)
      refine ret_tmp_blk Try.results6 rfl ((hB3.set_ 0 _).set_ 1 _) _ Try.underlying24 rfl (by kernel_rfl) rfl _ rfl ?_
      rw [lineRes, if_neg Hr.out, if_pos Hz.out]
      exact ⟨rfl, ((below_then hbz hb3 hbz.size).setCell (Nat.le_refl _) _).setCell (Nat.le_refl _) _⟩
    · have h0 : 0 < l.length := by omega
      have hfirst := marks_first hf.out h0
      by_cases hfd : ∃ h : i < l.length, l[i].1 = a
      · rw [decide_eq_true hfd]
        obtain ⟨hil, hia⟩ := hfd
        have Hres := Lib.hid (show lineAt a l 0 = l[i].2 from lineAt_is 0 hil (by omega) (fun j hj hij => by have := okL_sorted l _ hok i j hj hij; omega))
        obtain ⟨b, off, rfl, had, h1, h2⟩ := hmz.mark hil
        clear hia hBx hfirst
        go_wp2_with fail
        refine ret_tmp_blk Try.results6 rfl ((hB1.set_ 0 _).set_ 1 _) _ Try.underlying24 rfl (by kernel_rfl) rfl _ rfl ?_
        rw [lineRes, if_neg Hr.out, if_neg hz, Hres.out]
        exact ⟨rfl, (hbz.setCell (Nat.le_refl _) _).setCell (Nat.le_refl _) _⟩
      · rw [decide_eq_false hfd]
        obtain ⟨j, rfl⟩ : ∃ j, i = j + 1 := by
          refine ⟨i - 1, ?_⟩
          by_cases hi0 : i = 0
          · subst hi0
            exfalso
            have := HH.out 0 h0 (Nat.le_refl _)
            exact hfd ⟨h0, by omega⟩
          · omega
        have hjl : j < l.length := by omega
        have Hres := Lib.hid (show lineAt a l 0 = l[j].2 from lineAt_is 0 hjl (by have := HL.out j hjl (by omega); omega) (fun x hx hjx => by
          have h3 := HH.out x hx (by omega)
          by_cases h4 : x = j + 1
          · subst h4
            by_cases h5 : l[j + 1].1 = a
            · exact absurd ⟨hx, h5⟩ hfd
            · omega
          · have h6 := okL_sorted l _ hok (j + 1) x hx (by omega)
            have h7 := HH.out (j + 1) (by omega) (Nat.le_refl _)
            omega))
        obtain ⟨b, off, rfl, had, h1, h2⟩ := hmz.mark hjl
        clear hfd hBx hfirst
        go_wp2_with fail
        refine ret_tmp_blk Try.results6 rfl ((hB1.set_ 0 _).set_ 1 _) _ Try.underlying24 rfl (by kernel_rfl) rfl _ rfl ?_
        rw [lineRes, if_neg Hr.out, if_neg hz, Hres.out]
        exact ⟨rfl, (hbz.setCell (Nat.le_refl _) _).setCell (Nat.le_refl _) _⟩

theorem Row.newAt (w : World) (cs : Array Value) (t : TypeId) (n : Nat) (h : w.heap.size = n) : Row (w.alloc (.cells cs t)) (some ⟨n, 0, none⟩) cs.toList := by
  subst h
  exact Row.new w cs t

def mergeGo : Option Int → List Mark → List Mark
  | _, [] => []
  | p, m :: l => if p = some m.2 then mergeGo p l else m :: mergeGo (some m.2) l

def MergePost (l : List Mark) (w : World) (e : Ending) (w' : World) : Prop :=
  ∃ A c, e = .returned (.tuple #[.slice A l.length c, .agg #[.int .i64 0, .int .i64 0]]) ∧ Row w' A (l.flatMap mkc) ∧ Below w.heap.size w w'

def MergeRel (l : List Mark) (w : World) (v i : Value) (wr : World) : Prop :=
  ∃ (k : Nat) (p : Option Int) (d : List Mark), k ≤ l.length ∧ i = .int .i64 k ∧ mergeGo none l = d ++ mergeGo p (l.drop k) ∧ d.length ≤ k ∧ ((d = [] ∧ p = none) ∨ ∃ d' m, d = d' ++ [m] ∧ p = some m.2) ∧
    wr.ownsRow (w.heap.size + 1) 38 2 v d.length (d.flatMap mkc) ∧ Below w.heap.size w wr ∧ Blk wr w.heap.size 24 #[.int .i64 0, .int .i64 0]

theorem merge_keep {p : Option Int} {m : Mark} {l : List Mark} (h : p ≠ some m.2) : mergeGo p (m :: l) = m :: mergeGo (some m.2) l := by rw [mergeGo, if_neg h]
theorem merge_drop {m x : Mark} {l : List Mark} (h : x.2 = m.2) : mergeGo (some x.2) (m :: l) = mergeGo (some x.2) l := by rw [mergeGo, if_pos (by rw [h])]


set_option maxHeartbeats 1000000 in
theorem merge_ok (A : Option Addr) (c : Nat) (l : List Mark) (w : World) (hm : Row w A (l.flatMap mkc)) (hf : Hid (marksFault l = (0, 0))) :
    Calls Try.prog 7 #[.slice A l.length c] w (MergePost (mergeGo none l) w) := by
  obtain ⟨hok, hl⟩ := okL_marks hf.out
  obtain ⟨i0, hi, hz0, hz1, hz2⟩ := info_parts info_mark
  have hB : Blk (w.alloc (.cells #[.int .i64 0, .int .i64 0] 24)) w.heap.size 24 #[.int .i64 0, .int .i64 0] := Blk.new _ _ _
  have HB := Lib.hid hB
  clear hB
  have hm1 : Row (w.alloc (.cells #[.int .i64 0, .int .i64 0] 24)) A (l.flatMap mkc) := hm.keepB ((Below.refl _ _).alloc (Nat.le_refl _) _)
  go_enter Try.func7, Try.ntmps7
  go_wp2_with fail
  refine (check_at _ _ _ 0 0 _ (by omega) hm1 hf).mono ?_
  rintro e w' ⟨rfl, hb'⟩
  have hB' := HB.out.belowS hb'
  have hbw : Below w.heap.size w w' := below_then ((Below.refl _ _).alloc (Nat.le_refl _) _) hb' (by simp)
  clear hm1 HB hb'
  go_wp2_with fail
  go_loopw [5, 17] (fun v i wr => MergeRel l w v i wr) (fun _ i _ => l.length - (intOf i).toNat)
  case atStart => exact ⟨0, none, [], Nat.zero_le _, rfl, rfl, by simp, .inl ⟨rfl, rfl⟩, World.ownsRow_nil _ _ _ _, hbw.alloc hbw.size _, hB'.alloc _⟩
  case round =>
    clear hB' hbw
    obtain ⟨k, p, d, hk, rfl, he, hd, hp, hown, hb0, hB⟩ := hrel
    have He := Lib.hid he
    clear he
    obtain ⟨hr, hfr, hsz⟩ := hB.rules
    by_cases hlt : k < l.length
    · obtain ⟨bb, off, rfl, had, h1, h2⟩ := (hm.keepB hb0).mark hlt
      have hne : ∀ g, g ≤ w.heap.size → some g ≠ u5.ownBlock := fun g hg e => by have := hown.lt _ e.symm; omega
      have HN := Lib.hid hne
      clear hne
      obtain ⟨Av, cv, hv, hrv, hcv⟩ := own_form hown
      subst hv
      rcases hp with ⟨hd0, hp0⟩ | ⟨d', m, hd0, hp0⟩
      · subst hd0
        subst hp0
        have Hk := Lib.hid (merge_keep (p := none) (m := l[k]) (l := l.drop (k + 1)) (by simp))
        simp only [List.length_nil] at hown hrv hcv hd HN ⊢
        go_wp2_with fail
        go_quiet (fail)
        go_wp2_with (at_builtin; refine wpList_append_row _ rfl (.tmp 36) (.tmp 38) 22 rfl (w.heap.size + 1) 38 i0 (.agg #[.int .i64 0, .int .i64 0]) 2 16 Try.underlying22 hi hz0 hz1 hz2 rfl (by decide) (.slice Av 0 cv) 0 [] rfl ((ownsRow_drewN (hown.alloc _) nq).alloc _) (some ⟨wr.heap.size + 1, 0, none⟩) 1 1 [.int .i64 l[k].1, .int .i64 l[k].2] rfl rfl (Row.newAt _ _ _ _ (by simp)) (by simp [Value.oneCell']) (by unfold maxLen; omega) (by omega) (by simp; omega) ?_; intro v3 w3 hown3 hg3 hat3)
        have hB3 := (((hB.alloc _).drewN nq).alloc _).grown hg3 (HN.out _ (Nat.le_refl _))
        have hb3 := (Below.alloc (below_drewN (hb0.alloc hb0.size _) nq) (by simp; omega) _).grown hg3 (by simp; omega) (fun g e => by have := hown.lt g e; omega)
        go_roundw
        case rel =>
          refine ⟨k + 1, some l[k].2, [l[k]], by omega, by go_num, ?_, by simp, .inr ⟨[], l[k], rfl, rfl⟩, ?_, hb3, hB3⟩
          · rw [He.out, drop_cons hlt, Hk.out]; rfl
          · simpa [mkc] using hown3
        case measure => simp [intOf]; omega
      · subst hd0
        subst hp0
        have hx : d'.length < (d' ++ [m]).length := by simp
        obtain ⟨b2, off2, rfl, had2, h3, h4⟩ := hrv.mark hx
        have em : (d' ++ [m])[d'.length] = m := by simp
        rw [em] at h3 h4
        simp only [List.length_append, List.length_cons, List.length_nil, Nat.zero_add] at hown hcv hd HN ⊢
        have hj0 : ((d'.length : Int) + 1 == 0) = false := by rw [beq_eq_false_iff_ne]; omega
        have hj1 : ¬ ((d'.length : Int) + 1 = 0) := by omega
        have hj2 : IntKind.i64.wrap (d'.length : Int) = d'.length := IntWalk.i64_in _ (by omega)
        have hj3 : IntKind.i64.wrap ((d'.length : Int) + 1 - 1) = d'.length := by rw [Int.add_sub_cancel]; exact hj2
        have hj4 : (d'.length : Int) < d'.length + 1 := by omega
        by_cases heq : m.2 = l[k].2
        · have hq : (m.2 != l[k].2) = false := by simp [heq]
          have Hk := Lib.hid (merge_drop (m := l[k]) (l := l.drop (k + 1)) heq)
          clear heq
          go_wp2_with fail
          go_quiet (fail)
          go_wp2_with fail
          go_roundw
          case rel =>
            refine ⟨k + 1, some m.2, d' ++ [m], by omega, by go_num, ?_, by simp; omega, .inr ⟨d', m, rfl, rfl⟩, ?_, below_drewN (hb0.alloc hb0.size _) _, (hB.alloc _).drewN _⟩
            · rw [He.out, drop_cons hlt, Hk.out]
            · simpa using ownsRow_drewN (hown.alloc _) nq
          case measure => simp [intOf]; omega
        · have hq : (m.2 != l[k].2) = true := by simp [heq]
          have Hk := Lib.hid (merge_keep (p := some m.2) (m := l[k]) (l := l.drop (k + 1)) (by simpa using heq))
          clear heq
          go_wp2_with fail
          go_quiet (fail)
          clear hj2 hj3
          go_wp2_with (at_builtin; refine wpList_append_row _ rfl (.tmp 36) (.tmp 38) 22 rfl (w.heap.size + 1) 38 i0 (.agg #[.int .i64 0, .int .i64 0]) 2 16 Try.underlying22 hi hz0 hz1 hz2 rfl (by decide) (.slice (some ⟨b2, off2, none⟩) (d'.length + 1) cv) (d'.length + 1) ((d' ++ [m]).flatMap mkc) rfl ((ownsRow_drewN (hown.alloc _) nq).alloc _) (some ⟨wr.heap.size + 1, 0, none⟩) 1 1 [.int .i64 l[k].1, .int .i64 l[k].2] rfl rfl (Row.newAt _ _ _ _ (by simp)) (by simp [Value.oneCell']) (by unfold maxLen; omega) (by omega) (by simp; omega) ?_; intro v3 w3 hown3 hg3 hat3)
          have hB3 := (((hB.alloc _).drewN nq).alloc _).grown hg3 (HN.out _ (Nat.le_refl _))
          have hb3 := (Below.alloc (below_drewN (hb0.alloc hb0.size _) nq) (by simp; omega) _).grown hg3 (by simp; omega) (fun g e => by have := hown.lt g e; omega)
          go_roundw
          case rel =>
            refine ⟨k + 1, some l[k].2, (d' ++ [m]) ++ [l[k]], by omega, by go_num, ?_, by simp; omega, .inr ⟨d' ++ [m], l[k], rfl, rfl⟩, ?_, hb3, hB3⟩
            · rw [He.out, drop_cons hlt, Hk.out]; simp
            · simpa [mkc] using hown3
          case measure => simp [intOf]; omega
    · obtain ⟨Av, cv, rfl, hrow, hc⟩ := own_form hown
      go_wp2_with fail
      refine ret_tmp_blk Try.results7 rfl ((hB.set_ 0 _).set_ 1 _) _ Try.underlying24 rfl (by kernel_rfl) rfl _ rfl ?_
      have e : mergeGo none l = d := by rw [He.out, List.drop_of_length_le (by omega), mergeGo, List.append_nil]
      rw [e]
      exact ⟨Av, cv, rfl, Row.of_own (ownsRow_setCell_below (ownsRow_setCell_below hown (a := ⟨w.heap.size, 0, none⟩) (by simp) _) (a := ⟨w.heap.size, 1, none⟩) (by simp) _), (hb0.setCell (Nat.le_refl _) _).setCell (Nat.le_refl _) _⟩

end Go.Proofs.Ytionmlkefheocaa
