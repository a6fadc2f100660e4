/- Plain laws: shortened tables keep every line; what is packed is unpacked. Nothing is claimed here. -/
import Derived.Test.YtionmlkefheocaaTabK
namespace Go.Proofs.Ytionmlkefheocaa
open Go.RowKit
set_option linter.unusedVariables false

theorem okL_above {n : Int} : ∀ (l : List Mark) (p : Int), okL p l → n ≤ p → ∀ x ∈ l, n < x.1
  | m :: l, p, h, hn, x, hx => by
    have h1 := h.1
    rcases List.mem_cons.1 hx with rfl | hx
    · omega
    · exact okL_above l m.1 h.2.2.2.2.2 (by omega) x hx
theorem merge_sub : ∀ (l : List Mark) (q : Option Int), ∀ x ∈ mergeGo q l, x ∈ l
  | [], q, x, hx => by simp [mergeGo] at hx
  | m :: l, q, x, hx => by
    rw [mergeGo] at hx
    split at hx
    · exact List.mem_cons_of_mem _ (merge_sub l q x hx)
    · rcases List.mem_cons.1 hx with rfl | hx
      · simp
      · exact List.mem_cons_of_mem _ (merge_sub l _ x hx)
theorem merge_line {n : Int} : ∀ (l : List Mark) (p c : Int), okL p l → lineAt n (mergeGo (some c) l) c = lineAt n l c
  | [], p, c, _ => rfl
  | m :: l, p, c, h => by
    rw [mergeGo]
    by_cases hn : m.1 ≤ n
    · split
      · rename_i hq
        injection hq with hq
        rw [lineAt, if_pos hn, ← hq]
        exact merge_line l m.1 c h.2.2.2.2.2
      · rw [lineAt, lineAt, if_pos hn]
        exact merge_line l m.1 m.2 h.2.2.2.2.2
    · have ha := okL_above (n := n) l m.1 h.2.2.2.2.2 (by omega)
      rw [lineAt_above n (m :: l) c (fun x hx => by
        rcases List.mem_cons.1 hx with rfl | hx
        · omega
        · exact ha x hx)]
      apply lineAt_above
      intro x hx
      have hx' : x ∈ m :: l := by
        split at hx
        · exact List.mem_cons_of_mem _ (merge_sub l _ x hx)
        · rcases List.mem_cons.1 hx with rfl | hx
          · simp
          · exact List.mem_cons_of_mem _ (merge_sub l _ x hx)
      rcases List.mem_cons.1 hx' with rfl | hx'
      · omega
      · exact ha x hx'
theorem merge_lineAt {n : Int} {l : List Mark} {p : Int} (h : okL p l) : lineAt n (mergeGo none l) 0 = lineAt n l 0 := by
  match l, h with
  | [], _ => rfl
  | m :: l, h =>
    rw [merge_keep (by simp), lineAt, lineAt]
    by_cases hn : m.1 ≤ n
    · rw [if_pos hn]
      exact merge_line l m.1 m.2 h.2.2.2.2.2
    · rw [if_neg hn]
      have ha := okL_above (n := n) l m.1 h.2.2.2.2.2 (by omega)
      rw [lineAt_above n l 0 ha, lineAt_above n _ 0 (fun x hx => ha x (merge_sub l _ x hx))]
theorem merge_head : ∀ (l : List Mark) (c : Int), ∀ h : 0 < (mergeGo (some c) l).length, (mergeGo (some c) l)[0].2 ≠ c
  | [], c, h => by simp [mergeGo] at h
  | m :: l, c, h => by
    by_cases hc : c = m.2
    · have e : mergeGo (some c) (m :: l) = mergeGo (some c) l := by rw [mergeGo, if_pos (by rw [hc])]
      have h' : 0 < (mergeGo (some c) l).length := by rw [← e]; exact h
      have := merge_head l c h'
      simpa only [e] using this
    · have e : mergeGo (some c) (m :: l) = m :: mergeGo (some m.2) l := merge_keep (by simpa using hc)
      simp only [e, List.getElem_cons_zero]
      exact fun h => hc h.symm
theorem merge_adj : ∀ (l : List Mark) (q : Option Int) (i : Nat) (h : i + 1 < (mergeGo q l).length), (mergeGo q l)[i + 1].2 ≠ (mergeGo q l)[i].2
  | [], q, i, h => by simp [mergeGo] at h
  | m :: l, q, i, h => by
    by_cases hc : q = some m.2
    · have e : mergeGo q (m :: l) = mergeGo q l := by rw [mergeGo, if_pos hc]
      have := merge_adj l q i (by rw [← e]; exact h)
      simpa only [e] using this
    · have e : mergeGo q (m :: l) = m :: mergeGo (some m.2) l := merge_keep hc
      match i with
      | 0 =>
        have := merge_head l m.2 (by rw [e] at h; simpa using h)
        simpa only [e, List.getElem_cons_succ, List.getElem_cons_zero] using this
      | i + 1 =>
        have := merge_adj l (some m.2) i (by rw [e] at h; simpa using h)
        simpa only [e, List.getElem_cons_succ] using this
theorem merge_len : ∀ (l : List Mark) (q : Option Int), (mergeGo q l).length ≤ l.length
  | [], q => by simp [mergeGo]
  | m :: l, q => by
    rw [mergeGo]
    split
    · have := merge_len l q; simp; omega
    · have := merge_len l (some m.2); simp; omega

theorem num_sp {x : Int} (h0 : 0 ≤ x) (h1 : x < 2097152) (r : List Int) : num (sp x ++ r) = (x, true, (sp x).length) := by
  unfold num sp
  by_cases h2 : x < 128
  · rw [if_pos h2, List.singleton_append, numGo_low (by omega) h2]
    simp
  · rw [if_neg h2]
    by_cases h3 : x < 16384
    · rw [if_pos h3]
      simp only [List.cons_append, List.nil_append]
      rw [numGo_high (by omega) (by omega), numGo_low (by omega) (by omega)]
      simp only [Int.pow_zero, Int.mul_one, Int.zero_add, Nat.zero_add, Nat.reduceAdd, Int.reducePow, List.length_cons, List.length_nil]
      have e1 : decide (0 < x / 128 ∨ 1 = 0) = true := by simp; omega
      rw [e1]
      congr 1
      omega
    · rw [if_neg h3]
      simp only [List.cons_append, List.nil_append]
      rw [numGo_high (by omega) (by omega), numGo_high (by omega) (by omega), numGo_low (by omega) (by omega)]
      simp only [Int.pow_zero, Int.mul_one, Int.zero_add, Nat.zero_add, Nat.reduceAdd, Int.reducePow, List.length_cons, List.length_nil]
      have e1 : decide (0 < x / 16384 ∨ 2 = 0) = true := by simp; omega
      rw [e1]
      congr 1
      omega
theorem sp_pos (x : Int) : 1 ≤ (sp x).length := by unfold sp; split; simp; split <;> simp
theorem sp_bytes {x : Int} (h0 : 0 ≤ x) (h1 : x < 2097152) : ∀ y ∈ sp x, 0 ≤ y ∧ y ≤ 255 := by
  intro y hy
  unfold sp at hy
  split at hy
  · simp at hy; omega
  · split at hy
    · simp at hy; omega
    · simp at hy; omega
theorem unfold_fold (n : Int) : unfoldI (foldI n) = n := by
  unfold foldI unfoldI
  by_cases h : n < 0
  · rw [if_pos h, if_pos (by omega)]; omega
  · rw [if_neg h, if_neg (by omega)]; omega
theorem fold_range {n : Int} (h0 : -1000000 ≤ n) (h1 : n ≤ 1000000) : 0 ≤ foldI n ∧ foldI n < 2097152 := by unfold foldI; split <;> omega

theorem up_pack : ∀ (l : List Mark) (f p : Nat) (a b q : Int), okL q l → 0 ≤ a → a ≤ q + 1 → 0 ≤ b → b ≤ 16000 → (packGo a b l).length < f → upGo f p a b (packGo a b l) = (none, l)
  | [], f, p, a, b, q, _, _, _, _, _, _ => upGo_end _ _ _ _
  | m :: l, f, p, a, b, q, h, a0, a1, b0, b1, hf => by
    obtain ⟨h1, h2, h3, h4, h5, h6⟩ := h
    obtain ⟨g, rfl⟩ : ∃ g, f = g + 1 := ⟨f - 1, by omega⟩
    have hfr := fold_range (n := m.2 - b) (by omega) (by omega)
    have n1 := num_sp (x := m.1 - a) (by omega) (by omega) (sp (foldI (m.2 - b)) ++ packGo m.1 m.2 l)
    have n2 := num_sp (x := foldI (m.2 - b)) hfr.1 hfr.2 (packGo m.1 m.2 l)
    have p1 := sp_pos (m.1 - a)
    rw [packGo] at hf ⊢
    have e0 : (sp (m.1 - a) ++ (sp (foldI (m.2 - b)) ++ packGo m.1 m.2 l)).isEmpty = false := by
      cases hs : sp (m.1 - a) with
      | nil => rw [hs] at p1; simp at p1
      | cons x r => rfl
    have d1 : (sp (m.1 - a) ++ (sp (foldI (m.2 - b)) ++ packGo m.1 m.2 l)).drop (sp (m.1 - a)).length = sp (foldI (m.2 - b)) ++ packGo m.1 m.2 l := List.drop_left
    have d2 : (sp (m.1 - a) ++ (sp (foldI (m.2 - b)) ++ packGo m.1 m.2 l)).drop ((sp (m.1 - a)).length + (sp (foldI (m.2 - b))).length) = packGo m.1 m.2 l := by
      rw [← List.drop_drop, d1]; exact List.drop_left
    have ih := up_pack l g (p + (sp (m.1 - a)).length + (sp (foldI (m.2 - b))).length) m.1 m.2 m.1 h6 h2 (by omega) (by omega) h5 (by simp at hf; omega)
    have e1 : a + (m.1 - a) = m.1 := by omega
    have e2 : b + (m.2 - b) = m.2 := by omega
    rw [upGo, e0]
    simp only [n1, d1, n2, d2, unfold_fold, e1, e2, ih, Bool.and_self, if_true, Bool.false_eq_true, if_false]
theorem pack_bytes : ∀ (l : List Mark) (a b q : Int), okL q l → 0 ≤ a → a ≤ q + 1 → 0 ≤ b → b ≤ 16000 → (∀ x ∈ packGo a b l, 0 ≤ x ∧ x ≤ 255) ∧ (packGo a b l).length ≤ 6 * l.length
  | [], a, b, q, _, _, _, _, _ => ⟨by simp [packGo], by simp [packGo]⟩
  | m :: l, a, b, q, h, a0, a1, b0, b1 => by
    obtain ⟨h1, h2, h3, h4, h5, h6⟩ := h
    have hfr := fold_range (n := m.2 - b) (by omega) (by omega)
    have ih := pack_bytes l m.1 m.2 m.1 h6 h2 (by omega) (by omega) h5
    have s1 := sp_len (m.1 - a)
    have s2 := sp_len (foldI (m.2 - b))
    refine ⟨fun x hx => ?_, ?_⟩
    · rw [packGo] at hx
      rcases List.mem_append.1 hx with hx | hx
      · exact sp_bytes (by omega) (by omega) x hx
      · rcases List.mem_append.1 hx with hx | hx
        · exact sp_bytes hfr.1 hfr.2 x hx
        · exact ih.1 x hx
    · have := ih.2
      rw [packGo]; simp; omega
theorem unpack_pack {l : List Mark} (h : marksFault l = (0, 0)) : unpackL (packGo 0 0 l) = (l, (0, 0)) := by
  obtain ⟨hok, hl⟩ := okL_marks h
  exact unpackL_ok (up_pack l _ 0 0 0 (-1) hok (by omega) (by omega) (by omega) (by omega) (by omega)) h
theorem pack_bd {l : List Mark} (h : marksFault l = (0, 0)) : (∀ x ∈ packGo 0 0 l, 0 ≤ x ∧ x ≤ 255) ∧ (packGo 0 0 l).length ≤ 360000 := by
  obtain ⟨hok, hl⟩ := okL_marks h
  have := pack_bytes l 0 0 (-1) hok (by omega) (by omega) (by omega) (by omega)
  exact ⟨this.1, by have := this.2; omega⟩

end Go.Proofs.Ytionmlkefheocaa
