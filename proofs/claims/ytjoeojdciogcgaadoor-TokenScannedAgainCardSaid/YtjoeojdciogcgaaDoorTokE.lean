/- Plain words on tokens that the walks use: steps of a search, and where lines begin. Nothing is claimed here. -/
import Derived.Test.YtjoeojdciogcgaaDoorTokD
namespace Go.Proofs.YtjoeojdciogcgaaDoor
open Go.Lib

theorem drop_at (l : List UInt8) (j : Nat) (h : j < l.length) : l.drop j = at0 l j :: l.drop (j + 1) := by
  rw [at0_lt l j h, List.drop_eq_getElem_cons h]
theorem span_at (p : UInt8 → Bool) (l : List UInt8) (j : Nat) (h : j < l.length) : span p (l.drop j) = if p (at0 l j) then span p (l.drop (j + 1)) + 1 else 0 := by
  rw [drop_at l j h, span_cons]
theorem span_end (p : UInt8 → Bool) (l : List UInt8) (j : Nat) (h : l.length ≤ j) : span p (l.drop j) = 0 := by
  rw [List.drop_of_length_le h]
  rfl
theorem span_drop_le (p : UInt8 → Bool) (l : List UInt8) (j : Nat) (h : j ≤ l.length) : j + span p (l.drop j) ≤ l.length := by
  have := span_le p (l.drop j)
  rw [List.length_drop] at this
  omega

theorem prefix_nil (q : List UInt8) (h : 0 < q.length) : q.isPrefixOf [] = false := by
  cases q with
  | nil => simp at h
  | cons => rfl
theorem se_end (q : List UInt8) (raw : Bool) (l : List UInt8) (j k : Nat) (h : l.length ≤ j) : strEnd q raw (l.drop j) false k = .error (15, k) := by
  rw [List.drop_of_length_le h]
  rfl
theorem se_pre (q : List UInt8) (raw : Bool) (hq : 0 < q.length) (l : List UInt8) (j k : Nat) (h : q.isPrefixOf (l.drop j) = true) : strEnd q raw (l.drop j) false k = .ok (k + q.length) := by
  rcases Nat.lt_or_ge j l.length with hj | hj
  · rw [drop_at l j hj] at h ⊢
    unfold strEnd
    rw [if_neg (by simp), if_pos h]
  · rw [List.drop_of_length_le hj, prefix_nil q hq] at h
    simp at h
theorem se_nl (q : List UInt8) (raw : Bool) (l : List UInt8) (j k : Nat) (hj : j < l.length) (hp : q.isPrefixOf (l.drop j) = false) (hc : at0 l j = 10) (h1 : q.length = 1) : strEnd q raw (l.drop j) false k = .error (1, k) := by
  rw [drop_at l j hj] at hp ⊢
  unfold strEnd
  rw [if_neg (by simp), if_neg (by simp [hp]), if_pos ⟨hc, h1⟩]
theorem se_esc (q : List UInt8) (l : List UInt8) (j k : Nat) (hp : q.isPrefixOf (l.drop j) = false) (hc : at0 l j = 92) (hj : j + 1 < l.length) (hd : at0 l (j + 1) ≠ 10) : strEnd q false (l.drop j) false k = strEnd q false (l.drop (j + 2)) false (k + 2) := by
  rw [drop_at l j (by omega)] at hp ⊢
  conv => lhs; unfold strEnd
  have h0 : at0 (l.drop (j + 1)) 0 = at0 l (j + 1) := by rw [at0_drop, Nat.add_zero]
  have hne : l.drop (j + 1) ≠ [] := by intro e; have := congrArg List.length e; rw [List.length_drop, List.length_nil] at this; omega
  rw [if_neg (by simp), if_neg (by simp [hp]), if_neg (by rw [hc]; simp), h0, hc]
  have hb : ((92 : UInt8) == 92 && !false && decide (l.drop (j + 1) ≠ []) && at0 l (j + 1) != 10) = true := by simp [hne, hd]
  rw [hb, drop_at l (j + 1) hj]
  conv => lhs; unfold strEnd
  rw [if_pos rfl]
theorem se_other (q : List UInt8) (raw : Bool) (l : List UInt8) (j k : Nat) (hj : j < l.length) (hp : q.isPrefixOf (l.drop j) = false) (h1 : ¬ (at0 l j = 10 ∧ q.length = 1)) (h2 : ¬ (at0 l j = 92 ∧ raw = false ∧ j + 1 < l.length ∧ at0 l (j + 1) ≠ 10)) :
    strEnd q raw (l.drop j) false k = strEnd q raw (l.drop (j + 1)) false (k + 1) := by
  rw [drop_at l j hj] at hp ⊢
  conv => lhs; unfold strEnd
  have h0 : at0 (l.drop (j + 1)) 0 = at0 l (j + 1) := by rw [at0_drop, Nat.add_zero]
  rw [if_neg (by simp), if_neg (by simp [hp]), if_neg h1, h0]
  have hb : (at0 l j == 92 && !raw && decide (l.drop (j + 1) ≠ []) && at0 l (j + 1) != 10) = false := by
    cases hx : (at0 l j == 92 && !raw && decide (l.drop (j + 1) ≠ []) && at0 l (j + 1) != 10)
    · rfl
    · exfalso
      simp only [Bool.and_eq_true, beq_iff_eq, Bool.not_eq_true', decide_eq_true_eq, bne_iff_ne] at hx
      refine h2 ⟨hx.1.1.1, hx.1.1.2, ?_, hx.2⟩
      rcases Nat.lt_or_ge (j + 1) l.length with h | h
      · exact h
      · exact absurd (List.drop_of_length_le h) hx.1.2
  rw [hb]

/-- where the line of an offset begins -/
def bol (l : List UInt8) (i : Nat) : Nat := i - width l i
theorem width_zero (l : List UInt8) : width l 0 = 0 := by
  unfold width
  rw [List.take_zero, tailNl_none [] (by simp)]
  rfl
theorem width_le (l : List UInt8) : ∀ i, width l i ≤ i
  | 0 => by rw [width_zero]; exact Nat.le_refl _
  | i + 1 => by have := width_succ l i; have := width_le l i; omega
theorem bol_add (l : List UInt8) (i : Nat) : bol l i + width l i = i := by have := width_le l i; unfold bol; omega
theorem bol_le (l : List UInt8) (i : Nat) : bol l i ≤ i := by unfold bol; omega
theorem bol_zero (l : List UInt8) : bol l 0 = 0 := by unfold bol; omega
theorem width_same (l : List UInt8) (i : Nat) (h : i < l.length) (hc : at0 l i ≠ 10) : width l (i + 1) = width l i + 1 := by
  unfold width
  rw [at0_lt l i h] at hc
  rw [List.take_succ_eq_append_getElem h, tailNl_more _ _ (by simpa using fun e => hc e.symm), List.length_append]
  simp
theorem bol_same (l : List UInt8) (i : Nat) (h : i < l.length) (hc : at0 l i ≠ 10) : bol l (i + 1) = bol l i := by
  have := width_same l i h hc
  unfold bol
  omega
theorem bol_nl (l : List UInt8) (i : Nat) (h : i < l.length) (hc : at0 l i = 10) : bol l (i + 1) = i + 1 := by
  have := width_nl l i h hc
  unfold bol
  omega
theorem line_same (l : List UInt8) (i : Nat) (h : i < l.length) (hc : at0 l i ≠ 10) : lineAt l (i + 1) = lineAt l i := by
  rw [at0_lt l i h] at hc
  unfold lineAt
  rw [List.take_succ_eq_append_getElem h, List.count_append]
  simp [hc]
theorem line_nl (l : List UInt8) (i : Nat) (h : i < l.length) (hc : at0 l i = 10) : lineAt l (i + 1) = lineAt l i + 1 := by
  rw [at0_lt l i h] at hc
  unfold lineAt
  rw [List.take_succ_eq_append_getElem h, List.count_append, hc]
  simp
theorem line_zero (l : List UInt8) : lineAt l 0 = 1 := by simp [lineAt]
theorem line_bound (l : List UInt8) (i : Nat) : 1 ≤ lineAt l i ∧ lineAt l i ≤ l.length + 1 := by
  unfold lineAt
  have h1 := List.count_le_length (a := (10 : UInt8)) (l := l.take i)
  rw [List.length_take] at h1
  omega
theorem same_line (l : List UInt8) (i : Nat) : ∀ n, i + n ≤ l.length → (∀ j, j < n → at0 l (i + j) ≠ 10) → lineAt l (i + n) = lineAt l i ∧ bol l (i + n) = bol l i
  | 0, _, _ => ⟨rfl, rfl⟩
  | n + 1, h, hn => by
    obtain ⟨h1, h2⟩ := same_line l i n (by omega) (fun j hj => hn j (by omega))
    have h3 := line_same l (i + n) (by omega) (hn n (by omega))
    have h4 := bol_same l (i + n) (by omega) (hn n (by omega))
    exact ⟨h3.trans h1, h4.trans h2⟩
theorem span_line (p : UInt8 → Bool) (hp : p 10 = false) (l : List UInt8) (i n : Nat) (hi : i ≤ l.length) (h : n ≤ span p (l.drop i)) : lineAt l (i + n) = lineAt l i ∧ bol l (i + n) = bol l i := by
  have hle := span_drop_le p l i hi
  refine same_line l i n (by omega) (fun j hj e => ?_)
  have := (span_spec p (l.drop i)).1 j (by omega)
  rw [at0_drop, e, hp] at this
  simp at this
/-- the text of the line ahead of an offset -/
theorem line_text (l : List UInt8) (i : Nat) (h : i ≤ l.length) : (l.drop (bol l i)).take (i - bol l i) = tailNl (l.take i) := by
  have hb := bol_add l i
  have h1 : (l.drop (bol l i)).take (i - bol l i) = (l.take i).drop (bol l i) := by rw [List.drop_take]
  rw [h1]
  have h2 : (tailNl (l.take i)).length = width l i := rfl
  have h3 : ∃ k, tailNl (l.take i) = (l.take i).drop k := ⟨_, rfl⟩
  obtain ⟨k, hk⟩ := h3
  have hl : (l.take i).length = i := by rw [List.length_take]; omega
  rw [hk, List.length_drop, hl] at h2
  rcases Nat.lt_or_ge k i with hki | hki
  · rw [hk, show bol l i = k by omega]
  · rw [hk, List.drop_of_length_le (by omega), List.drop_of_length_le (by omega)]
theorem col_bound (l : List UInt8) (i : Nat) : 1 ≤ colAt l i ∧ colAt l i ≤ l.length + 1 := by
  unfold colAt
  have h1 := rcl_le (tailNl (l.take i))
  have h2 : (tailNl (l.take i)).length ≤ (l.take i).length := by unfold tailNl; rw [List.length_drop]; omega
  rw [List.length_take] at h2
  omega

end Go.Proofs.YtjoeojdciogcgaaDoor
