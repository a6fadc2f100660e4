/- Plain words on the reference's signs: the longest one is the first one of the program's order. Nothing is claimed here. -/
import Derived.Test.YtjoeojdciogcgaaDoorTokB
namespace Go.Proofs.YtjoeojdciogcgaaDoor
open Go.Lib

/-- the greatest length of the texts that a text begins with -/
def bestF (r : List UInt8) (n : Nat) (s : List UInt8) : Nat := if s.isPrefixOf r ∧ n < s.length then s.length else n
def best (l : List (List UInt8)) (r : List UInt8) (n : Nat) : Nat := l.foldl (bestF r) n
theorem bestF_le (r : List UInt8) (n : Nat) (s : List UInt8) : n ≤ bestF r n s := by
  unfold bestF
  split <;> omega
theorem best_le (r : List UInt8) : ∀ (l : List (List UInt8)) (n : Nat), n ≤ best l r n
  | [], _ => Nat.le_refl _
  | s :: l, n => Nat.le_trans (bestF_le r n s) (best_le r l _)
theorem best_ge (r : List UInt8) : ∀ (l : List (List UInt8)) (n : Nat) (s : List UInt8), s ∈ l → s.isPrefixOf r = true → s.length ≤ best l r n
  | x :: l, n, s, hs, hp => by
    rcases List.mem_cons.1 hs with rfl | hs
    · refine Nat.le_trans ?_ (best_le r l _)
      unfold bestF
      split
      · exact Nat.le_refl _
      · rename_i h
        simp only [hp, true_and, Nat.not_lt] at h
        exact h
    · exact best_ge r l _ s hs hp
theorem best_mem (r : List UInt8) : ∀ (l : List (List UInt8)) (n : Nat), best l r n = n ∨ ∃ s ∈ l, s.isPrefixOf r = true ∧ best l r n = s.length
  | [], n => .inl rfl
  | x :: l, n => by
    rcases best_mem r l (bestF r n x) with h | ⟨s, hs, hp, h⟩
    · unfold bestF at h
      split at h
      · rename_i hc
        refine .inr ⟨x, by simp, hc.1, ?_⟩
        have e : best (x :: l) r n = best l r (bestF r n x) := rfl
        rw [e]
        unfold bestF
        rw [if_pos hc]
        exact h
      · rename_i hc
        refine .inl ?_
        have e : best (x :: l) r n = best l r (bestF r n x) := rfl
        rw [e]
        unfold bestF
        rw [if_neg hc]
        exact h
    · exact .inr ⟨s, List.mem_cons_of_mem _ hs, hp, h⟩

/-- the reference's order of the signs -/
def sgR : List (List UInt8) :=
  [[43], [45], [42], [47], [47, 47], [37], [42, 42], [60, 60], [62, 62], [38], [124], [94], [126], [60], [60, 61], [62], [62, 61], [61, 61], [33, 61], [40], [41], [91], [93], [123], [125], [44], [58], [46], [61], [43, 61], [45, 61], [42, 61], [47, 61], [47, 47, 61], [37, 61], [42, 42, 61], [60, 60, 61], [62, 62, 61], [38, 61], [124, 61], [94, 61], [64], [45, 62]]
theorem sgR_sub : ∀ s ∈ sgR, s ∈ sgs := by decide
theorem sgs_sub : ∀ s ∈ sgs, s ∈ sgR := by decide
theorem sgs_sorted : sgs.Pairwise (fun a b => b.length ≤ a.length) := by decide
/-- the sign at the beginning by the reference's search -/
theorem lexSign_best (r : List UInt8) : lexSign r = if best sgR r 0 = 0 then .error (1, 0) else .ok (8, best sgR r 0) := by
  unfold lexSign
  cases hf : sgs.find? (·.isPrefixOf r) with
  | none =>
    have h0 : best sgR r 0 = 0 := by
      rcases best_mem r sgR 0 with h | ⟨s, hs, hp, h⟩
      · exact h
      · have := List.find?_eq_none.1 hf s (sgR_sub s hs)
        exact absurd hp this
    simp only [h0, if_true]
  | some s =>
    obtain ⟨hp, l1, l2, he, hn⟩ := List.find?_eq_some_iff_append.1 hf
    have hmem : s ∈ sgs := by rw [he]; simp
    have hpos := (sgs_facts s hmem).1
    have hge := best_ge r sgR 0 s (sgs_sub s hmem) hp
    have hle : best sgR r 0 ≤ s.length := by
      rcases best_mem r sgR 0 with h | ⟨t, ht, htp, h⟩
      · omega
      · rw [h]
        have htm := sgR_sub t ht
        rw [he] at htm
        rcases List.mem_append.1 htm with h1 | h1
        · have := hn t h1
          rw [htp] at this
          simp at this
        · rcases List.mem_cons.1 h1 with rfl | h1
          · exact Nat.le_refl _
          · have hs := sgs_sorted
            rw [he, List.pairwise_append] at hs
            exact (List.pairwise_cons.1 hs.2.1).1 t h1
    have e : best sgR r 0 = s.length := by omega
    rw [e, if_neg (by omega)]

end Go.Proofs.YtjoeojdciogcgaaDoor
