/- Plain: what groups of numbers unpack to, and that it packs to the same bytes. Nothing is claimed here. -/
import Derived.Test.YtionmlkefheocaaUnpB
import Derived.Test.YtionmlkefheocaaTabP
import Derived.Test.YtionmlkefheocaaCatP
namespace Go.Proofs.Ytionmlkefheocaa
open Go.RowKit
set_option linter.unusedVariables false

theorem num_conv {l : List Int} {v : Int} {k : Nat} (hb : ∀ x ∈ l, 0 ≤ x ∧ x ≤ 255) (h : num l = (v, true, k)) : l = sp v ++ l.drop k := by
  unfold num at h
  match l, hb, h with
  | [], _, h => simp [numGo_nil] at h
  | c0 :: r, hb, h =>
    have b0 := hb c0 (by simp)
    by_cases h0 : c0 < 128
    · rw [numGo_low (by omega) h0] at h
      simp at h
      obtain ⟨rfl, _, rfl⟩ := h
      rw [sp_low h0]
      rfl
    · rw [numGo_high (by omega) (by omega)] at h
      match r, hb, h with
      | [], _, h => simp [numGo_nil] at h
      | c1 :: r, hb, h =>
        have b1 := hb c1 (by simp)
        by_cases h1 : c1 < 128
        · rw [numGo_low (by omega) h1] at h
          simp at h
          obtain ⟨e1, e2, rfl⟩ := h
          have e3 : v = c0 % 128 + c1 * 128 := by omega
          have s1 : ¬ v < 128 := by omega
          have s2 : v < 16384 := by omega
          have s3 : v % 128 + 128 = c0 := by omega
          have s4 : v / 128 = c1 := by omega
          rw [sp, if_neg s1, if_pos s2, s3, s4]
          rfl
        · rw [numGo_high (by omega) (by omega)] at h
          match r, hb, h with
          | [], _, h => simp [numGo_nil] at h
          | c2 :: r, hb, h =>
            have b2 := hb c2 (by simp)
            by_cases h2 : c2 < 128
            · rw [numGo_low (by omega) h2] at h
              simp at h
              obtain ⟨e1, e2, rfl⟩ := h
              have e3 : v = c0 % 128 + c1 % 128 * 128 + c2 * 16384 := by omega
              have s1 : ¬ v < 128 := by omega
              have s2 : ¬ v < 16384 := by omega
              have s3 : v % 128 + 128 = c0 := by omega
              have s4 : v / 128 % 128 + 128 = c1 := by omega
              have s5 : v / 16384 = c2 := by omega
              rw [sp, if_neg s1, if_neg s2, s3, s4, s5]
              rfl
            · rw [numGo_high (by omega) (by omega)] at h
              simp [numGo_three] at h

theorem rdN_bd {b : List Int} {p : Nat} (hb : ∀ x ∈ b, 0 ≤ x ∧ x ≤ 255) (hp : p ≤ b.length) : ∀ (j : Nat) (vs : List Int) (q : Nat), rdN b p j = some (vs, q) → vs.length = j ∧ (∀ v ∈ vs, 0 ≤ v ∧ v < 2097152) ∧ p ≤ q ∧ q ≤ b.length ∧ (0 < j → p < b.length → p < q) ∧ b.drop p = vs.flatMap sp ++ b.drop q
  | 0, vs, q, h => by
    rw [rdN] at h
    injection h with h
    injection h with h1 h2
    subst h1
    subst h2
    exact ⟨rfl, by simp, by omega, hp, by omega, by simp⟩
  | j + 1, vs, q, h => by
    cases hr : rdN b p j with
    | none => rw [rdN, hr] at h; simp at h
    | some r =>
      obtain ⟨us, t⟩ := r
      obtain ⟨i1, i2, i3, i4, i5, i6⟩ := rdN_bd hb hp j us t hr
      have hbt : ∀ x ∈ b.drop t, 0 ≤ x ∧ x ≤ 255 := fun x hx => hb x (List.mem_of_mem_drop hx)
      have hn := num_bd hbt
      obtain ⟨v, ok, k, e⟩ : ∃ v ok k, num (b.drop t) = (v, ok, k) := ⟨_, _, _, rfl⟩
      cases ok
      · rw [rdN_fail hr e] at h
        cases h
      · rw [rdN_step hr e] at h
        injection h with h
        injection h with h1 h2
        subst h1
        subst h2
        rw [e] at hn
        have hc := num_conv hbt e
        simp only [List.length_drop] at hn
        refine ⟨by simp [i1], fun x hx => ?_, by omega, by omega, fun _ hlt => ?_, ?_⟩
        · rcases List.mem_append.1 hx with hx | hx
          · exact i2 x hx
          · rw [List.mem_singleton] at hx
            subst hx
            exact ⟨hn.1, hn.2.1⟩
        · by_cases h0 : 0 < j
          · have := i5 h0 hlt
            omega
          · by_cases ht : t < b.length
            · have := hn.2.2.2.2 (by rw [drop_cons ht]; exact List.cons_ne_nil _ _)
              omega
            · omega
        · rw [i6, hc]
          simp [List.drop_drop]

theorem grGo_bd {b : List Int} {c : Nat} (hb : ∀ x ∈ b, 0 ≤ x ∧ x ≤ 255) : ∀ (f p : Nat), p ≤ b.length → ∀ g ∈ (grGo b c f p).2, g.length = c ∧ ∀ v ∈ g, 0 ≤ v ∧ v < 2097152
  | 0, p, _, g, hg => by simp [grGo] at hg
  | f + 1, p, hp, g, hg => by
    rw [grGo] at hg
    by_cases h : b.length ≤ p
    · rw [if_pos h] at hg; simp at hg
    · rw [if_neg h] at hg
      cases hr : rdN b p c with
      | none => rw [hr] at hg; simp at hg
      | some r =>
        obtain ⟨vs, q⟩ := r
        rw [hr] at hg
        obtain ⟨i1, i2, i3, i4, _⟩ := rdN_bd hb hp c vs q hr
        rcases List.mem_cons.1 hg with hg | hg
        · rw [hg]; exact ⟨i1, i2⟩
        · exact grGo_bd hb f q i4 g hg

def mkGo : Int → Int → List (List Int) → List Mark
  | _, _, [] => []
  | a, ln, g :: r => (a + g.getD 0 0, ln + unfoldI (g.getD 1 0)) :: mkGo (a + g.getD 0 0) (ln + unfoldI (g.getD 1 0)) r
def ctGo : Int → List (List Int) → List Catch
  | _, [] => []
  | fr, g :: r => (fr + unfoldI (g.getD 0 0), fr + unfoldI (g.getD 0 0) + g.getD 1 0, fr + unfoldI (g.getD 0 0) + g.getD 1 0 + unfoldI (g.getD 2 0), g.getD 3 0) :: ctGo (fr + unfoldI (g.getD 0 0)) r

theorem up_gr {b : List Int} (hb : ∀ x ∈ b, 0 ≤ x ∧ x ≤ 255) : ∀ (f p : Nat) (a ln : Int), p ≤ b.length → b.length < f + p → upGo f p a ln (b.drop p) = ((grGo b 2 f p).1, mkGo a ln (grGo b 2 f p).2)
  | 0, p, a, ln, hp, hf => by omega
  | f + 1, p, a, ln, hp, hf => by
    by_cases h : p < b.length
    · obtain ⟨v1, ok1, k1, e1⟩ : ∃ v1 ok1 k1, num (b.drop p) = (v1, ok1, k1) := ⟨_, _, _, rfl⟩
      obtain ⟨v2, ok2, k2, e2⟩ : ∃ v2 ok2 k2, num (b.drop (p + k1)) = (v2, ok2, k2) := ⟨_, _, _, rfl⟩
      have r0 : rdN b p 0 = some ([], p) := rfl
      rw [upGo_step h hf e1 rfl e2 rfl]
      cases ok1
      · rw [grGo_fail h hf (rdN_none (rdN_fail r0 e1) 1)]
        rfl
      · have r1 := rdN_step r0 e1
        cases ok2
        · rw [grGo_fail h hf (rdN_fail r1 e2)]
          rfl
        · have r2 := rdN_step r1 e2
          obtain ⟨_, _, i3, i4, i5, _⟩ := rdN_bd hb hp 2 _ _ r2
          have := i5 (by omega) h
          rw [grGo_step h hf r2]
          simp only [Nat.add_sub_cancel, Bool.and_self, if_true]
          rw [up_gr hb f _ (a + v1) (ln + unfoldI v2) i4 (by omega)]
          rfl
    · rw [List.drop_of_length_le (by omega), upGo_end, grGo_end (by omega)]
      rfl
theorem uc_gr {b : List Int} (hb : ∀ x ∈ b, 0 ≤ x ∧ x ≤ 255) : ∀ (f p : Nat) (fr : Int), ucGo b f p fr = ((grGo b 4 f p).1, ctGo fr (grGo b 4 f p).2)
  | 0, p, fr => rfl
  | f + 1, p, fr => by
    rw [ucGo, grGo]
    by_cases h : b.length ≤ p
    · rw [if_pos h, if_pos h]; rfl
    · rw [if_neg h, if_neg h]
      cases hr : rdN b p 4 with
      | none => rfl
      | some r =>
        obtain ⟨vs, q⟩ := r
        simp only
        rw [uc_gr hb f q]
        rfl

theorem fold_unfold {n : Int} (h : 0 ≤ n) : foldI (unfoldI n) = n := by
  unfold foldI unfoldI
  by_cases h : n % 2 = 1
  · rw [if_pos h, if_pos (by omega)]; omega
  · rw [if_neg h, if_neg (by omega)]; omega

theorem pack_up {b : List Int} (hb : ∀ x ∈ b, 0 ≤ x ∧ x ≤ 255) : ∀ (f p : Nat) (a ln : Int), p ≤ b.length → b.length < f + p → (grGo b 2 f p).1 = none → packGo a ln (mkGo a ln (grGo b 2 f p).2) = b.drop p
  | 0, p, a, ln, hp, hf, _ => by omega
  | f + 1, p, a, ln, hp, hf, hn => by
    by_cases h : p < b.length
    · cases hr : rdN b p 2 with
      | none => rw [grGo_fail h hf hr] at hn; cases hn
      | some r =>
        obtain ⟨vs, q⟩ := r
        obtain ⟨i1, i2, i3, i4, i5, i6⟩ := rdN_bd hb hp 2 _ _ hr
        have := i5 (by omega) h
        rw [grGo_step h hf hr] at hn ⊢
        match vs, i1, i2, i6 with
        | [x, y], _, i2, i6 =>
          have y0 := (i2 y (by simp)).1
          have e1 : a + x - a = x := by omega
          have e2 : ln + unfoldI y - ln = unfoldI y := by omega
          simp only [mkGo, packGo, List.getD_cons_zero, List.getD_cons_succ, e1, e2, fold_unfold y0, Nat.add_sub_cancel] at hn ⊢
          rw [pack_up hb f q _ _ i4 (by omega) hn, i6]
          simp
    · rw [List.drop_of_length_le (by omega), grGo_end (by omega)]
      rfl
theorem pack_uc {b : List Int} (hb : ∀ x ∈ b, 0 ≤ x ∧ x ≤ 255) : ∀ (f p : Nat) (fr : Int), p ≤ b.length → b.length < f + p → (grGo b 4 f p).1 = none → packCGo fr (ctGo fr (grGo b 4 f p).2) = b.drop p
  | 0, p, fr, hp, hf, _ => by omega
  | f + 1, p, fr, hp, hf, hn => by
    by_cases h : p < b.length
    · cases hr : rdN b p 4 with
      | none => rw [grGo_fail h hf hr] at hn; cases hn
      | some r =>
        obtain ⟨vs, q⟩ := r
        obtain ⟨i1, i2, i3, i4, i5, i6⟩ := rdN_bd hb hp 4 _ _ hr
        have := i5 (by omega) h
        rw [grGo_step h hf hr] at hn ⊢
        match vs, i1, i2, i6 with
        | [x, y, z, t], _, i2, i6 =>
          have x0 := (i2 x (by simp)).1
          have z0 := (i2 z (by simp)).1
          have e1 : fr + unfoldI x - fr = unfoldI x := by omega
          have e2 : fr + unfoldI x + y - (fr + unfoldI x) = y := by omega
          have e3 : fr + unfoldI x + y + unfoldI z - (fr + unfoldI x + y) = unfoldI z := by omega
          simp only [ctGo, packCGo, List.getD_cons_zero, List.getD_cons_succ, e1, e2, e3, fold_unfold x0, fold_unfold z0, Nat.add_sub_cancel] at hn ⊢
          rw [pack_uc hb f q _ i4 (by omega) hn, i6]
          simp
    · rw [List.drop_of_length_le (by omega), grGo_end (by omega)]
      rfl

end Go.Proofs.Ytionmlkefheocaa
