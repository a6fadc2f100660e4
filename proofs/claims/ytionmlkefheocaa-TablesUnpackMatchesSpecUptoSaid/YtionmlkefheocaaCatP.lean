/- Plain laws: packed catches are unpacked; which catches count for no instruction. Nothing is claimed here. -/
import Derived.Test.YtionmlkefheocaaTabP
import Derived.Test.YtionmlkefheocaaCatF
namespace Go.Proofs.Ytionmlkefheocaa
open Go.RowKit
set_option linter.unusedVariables false

theorem findGo_append (a : Int) : ∀ (l m : List Catch) (i : Nat), findGo a i (l ++ m) = if findGo a i l = -1 then findGo a (i + l.length) m else findGo a i l
  | [], m, i => by simp [findGo]
  | c :: l, m, i => by
    simp only [List.cons_append, findGo]
    by_cases h : c.1 ≤ a ∧ a < c.2.1
    · have e : ¬ ((i : Int) = -1) := by omega
      simp only [if_pos h, if_neg e]
    · simp only [if_neg h]
      rw [findGo_append a l m (i + 1)]
      have e : i + 1 + l.length = i + (l.length + 1) := by omega
      simp only [List.length_cons, e]
theorem findGo_is {a : Int} {l : List Catch} {k : Nat} (hk : k < l.length) (h1 : l[k].1 ≤ a) (h2 : a < l[k].2.1) : findGo a 0 l = (k : Int) ↔ findGo a 0 (l.take k) = -1 := by
  have e : findGo a 0 l = findGo a 0 (l.take k ++ l[k] :: l.drop (k + 1)) := congrArg (findGo a 0) (by rw [← drop_cons hk, List.take_append_drop])
  rw [e, findGo_append]
  have hl : (l.take k).length = k := by simp; omega
  constructor
  · intro h
    rcases findGo_cases a (l.take k) 0 with h3 | ⟨j, hj, h3, _⟩
    · exact h3.1
    · exfalso
      rw [if_neg (by omega)] at h
      rw [hl] at hj
      omega
  · intro h
    rw [if_pos h, findGo, if_pos ⟨h1, h2⟩, hl]
    omega
/-- a catch is shadowed exactly if it counts for no instruction -/
theorem seen_no {l : List Catch} {k : Nat} (hk : k < l.length) (h0 : l[k].1 < l[k].2.1) (h : ∀ x, l[k].1 ≤ x → x < l[k].2.1 → findGo x 0 l ≠ (k : Int)) : shB l k l[k] = true := by
  refine shB_true h0 (fun x h1 h2 => ?_)
  have := h x h1 h2
  rw [Ne, findGo_is hk h1 h2] at this
  rcases findGo_neg x (l.take k) with h3 | h3
  · exact absurd h3 this
  · exact h3
theorem seen_yes {l : List Catch} {k : Nat} {x : Int} (hk : k < l.length) (h1 : l[k].1 ≤ x) (h2 : x < l[k].2.1) (h : findGo x 0 l = (k : Int)) : shB l k l[k] = false :=
  shB_false h1 h2 ((findGo_is hk h1 h2).1 h)

theorem packC_bytes : ∀ (l : List Catch) (f : Int), (∀ c ∈ l, okC c) → 0 ≤ f → f ≤ 60000 → (∀ x ∈ packCGo f l, 0 ≤ x ∧ x ≤ 255) ∧ (packCGo f l).length ≤ 12 * l.length
  | [], f, _, _, _ => ⟨by simp [packCGo], by simp [packCGo]⟩
  | c :: l, f, h, f0, f1 => by
    obtain ⟨o1, o2, o3, o4, o5, o6, o7⟩ := h c (by simp)
    have r1 := fold_range (n := c.1 - f) (by omega) (by omega)
    have r2 := fold_range (n := c.2.2.1 - c.2.1) (by omega) (by omega)
    have ih := packC_bytes l c.1 (fun x hx => h x (by simp [hx])) o1 (by omega)
    have s1 := sp_len (foldI (c.1 - f))
    have s2 := sp_len (c.2.1 - c.1)
    have s3 := sp_len (foldI (c.2.2.1 - c.2.1))
    have s4 := sp_len c.2.2.2
    refine ⟨fun x hx => ?_, ?_⟩
    · rw [packCGo] at hx
      rcases List.mem_append.1 hx with hx | hx
      · exact sp_bytes r1.1 r1.2 x hx
      rcases List.mem_append.1 hx with hx | hx
      · exact sp_bytes (by omega) (by omega) x hx
      rcases List.mem_append.1 hx with hx | hx
      · exact sp_bytes r2.1 r2.2 x hx
      rcases List.mem_append.1 hx with hx | hx
      · exact sp_bytes o6 (by omega) x hx
      · exact ih.1 x hx
    · have := ih.2
      rw [packCGo]; simp; omega
theorem drop_at {α : Type} {b pre x r : List α} {p : Nat} (h : b.drop p = x ++ r) : b.drop (p + x.length) = r := by
  rw [← List.drop_drop, h]; exact List.drop_left
theorem uc_pack (b : List Int) : ∀ (l : List Catch) (f p : Nat) (fr : Int), (∀ c ∈ l, okC c) → 0 ≤ fr → fr ≤ 60000 → b.drop p = packCGo fr l → b.length < f + p → p ≤ b.length → ucGo b f p fr = (none, l)
  | [], f, p, fr, _, _, _, hd, _, _ => by
    refine ucGo_end ?_
    have := congrArg List.length hd
    simp [packCGo] at this
    omega
  | c :: l, f, p, fr, h, f0, f1, hd, hf, hp => by
    obtain ⟨o1, o2, o3, o4, o5, o6, o7⟩ := h c (by simp)
    have r1 := fold_range (n := c.1 - fr) (by omega) (by omega)
    have r2 := fold_range (n := c.2.2.1 - c.2.1) (by omega) (by omega)
    rw [packCGo] at hd
    have d1 := drop_at (pre := b) hd
    have d2 := drop_at (pre := b) d1
    have d3 := drop_at (pre := b) d2
    have d4 := drop_at (pre := b) d3
    have p1 := sp_pos (foldI (c.1 - fr))
    have hlt : p < b.length := by
      have := congrArg List.length hd
      simp at this
      omega
    have q0 : rdN b p 0 = some ([], p) := rfl
    have q1 := rdN_step q0 (by rw [hd]; exact num_sp r1.1 r1.2 _)
    have q2 := rdN_step q1 (by rw [d1]; exact num_sp (by omega) (by omega) _)
    have q3 := rdN_step q2 (by rw [d2]; exact num_sp r2.1 r2.2 _)
    have q4 := rdN_step q3 (by rw [d3]; exact num_sp o6 (by omega) _)
    simp only [List.nil_append, List.cons_append] at q4
    have hq : p + (sp (foldI (c.1 - fr))).length + (sp (c.2.1 - c.1)).length + (sp (foldI (c.2.2.1 - c.2.1))).length + (sp c.2.2.2).length ≤ b.length := by
      have := congrArg List.length hd
      simp at this
      omega
    have e1 : fr + unfoldI (foldI (c.1 - fr)) = c.1 := by rw [unfold_fold]; omega
    rw [ucGo_step hlt hf q4, e1, unfold_fold]
    have ih := uc_pack b l (f - 1) _ c.1 (fun x hx => h x (by simp [hx])) o1 (by omega) d4 (by omega) hq
    rw [ih]
    have e2 : c.1 + (c.2.1 - c.1) = c.2.1 := by omega
    have e3 : c.2.1 + (c.2.2.1 - c.2.1) = c.2.2.1 := by omega
    simp only [e2, e3]
theorem unpack_packC {l : List Catch} (h : catchesFault l = (0, 0)) : unpackC (packCGo 0 l) = (l, (0, 0)) := by
  obtain ⟨hok, hl⟩ := okC_all h
  exact unpackC_ok (uc_pack _ l _ 0 0 hok (by omega) (by omega) (by simp) (by omega) (by omega)) h
theorem packC_bd {l : List Catch} (h : catchesFault l = (0, 0)) : (∀ x ∈ packCGo 0 l, 0 ≤ x ∧ x ≤ 255) ∧ (packCGo 0 l).length ≤ 720000 := by
  obtain ⟨hok, hl⟩ := okC_all h
  have := packC_bytes l 0 hok (by omega) (by omega)
  exact ⟨this.1, by have := this.2; omega⟩
theorem shGo_len (l : List Catch) : ∀ (r : List Catch) (i : Nat), (shGo l i r).length ≤ r.length
  | [], i => by simp [shGo]
  | c :: r, i => by
    rw [shGo]
    have := shGo_len l r (i + 1)
    split <;> simp <;> omega

end Go.Proofs.Ytionmlkefheocaa
