/- Plain words on texts of characters: runes, line feeds, places. Nothing is claimed here. -/
import Derived.Test.YtjoeojdciogcgaaDoorSrcC
namespace Go.Proofs.YtjoeojdciogcgaaDoor
open Go.Lib

theorem rcl_nil : runeCountL [] = 0 := rfl
theorem rcl_cons (l : List UInt8) (hne : l ≠ []) : runeCountL l = 1 + runeCountL (l.drop (decodeL l).2) := by
  have hp := List.length_pos_iff.2 hne
  have hw := width_pos l hne
  unfold runeCountL runeCount
  have e : (⟨l.toArray⟩ : ByteArray).size = l.length := by simp [ByteArray.size]
  have e2 : (⟨(l.drop (decodeL l).2).toArray⟩ : ByteArray).size = l.length - (decodeL l).2 := by simp [ByteArray.size]
  obtain ⟨n, hn⟩ : ∃ n, l.length = n + 1 := ⟨l.length - 1, by omega⟩
  rw [e, hn]
  conv => lhs; unfold runeCountFrom
  rw [if_pos (by rw [e]; exact hp), decode_drop, List.drop_zero, Nat.zero_add, e2, hn, ← hn]
  congr 1
  have h := tail_count ⟨l.toArray⟩ (decodeL l).2 (l.length - (decodeL l).2) 0
  rw [e, extract_from l _ _ (Nat.le_refl _), Nat.add_zero] at h
  rw [h]
  exact fuel_enough _ _ _ _ (by rw [e]; omega) (by rw [e]; omega)

theorem rcl_le (l : List UInt8) : runeCountL l ≤ l.length := by
  have := runeCount_le ⟨l.toArray⟩
  simpa [runeCountL, ByteArray.size] using this

/-- where the k-th rune of a text begins -/
def runeOff : Nat → List UInt8 → Nat
  | 0, _ => 0
  | k + 1, l => if l = [] then 0 else (decodeL l).2 + runeOff k (l.drop (decodeL l).2)

theorem runeOff_le : ∀ (k : Nat) (l : List UInt8), runeOff k l ≤ l.length
  | 0, _ => Nat.zero_le _
  | k + 1, l => by
    unfold runeOff
    split
    · exact Nat.zero_le _
    · rename_i hne
      have := runeOff_le k (l.drop (decodeL l).2)
      have h2 := decodeL_width_le l hne
      rw [List.length_drop] at this
      omega
theorem runeOff_succ : ∀ (k : Nat) (l : List UInt8), runeOff k l < l.length → runeOff (k + 1) l = runeOff k l + (decodeL (l.drop (runeOff k l))).2
  | 0, l, h => by
    have hne : l ≠ [] := by rintro rfl; simp at h
    simp [runeOff, hne]
  | k + 1, l, h => by
    have hne : l ≠ [] := by rintro rfl; simp [runeOff] at h
    have h2 := decodeL_width_le l hne
    have e : runeOff (k + 1) l = (decodeL l).2 + runeOff k (l.drop (decodeL l).2) := by conv => lhs; unfold runeOff; rw [if_neg hne]
    rw [e] at h ⊢
    have ih := runeOff_succ k (l.drop (decodeL l).2) (by rw [List.length_drop]; omega)
    conv => lhs; unfold runeOff
    rw [if_neg hne, ih, List.drop_drop]
    omega
theorem rcl_off : ∀ (k : Nat) (l : List UInt8), k ≤ runeCountL l → runeCountL l = k + runeCountL (l.drop (runeOff k l))
  | 0, l, _ => by simp [runeOff]
  | k + 1, l, h => by
    have hne : l ≠ [] := by rintro rfl; rw [rcl_nil] at h; omega
    rw [rcl_cons l hne] at h ⊢
    have ih := rcl_off k (l.drop (decodeL l).2) (by omega)
    conv => rhs; unfold runeOff
    rw [if_neg hne, ← List.drop_drop, ih]
    omega
theorem rcl_pos (l : List UInt8) (hne : l ≠ []) : 1 ≤ runeCountL l := by rw [rcl_cons l hne]; omega
theorem runeOff_all (l : List UInt8) : runeOff (runeCountL l) l = l.length := by
  have h := rcl_off (runeCountL l) l (Nat.le_refl _)
  have hle := runeOff_le (runeCountL l) l
  rcases Nat.lt_or_ge (runeOff (runeCountL l) l) l.length with hlt | hge
  · have := rcl_pos (l.drop (runeOff (runeCountL l) l)) (by intro e; have := congrArg List.length e; rw [List.length_drop, List.length_nil] at this; omega)
    omega
  · omega

/-- behind the last line feed of a text -/
def tailNl (l : List UInt8) : List UInt8 := l.drop (lastIndexByte ⟨l.toArray⟩ 10 + 1).toNat

theorem lastIndex_ge (l : List UInt8) : -1 ≤ lastIndexByte ⟨l.toArray⟩ 10 ∧ lastIndexByte ⟨l.toArray⟩ 10 < l.length := by
  have e : (⟨l.toArray⟩ : ByteArray).size = l.length := by simp [ByteArray.size]
  have h := lastIdx_spec ⟨l.toArray⟩ 10 (⟨l.toArray⟩ : ByteArray).size
  unfold lastIndexByte
  rcases h with ⟨h1, _⟩ | ⟨i, hi, h1, _⟩
  · rw [h1]; omega
  · rw [h1]; omega

def nlc : List UInt8 := [10]

theorem Chr.shape {c : List UInt8} (h : Chr c) : (∃ x : UInt8, c = [x]) ∨ ∀ j, j < c.length → 128 ≤ bAt c j := by
  by_cases h1 : c.length = 1
  · exact .inl (List.length_eq_one_iff.1 h1)
  · refine .inr fun j hj => ?_
    rcases Nat.eq_zero_or_pos j with rfl | hp
    · rcases Nat.lt_or_ge (bAt c 0) 128 with hlt | hge
      · exfalso
        have hd := h.dec []
        rw [List.append_nil, decodeL_eq] at hd
        rcases decodeN_cases c.length (bAt c 0) (bAt c 1) (bAt c 2) (bAt c 3) with ⟨_, h2⟩ | h2 | ⟨_, h2, _⟩ | ⟨_, h2, _⟩ | ⟨_, h2, _⟩
        · rw [h2] at hd
          injection hd with _ hd
          omega
        · rw [h2] at hd
          injection hd with _ hd
          omega
        · omega
        · omega
        · omega
      · exact hge
    · have := h.tail j hp hj
      omega

theorem Chr.no_nl {c : List UInt8} (h : Chr c) (hne : c ≠ nlc) : (10 : UInt8) ∉ c := by
  intro hm
  rcases h.shape with ⟨x, rfl⟩ | h2
  · simp at hm
    subst hm
    exact hne rfl
  · obtain ⟨j, hj, hx⟩ := List.getElem_of_mem hm
    have := h2 j hj
    simp [bAt, hj, hx] at this

theorem Chr.drop {c : List UInt8} (h : Chr c) (t : List UInt8) : (c ++ t).drop (decodeL (c ++ t)).2 = t := by
  rw [h.dec t]
  simp
theorem Chr.ne {c : List UInt8} (h : Chr c) (t : List UInt8) : c ++ t ≠ [] := by
  have := h.pos
  intro e
  have := congrArg List.length e
  rw [List.length_append, List.length_nil] at this
  omega

theorem rcl_chars : ∀ cs : List (List UInt8), (∀ c ∈ cs, Chr c) → runeCountL cs.flatten = cs.length
  | [], _ => rfl
  | c :: cs, h => by
    have hc := h c (List.mem_cons_self ..)
    rw [List.flatten_cons, rcl_cons _ (hc.ne _), hc.drop, rcl_chars cs (fun x hx => h x (List.mem_cons_of_mem _ hx)), List.length_cons]
    omega
theorem runeOff_chars : ∀ (k : Nat) (cs : List (List UInt8)), (∀ c ∈ cs, Chr c) → runeOff k cs.flatten = (cs.take k).flatten.length
  | 0, cs, _ => by simp [runeOff]
  | k + 1, [], _ => by simp [runeOff]
  | k + 1, c :: cs, h => by
    have hc := h c (List.mem_cons_self ..)
    rw [List.flatten_cons]
    conv => lhs; unfold runeOff
    rw [if_neg (hc.ne _), hc.drop, runeOff_chars k cs (fun x hx => h x (List.mem_cons_of_mem _ hx)), hc.dec]
    simp

/-- one character further -/
def step (p : Int × Int) (c : List UInt8) : Int × Int := if c = nlc then (p.1 + 1, 1) else (p.1, p.2 + 1)
/-- the place behind some characters -/
def place (cs : List (List UInt8)) : Int × Int := cs.foldl step (1, 1)

theorem lastIndex_none (l : List UInt8) (h : (10 : UInt8) ∉ l) : lastIndexByte ⟨l.toArray⟩ 10 = -1 := by
  have e : (⟨l.toArray⟩ : ByteArray).size = l.length := by simp [ByteArray.size]
  rcases lastIdx_spec ⟨l.toArray⟩ 10 (⟨l.toArray⟩ : ByteArray).size with ⟨h1, _⟩ | ⟨i, hi, h1, h2, _⟩
  · exact h1
  · exfalso
    rw [e] at hi
    apply h
    have h3 : l[i] = 10 := by
      simp [hi] at h2
      exact UInt8.toNat_inj.1 (by show l[i].toNat = 10; omega)
    rw [← h3]
    exact List.getElem_mem hi
theorem lastIndex_at (p q : List UInt8) (h : (10 : UInt8) ∉ q) : lastIndexByte ⟨(p ++ 10 :: q).toArray⟩ 10 = p.length := by
  have e : (⟨(p ++ 10 :: q).toArray⟩ : ByteArray).size = p.length + q.length + 1 := by simp [ByteArray.size]; omega
  have hb : ∀ j, j < p.length + q.length + 1 → (((⟨(p ++ 10 :: q).toArray⟩ : ByteArray).data[j]!).toNat : Int) = ((p ++ 10 :: q)[j]?.getD 0).toNat := by
    intro j hj
    have hj' : j < (p ++ 10 :: q).length := by simp; omega
    simp only [List.getElem!_toArray, List.getElem?_eq_getElem hj', Option.getD_some, getElem!_pos (p ++ 10 :: q) j hj']
  rcases lastIdx_spec ⟨(p ++ 10 :: q).toArray⟩ 10 (⟨(p ++ 10 :: q).toArray⟩ : ByteArray).size with ⟨_, h2⟩ | ⟨i, hi, h1, h2, h3⟩
  · exfalso
    have := h2 p.length (by rw [e]; omega)
    rw [hb _ (by omega)] at this
    simp at this
  · unfold lastIndexByte
    rw [h1]
    rcases Nat.lt_trichotomy i p.length with hlt | rfl | hgt
    · exfalso
      have := h3 p.length hlt (by rw [e]; omega)
      rw [hb _ (by omega)] at this
      simp at this
    · rfl
    · exfalso
      rw [e] at hi
      rw [hb _ hi] at h2
      apply h
      obtain ⟨d, rfl⟩ : ∃ d, i = p.length + 1 + d := ⟨i - p.length - 1, by omega⟩
      have hd : d < q.length := by omega
      have : (p ++ 10 :: q)[p.length + 1 + d]? = some q[d] := by
        rw [List.getElem?_append_right (by omega), show p.length + 1 + d - p.length = d + 1 by omega, List.getElem?_cons_succ, List.getElem?_eq_getElem hd]
      rw [this] at h2
      rw [Option.getD_some] at h2
      have h4 : q[d] = 10 := UInt8.toNat_inj.1 (by show q[d].toNat = 10; omega)
      rw [← h4]
      exact List.getElem_mem hd
theorem tailNl_none (l : List UInt8) (h : (10 : UInt8) ∉ l) : tailNl l = l := by
  unfold tailNl
  rw [lastIndex_none l h]
  simp
theorem tailNl_at (p q : List UInt8) (h : (10 : UInt8) ∉ q) : tailNl (p ++ 10 :: q) = q := by
  unfold tailNl
  rw [lastIndex_at p q h, show ((p.length : Int) + 1).toNat = p.length + 1 by omega, List.drop_append]
  simp
theorem last_split (l : List UInt8) : (10 : UInt8) ∉ l ∨ ∃ p q, l = p ++ 10 :: q ∧ (10 : UInt8) ∉ q := by
  induction l with
  | nil => exact .inl (by simp)
  | cons x l ih =>
    rcases ih with h | ⟨p, q, rfl, hq⟩
    · by_cases hx : x = 10
      · exact .inr ⟨[], l, by simp [hx], h⟩
      · exact .inl (by simp [h]; exact fun e => hx e.symm)
    · exact .inr ⟨x :: p, q, rfl, hq⟩
theorem tailNl_more (l c : List UInt8) (h : (10 : UInt8) ∉ c) : tailNl (l ++ c) = tailNl l ++ c := by
  rcases last_split l with hl | ⟨p, q, rfl, hq⟩
  · rw [tailNl_none l hl, tailNl_none (l ++ c) (by simp [hl, h])]
  · rw [tailNl_at p q hq, List.append_assoc, List.cons_append, tailNl_at p (q ++ c) (by simp [hq, h])]

/-- the place of some characters by their bytes -/
theorem place_bytes (cs : List (List UInt8)) (h : ∀ c ∈ cs, Chr c) : ((cs.flatten.count 10 : Nat) : Int) + 1 = (place cs).1 ∧ ((runeCountL (tailNl cs.flatten) : Nat) : Int) + 1 = (place cs).2 := by
  have key : ∀ (n : Nat), n ≤ cs.length → (((cs.take n).flatten.count 10 : Nat) : Int) + 1 = (place (cs.take n)).1 ∧ ∃ post : List (List UInt8), tailNl (cs.take n).flatten = post.flatten ∧ (∀ c ∈ post, Chr c) ∧ ((post.length : Nat) : Int) + 1 = (place (cs.take n)).2 := by
    intro n
    induction n with
    | zero => intro _; exact ⟨rfl, [], by simp [tailNl_none], by simp, rfl⟩
    | succ n ih =>
      intro hn
      obtain ⟨h1, post, h2, h3, h4⟩ := ih (by omega)
      have hlt : n < cs.length := by omega
      have hc := h cs[n] (List.getElem_mem hlt)
      have e : cs.take (n + 1) = cs.take n ++ [cs[n]] := List.take_succ_eq_append_getElem hlt
      have ep : place (cs.take (n + 1)) = step (place (cs.take n)) cs[n] := by unfold place; rw [e, List.foldl_append]; rfl
      rw [ep, e]
      simp only [List.flatten_append, List.flatten_cons, List.flatten_nil, List.append_nil]
      unfold step
      by_cases hnl : cs[n] = nlc
      · rw [if_pos hnl, hnl]
        refine ⟨?_, [], ?_, by simp, rfl⟩
        · rw [← h1]
          simp [nlc]
        · exact tailNl_at _ [] (by simp)
      · rw [if_neg hnl]
        have hno := hc.no_nl hnl
        refine ⟨?_, post ++ [cs[n]], ?_, ?_, ?_⟩
        · rw [← h1, List.count_append, List.count_eq_zero.2 hno, Nat.add_zero]
        · rw [tailNl_more _ _ hno, h2]
          simp
        · intro c hcm
          rcases List.mem_append.1 hcm with hcm | hcm
          · exact h3 c hcm
          · rw [List.mem_singleton.1 hcm]; exact hc
        · simp only [← h4, List.length_append, List.length_singleton]
          omega
  obtain ⟨h1, post, h2, h3, h4⟩ := key cs.length (Nat.le_refl _)
  rw [List.take_length] at h1 h2 h4
  exact ⟨h1, by rw [h2, rcl_chars post h3]; exact h4⟩

/-- an offset at which a character begins -/
theorem start_chars : ∀ (cs : List (List UInt8)) (n : Nat), (∀ c ∈ cs, Chr c) → n ≤ cs.flatten.length → (n < cs.flatten.length → bAt cs.flatten n / 64 ≠ 2) → ∃ k, k ≤ cs.length ∧ n = (cs.take k).flatten.length
  | [], n, _, h1, _ => ⟨0, Nat.le_refl _, by simp at h1; simp [h1]⟩
  | c :: cs, n, h, h1, h2 => by
    have hc := h c (List.mem_cons_self ..)
    rcases Nat.eq_zero_or_pos n with rfl | hp
    · exact ⟨0, Nat.zero_le _, by simp⟩
    · rw [List.flatten_cons] at h1 h2
      rcases Nat.lt_or_ge n c.length with hlt | hge
      · exfalso
        have hb : bAt (c ++ cs.flatten) n = bAt c n := by unfold bAt; rw [List.getD_eq_getElem?_getD, List.getD_eq_getElem?_getD, List.getElem?_append_left hlt]
        apply h2 (by rw [List.length_append]; omega)
        rw [hb]
        exact hc.tail n hp hlt
      · rw [List.length_append] at h1
        obtain ⟨k, hk, e⟩ := start_chars cs (n - c.length) (fun x hx => h x (List.mem_cons_of_mem _ hx)) (by omega) (fun hlt => by
          have := h2 (by rw [List.length_append]; omega)
          have hb : bAt (c ++ cs.flatten) n = bAt cs.flatten (n - c.length) := by unfold bAt; rw [List.getD_eq_getElem?_getD, List.getD_eq_getElem?_getD, List.getElem?_append_right hge]
          rwa [hb] at this)
        exact ⟨k + 1, by simp; omega, by rw [List.take_succ_cons, List.flatten_cons, List.length_append, ← e]; omega⟩

theorem take_flatten : ∀ (cs : List (List UInt8)) (k : Nat), cs.flatten.take (cs.take k).flatten.length = (cs.take k).flatten
  | [], _ => by simp
  | _ :: _, 0 => by simp
  | c :: cs, k + 1 => by
    rw [List.take_succ_cons, List.flatten_cons, List.flatten_cons, List.length_append, List.take_length_add_append, take_flatten cs k]

end Go.Proofs.YtjoeojdciogcgaaDoor
