/- Plain words on texts of characters: places of offsets, and offsets of places. Nothing is claimed here. -/
import Derived.Test.YtfocggdplahnbaaDoorSrcD
import Derived.Test.YtfocggdplahnbaaDoorSrcY
namespace Go.Proofs.YtfocggdplahnbaaDoor
open Go.Lib

def nlc : List UInt8 := [10]

theorem Chr.shape {c : List UInt8} (h : Chr c) : (∃ x : UInt8, c = [x]) ∨ ∀ j, j < c.length → 128 ≤ bAt c j := by
  by_cases h1 : c.length = 1
  · exact .inl (List.length_eq_one_iff.1 h1)
  · refine .inr fun j hj => ?_
    rcases Nat.eq_zero_or_pos j with rfl | hp
    · rcases Nat.lt_or_ge (bAt c 0) 128 with hlt | hge
      · exfalso
        have hd := h.dec []
        rw [List.append_nil, decodeL_eq] at hd
        rcases decodeN_cases c.length (bAt c 0) (bAt c 1) (bAt c 2) (bAt c 3) with ⟨_, h2⟩ | h2 | ⟨_, h2, _⟩ | ⟨_, h2, _⟩ | ⟨_, h2, _⟩
        · rw [h2] at hd
          injection hd with _ hd
          omega
        · rw [h2] at hd
          injection hd with _ hd
          omega
        · omega
        · omega
        · omega
      · exact hge
    · have := h.tail j hp hj
      omega

theorem Chr.no_nl {c : List UInt8} (h : Chr c) (hne : c ≠ nlc) : (10 : UInt8) ∉ c := by
  intro hm
  rcases h.shape with ⟨x, rfl⟩ | h2
  · simp at hm
    subst hm
    exact hne rfl
  · obtain ⟨j, hj, hx⟩ := List.getElem_of_mem hm
    have := h2 j hj
    simp [bAt, hj, hx] at this

theorem Chr.drop {c : List UInt8} (h : Chr c) (t : List UInt8) : (c ++ t).drop (decodeL (c ++ t)).2 = t := by
  rw [h.dec t]
  simp
theorem Chr.ne {c : List UInt8} (h : Chr c) (t : List UInt8) : c ++ t ≠ [] := by
  have := h.pos
  intro e
  have := congrArg List.length e
  rw [List.length_append, List.length_nil] at this
  omega

theorem rcl_chars : ∀ cs : List (List UInt8), (∀ c ∈ cs, Chr c) → runeCountL cs.flatten = cs.length
  | [], _ => rfl
  | c :: cs, h => by
    have hc := h c (List.mem_cons_self ..)
    rw [List.flatten_cons, rcl_cons _ (hc.ne _), hc.drop, rcl_chars cs (fun x hx => h x (List.mem_cons_of_mem _ hx)), List.length_cons]
    omega
theorem runeOff_chars : ∀ (k : Nat) (cs : List (List UInt8)), (∀ c ∈ cs, Chr c) → runeOff k cs.flatten = (cs.take k).flatten.length
  | 0, cs, _ => by simp [runeOff]
  | k + 1, [], _ => by simp [runeOff]
  | k + 1, c :: cs, h => by
    have hc := h c (List.mem_cons_self ..)
    rw [List.flatten_cons]
    conv => lhs; unfold runeOff
    rw [if_neg (hc.ne _), hc.drop, runeOff_chars k cs (fun x hx => h x (List.mem_cons_of_mem _ hx)), hc.dec]
    simp

/-- one character further -/
def step (p : Int × Int) (c : List UInt8) : Int × Int := if c = nlc then (p.1 + 1, 1) else (p.1, p.2 + 1)
/-- the place behind some characters -/
def place (cs : List (List UInt8)) : Int × Int := cs.foldl step (1, 1)

theorem lastIndex_none (l : List UInt8) (h : (10 : UInt8) ∉ l) : lastIndexByte ⟨l.toArray⟩ 10 = -1 := by
  have e : (⟨l.toArray⟩ : ByteArray).size = l.length := by simp [ByteArray.size]
  rcases lastIdx_spec ⟨l.toArray⟩ 10 (⟨l.toArray⟩ : ByteArray).size with ⟨h1, _⟩ | ⟨i, hi, h1, h2, _⟩
  · exact h1
  · exfalso
    rw [e] at hi
    apply h
    have h3 : l[i] = 10 := by
      simp [hi] at h2
      exact UInt8.toNat_inj.1 (by show l[i].toNat = 10; omega)
    rw [← h3]
    exact List.getElem_mem hi
theorem lastIndex_at (p q : List UInt8) (h : (10 : UInt8) ∉ q) : lastIndexByte ⟨(p ++ 10 :: q).toArray⟩ 10 = p.length := by
  have e : (⟨(p ++ 10 :: q).toArray⟩ : ByteArray).size = p.length + q.length + 1 := by simp [ByteArray.size]; omega
  have hb : ∀ j, j < p.length + q.length + 1 → (((⟨(p ++ 10 :: q).toArray⟩ : ByteArray).data[j]!).toNat : Int) = ((p ++ 10 :: q)[j]?.getD 0).toNat := by
    intro j hj
    have hj' : j < (p ++ 10 :: q).length := by simp; omega
    simp only [List.getElem!_toArray, List.getElem?_eq_getElem hj', Option.getD_some, getElem!_pos (p ++ 10 :: q) j hj']
  rcases lastIdx_spec ⟨(p ++ 10 :: q).toArray⟩ 10 (⟨(p ++ 10 :: q).toArray⟩ : ByteArray).size with ⟨_, h2⟩ | ⟨i, hi, h1, h2, h3⟩
  · exfalso
    have := h2 p.length (by rw [e]; omega)
    rw [hb _ (by omega)] at this
    simp at this
  · unfold lastIndexByte
    rw [h1]
    rcases Nat.lt_trichotomy i p.length with hlt | rfl | hgt
    · exfalso
      have := h3 p.length hlt (by rw [e]; omega)
      rw [hb _ (by omega)] at this
      simp at this
    · rfl
    · exfalso
      rw [e] at hi
      rw [hb _ hi] at h2
      apply h
      obtain ⟨d, rfl⟩ : ∃ d, i = p.length + 1 + d := ⟨i - p.length - 1, by omega⟩
      have hd : d < q.length := by omega
      have : (p ++ 10 :: q)[p.length + 1 + d]? = some q[d] := by
        rw [List.getElem?_append_right (by omega), show p.length + 1 + d - p.length = d + 1 by omega, List.getElem?_cons_succ, List.getElem?_eq_getElem hd]
      rw [this] at h2
      rw [Option.getD_some] at h2
      have h4 : q[d] = 10 := UInt8.toNat_inj.1 (by show q[d].toNat = 10; omega)
      rw [← h4]
      exact List.getElem_mem hd
theorem tailNl_none (l : List UInt8) (h : (10 : UInt8) ∉ l) : tailNl l = l := by
  unfold tailNl
  rw [lastIndex_none l h]
  simp
theorem tailNl_at (p q : List UInt8) (h : (10 : UInt8) ∉ q) : tailNl (p ++ 10 :: q) = q := by
  unfold tailNl
  rw [lastIndex_at p q h, show ((p.length : Int) + 1).toNat = p.length + 1 by omega, List.drop_append]
  simp
theorem last_split (l : List UInt8) : (10 : UInt8) ∉ l ∨ ∃ p q, l = p ++ 10 :: q ∧ (10 : UInt8) ∉ q := by
  induction l with
  | nil => exact .inl (by simp)
  | cons x l ih =>
    rcases ih with h | ⟨p, q, rfl, hq⟩
    · by_cases hx : x = 10
      · exact .inr ⟨[], l, by simp [hx], h⟩
      · exact .inl (by simp [h]; exact fun e => hx e.symm)
    · exact .inr ⟨x :: p, q, rfl, hq⟩
theorem tailNl_more (l c : List UInt8) (h : (10 : UInt8) ∉ c) : tailNl (l ++ c) = tailNl l ++ c := by
  rcases last_split l with hl | ⟨p, q, rfl, hq⟩
  · rw [tailNl_none l hl, tailNl_none (l ++ c) (by simp [hl, h])]
  · rw [tailNl_at p q hq, List.append_assoc, List.cons_append, tailNl_at p (q ++ c) (by simp [hq, h])]

/-- the place of some characters by their bytes -/
theorem place_bytes (cs : List (List UInt8)) (h : ∀ c ∈ cs, Chr c) : ((cs.flatten.count 10 : Nat) : Int) + 1 = (place cs).1 ∧ ((runeCountL (tailNl cs.flatten) : Nat) : Int) + 1 = (place cs).2 := by
  have key : ∀ (n : Nat), n ≤ cs.length → (((cs.take n).flatten.count 10 : Nat) : Int) + 1 = (place (cs.take n)).1 ∧ ∃ post : List (List UInt8), tailNl (cs.take n).flatten = post.flatten ∧ (∀ c ∈ post, Chr c) ∧ ((post.length : Nat) : Int) + 1 = (place (cs.take n)).2 := by
    intro n
    induction n with
    | zero => intro _; exact ⟨rfl, [], by simp [tailNl_none], by simp, rfl⟩
    | succ n ih =>
      intro hn
      obtain ⟨h1, post, h2, h3, h4⟩ := ih (by omega)
      have hlt : n < cs.length := by omega
      have hc := h cs[n] (List.getElem_mem hlt)
      have e : cs.take (n + 1) = cs.take n ++ [cs[n]] := List.take_succ_eq_append_getElem hlt
      have ep : place (cs.take (n + 1)) = step (place (cs.take n)) cs[n] := by unfold place; rw [e, List.foldl_append]; rfl
      rw [ep, e]
      simp only [List.flatten_append, List.flatten_cons, List.flatten_nil, List.append_nil]
      unfold step
      by_cases hnl : cs[n] = nlc
      · rw [if_pos hnl, hnl]
        refine ⟨?_, [], ?_, by simp, rfl⟩
        · rw [← h1]
          simp [nlc]
        · exact tailNl_at _ [] (by simp)
      · rw [if_neg hnl]
        have hno := hc.no_nl hnl
        refine ⟨?_, post ++ [cs[n]], ?_, ?_, ?_⟩
        · rw [← h1, List.count_append, List.count_eq_zero.2 hno, Nat.add_zero]
        · rw [tailNl_more _ _ hno, h2]
          simp
        · intro c hcm
          rcases List.mem_append.1 hcm with hcm | hcm
          · exact h3 c hcm
          · rw [List.mem_singleton.1 hcm]; exact hc
        · simp only [← h4, List.length_append, List.length_singleton]
          omega
  obtain ⟨h1, post, h2, h3, h4⟩ := key cs.length (Nat.le_refl _)
  rw [List.take_length] at h1 h2 h4
  exact ⟨h1, by rw [h2, rcl_chars post h3]; exact h4⟩

/-- characters parted into lines -/
def splitC : List (List UInt8) → List (List (List UInt8))
  | [] => [[]]
  | c :: cs => if c = nlc then [] :: splitC cs else match splitC cs with
    | [] => [[c]]
    | p :: ps => (c :: p) :: ps
theorem splitC_ne (cs : List (List UInt8)) : splitC cs ≠ [] := by
  cases cs with
  | nil => simp [splitC]
  | cons c cs =>
    unfold splitC
    split
    · simp
    · split <;> simp
theorem splitB_pre (c : List UInt8) (h : (10 : UInt8) ∉ c) (l : List UInt8) : ∀ p ps, splitB 10 l = p :: ps → splitB 10 (c ++ l) = (c ++ p) :: ps := by
  induction c with
  | nil => intro p ps e; exact e
  | cons x c ih =>
    intro p ps e
    have hx : x ≠ 10 := by intro e; apply h; simp [e]
    have := ih (by intro hm; apply h; simp [hm]) p ps e
    rw [List.cons_append]
    unfold splitB
    rw [if_neg hx, this]
    rfl
theorem splitB_chars : ∀ cs : List (List UInt8), (∀ c ∈ cs, Chr c) → splitB 10 cs.flatten = (splitC cs).map List.flatten
  | [], _ => rfl
  | c :: cs, h => by
    have ih := splitB_chars cs (fun x hx => h x (List.mem_cons_of_mem _ hx))
    have hc := h c (List.mem_cons_self ..)
    unfold splitC
    by_cases hnl : c = nlc
    · subst hnl
      rw [if_pos rfl, List.flatten_cons, List.map_cons, ← ih]
      show splitB 10 (10 :: cs.flatten) = _
      conv => lhs; unfold splitB
      rw [if_pos rfl]
      rfl
    · rw [if_neg hnl, List.flatten_cons]
      cases hs : splitC cs with
      | nil => exact absurd hs (splitC_ne cs)
      | cons p ps =>
        rw [hs] at ih
        rw [splitB_pre c (hc.no_nl hnl) _ p.flatten (ps.map List.flatten) (by rw [ih]; rfl)]
        simp
theorem splitC_chars : ∀ cs : List (List UInt8), (∀ c ∈ cs, Chr c) → ∀ x ∈ splitC cs, ∀ c ∈ x, Chr c
  | [], _, x, hx => by simp [splitC] at hx; subst hx; simp
  | c :: cs, h, x, hx => by
    have ih := splitC_chars cs (fun x hx => h x (List.mem_cons_of_mem _ hx))
    unfold splitC at hx
    split at hx
    · rcases List.mem_cons.1 hx with rfl | hx
      · simp
      · exact ih x hx
    · split at hx
      · rename_i hs; exact absurd hs (splitC_ne cs)
      · rename_i p ps hs
        rcases List.mem_cons.1 hx with rfl | hx
        · intro d hd
          rcases List.mem_cons.1 hd with rfl | hd
          · exact h _ (List.mem_cons_self ..)
          · exact ih p (by rw [hs]; exact List.mem_cons_self ..) d hd
        · exact ih x (by rw [hs]; exact List.mem_cons_of_mem _ hx)

/-- where the characters of a line and a column end -/
theorem place_split : ∀ (cs : List (List UInt8)) (k : Nat), k ≤ cs.length → ∃ (q : List (List (List UInt8))) (x : List (List UInt8)) (t : List (List (List UInt8))) (c : Nat), splitC cs = q ++ x :: t ∧ c ≤ x.length ∧
    (∀ A B : Int, (cs.take k).foldl step (A, B) = (A + q.length, if q = [] then B + c else 1 + c)) ∧ atOf (q.map List.flatten) + (x.take c).flatten.length = (cs.take k).flatten.length
  | [], k, hk => by
    refine ⟨[], [], [], 0, rfl, Nat.le_refl _, fun A B => ?_, ?_⟩
    · simp
    · simp [atOf]
  | ch :: cs, 0, _ => by
    cases hs : splitC (ch :: cs) with
    | nil => exact absurd hs (splitC_ne _)
    | cons x t => exact ⟨[], x, t, 0, rfl, Nat.zero_le _, fun A B => by simp, by simp [atOf]⟩
  | ch :: cs, k + 1, hk => by
    obtain ⟨q, x, t, c, h1, h2, h3, h4⟩ := place_split cs k (by simpa using hk)
    by_cases hnl : ch = nlc
    · subst hnl
      refine ⟨[] :: q, x, t, c, ?_, h2, fun A B => ?_, ?_⟩
      · unfold splitC
        rw [if_pos rfl, h1]
        rfl
      · rw [List.take_succ_cons, List.foldl_cons]
        unfold step
        rw [if_pos rfl]
        have := h3 (A + 1) 1
        unfold step at this
        rw [this]
        simp only [List.length_cons, reduceCtorEq, if_false]
        refine Prod.ext ?_ ?_
        · simp only; omega
        · simp
      · rw [List.take_succ_cons, List.flatten_cons, List.length_append, ← h4]
        simp only [List.map_cons, atOf, List.flatten_nil, List.length_nil, nlc, List.length_singleton]
        omega
    · cases q with
      | nil =>
        refine ⟨[], ch :: x, t, c + 1, ?_, by simp; omega, fun A B => ?_, ?_⟩
        · unfold splitC
          rw [if_neg hnl, h1]
          rfl
        · rw [List.take_succ_cons, List.foldl_cons]
          have hst : step (A, B) ch = (A, B + 1) := by unfold step; rw [if_neg hnl]
          rw [hst, h3 A (B + 1)]
          simp
          omega
        · rw [List.take_succ_cons, List.take_succ_cons, List.flatten_cons, List.flatten_cons, List.length_append, List.length_append, ← h4]
          simp [atOf]
      | cons q0 qs =>
        refine ⟨(ch :: q0) :: qs, x, t, c, ?_, h2, fun A B => ?_, ?_⟩
        · unfold splitC
          rw [if_neg hnl, h1]
          rfl
        · rw [List.take_succ_cons, List.foldl_cons]
          have hst : step (A, B) ch = (A, B + 1) := by unfold step; rw [if_neg hnl]
          rw [hst, h3 A (B + 1)]
          simp
        · rw [List.take_succ_cons, List.flatten_cons, List.length_append, ← h4]
          simp [atOf]
          omega

/-- an offset at which a character begins -/
theorem start_chars : ∀ (cs : List (List UInt8)) (n : Nat), (∀ c ∈ cs, Chr c) → n ≤ cs.flatten.length → (n < cs.flatten.length → bAt cs.flatten n / 64 ≠ 2) → ∃ k, k ≤ cs.length ∧ n = (cs.take k).flatten.length
  | [], n, _, h1, _ => ⟨0, Nat.le_refl _, by simp at h1; simp [h1]⟩
  | c :: cs, n, h, h1, h2 => by
    have hc := h c (List.mem_cons_self ..)
    rcases Nat.eq_zero_or_pos n with rfl | hp
    · exact ⟨0, Nat.zero_le _, by simp⟩
    · rw [List.flatten_cons] at h1 h2
      rcases Nat.lt_or_ge n c.length with hlt | hge
      · exfalso
        have hb : bAt (c ++ cs.flatten) n = bAt c n := by unfold bAt; rw [List.getD_eq_getElem?_getD, List.getD_eq_getElem?_getD, List.getElem?_append_left hlt]
        apply h2 (by rw [List.length_append]; omega)
        rw [hb]
        exact hc.tail n hp hlt
      · rw [List.length_append] at h1
        obtain ⟨k, hk, e⟩ := start_chars cs (n - c.length) (fun x hx => h x (List.mem_cons_of_mem _ hx)) (by omega) (fun hlt => by
          have := h2 (by rw [List.length_append]; omega)
          have hb : bAt (c ++ cs.flatten) n = bAt cs.flatten (n - c.length) := by unfold bAt; rw [List.getD_eq_getElem?_getD, List.getD_eq_getElem?_getD, List.getElem?_append_right hge]
          rwa [hb] at this)
        exact ⟨k + 1, by simp; omega, by rw [List.take_succ_cons, List.flatten_cons, List.length_append, ← e]; omega⟩

theorem take_flatten : ∀ (cs : List (List UInt8)) (k : Nat), cs.flatten.take (cs.take k).flatten.length = (cs.take k).flatten
  | [], _ => by simp
  | _ :: _, 0 => by simp
  | c :: cs, k + 1 => by
    rw [List.take_succ_cons, List.flatten_cons, List.flatten_cons, List.length_append, List.take_length_add_append, take_flatten cs k]

/-- a place is behind all earlier ones -/
def before (p q : Int × Int) : Prop := p.1 < q.1 ∨ p.1 = q.1 ∧ p.2 < q.2
theorem before_step (p : Int × Int) (c : List UInt8) : before p (step p c) := by
  unfold before step
  split
  · exact .inl (by simp; omega)
  · exact .inr ⟨rfl, by simp; omega⟩
theorem before.trans {p q r : Int × Int} (h : before p q) (k : before q r) : before p r := by unfold before at *; omega
theorem before_more : ∀ (cs : List (List UInt8)) (p : Int × Int), cs ≠ [] → before p (cs.foldl step p)
  | [c], p, _ => by simpa using before_step p c
  | c :: d :: cs, p, _ => (before_step p c).trans (by have := before_more (d :: cs) (step p c) (by simp); simpa using this)
theorem before_take (cs : List (List UInt8)) (j k : Nat) (hj : j < k) (hk : k ≤ cs.length) : before (place (cs.take j)) (place (cs.take k)) := by
  have e : cs.take k = cs.take j ++ (cs.drop j).take (k - j) := by
    have := List.take_append_drop j (cs.take k)
    rw [List.take_take, Nat.min_eq_left (by omega), List.drop_take] at this
    exact this.symm
  unfold place
  rw [e, List.foldl_append]
  refine before_more _ _ ?_
  intro h
  have := congrArg List.length h
  rw [List.length_take, List.length_drop, List.length_nil] at this
  omega

/-- what Position says of a text of characters -/
theorem pos_at (cs : List (List UInt8)) (hcs : ∀ c ∈ cs, Chr c) (o : Int) (h : (posOf cs.flatten o).2.1 = 0) : (posOf cs.flatten o).2 = (0, 0) ∧ (sfault cs.flatten).1 = 0 ∧ ∃ k, k ≤ cs.length ∧ o = (((cs.take k).flatten.length : Nat) : Int) ∧ (posOf cs.flatten o).1 = place (cs.take k) := by
  unfold posOf at h ⊢
  by_cases h1 : (sfault cs.flatten).1 ≠ 0
  · rw [if_pos h1] at h
    exact absurd h h1
  · rw [if_neg h1] at h ⊢
    by_cases h2 : o < 0 ∨ cs.flatten.length < o
    · rw [if_pos h2] at h
      simp at h
    · rw [if_neg h2] at h ⊢
      by_cases h3 : o < cs.flatten.length ∧ bAt cs.flatten o.toNat / 64 = 2
      · rw [if_pos h3] at h
        simp at h
      · rw [if_neg h3]
        obtain ⟨n, rfl⟩ := Int.eq_ofNat_of_zero_le (show 0 ≤ o by omega)
        rw [Int.toNat_natCast] at h3 ⊢
        obtain ⟨k, hk, e⟩ := start_chars cs n hcs (by omega) (fun hlt h4 => h3 ⟨by omega, h4⟩)
        refine ⟨rfl, by omega, k, hk, by rw [e], ?_⟩
        subst e
        rw [take_flatten]
        have := place_bytes (cs.take k) (fun c hc => hcs c (List.mem_of_mem_take hc))
        exact Prod.ext this.1 this.2
theorem pos_sf (l : List UInt8) (o : Int) (h : (posOf l o).2.1 = 0) : (sfault l).1 = 0 := by
  unfold posOf at h
  by_cases h1 : (sfault l).1 ≠ 0
  · rw [if_pos h1] at h
    exact absurd h h1
  · omega
theorem pos_code (l : List UInt8) (o : Int) : 0 ≤ (posOf l o).2.1 ∧ (posOf l o).2.1 ≤ 6 := by
  unfold posOf
  have := sfault_code l
  split
  · simp only; omega
  · split
    · simp
    · split <;> simp

/-- what Offset says of the place behind some characters -/
theorem off_place (cs : List (List UInt8)) (hcs : ∀ c ∈ cs, Chr c) (hz : (sfault cs.flatten).1 = 0) (k : Nat) (hk : k ≤ cs.length) :
    offOf cs.flatten (place (cs.take k)).1 (place (cs.take k)).2 = ((((cs.take k).flatten.length : Nat) : Int), (0, 0)) := by
  obtain ⟨q, x, t, c, h1, h2, h3, h4⟩ := place_split cs k hk
  have hp : place (cs.take k) = (1 + (q.length : Int), 1 + (c : Int)) := by
    unfold place
    rw [h3 1 1]
    split <;> rfl
  have hs : splitB 10 cs.flatten = q.map List.flatten ++ x.flatten :: t.map List.flatten := by rw [splitB_chars cs hcs, h1]; simp
  have hx : ∀ d ∈ x, Chr d := splitC_chars cs hcs x (by rw [h1]; simp)
  rw [hp]
  unfold offOf
  have hle : ((splitB 10 cs.flatten).length : Int) = q.length + 1 + t.length := by rw [hs]; simp; omega
  have e1 : (1 + (q.length : Int) - 1).toNat = q.length := by omega
  have e2 : (1 + (c : Int) - 1).toNat = c := by omega
  have e3 : (splitB 10 cs.flatten)[q.length]?.getD [] = x.flatten := by
    rw [hs, List.getElem?_append_right (by simp)]
    simp
  have e4 : (splitB 10 cs.flatten).take q.length = q.map List.flatten := by
    rw [hs, List.take_append_of_le_length (by simp), List.take_of_length_le (by simp)]
  rw [if_neg (by omega), if_neg (by rw [hle]; omega)]
  simp only [e1, e2, e3, e4]
  rw [rcl_chars x hx, if_neg (by omega), runeOff_chars c x hx]
  refine Prod.ext ?_ rfl
  simp only
  omega

end Go.Proofs.YtfocggdplahnbaaDoor
