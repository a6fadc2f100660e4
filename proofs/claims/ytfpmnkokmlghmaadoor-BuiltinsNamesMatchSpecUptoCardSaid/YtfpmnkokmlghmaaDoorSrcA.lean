/- Plain words on texts of valid characters: how a text parts into characters, and where the first wrong one stands. Nothing is claimed here. -/
import Derived.Lib.RuneCountTail
import Derived.Lib.MapLaws
import Derived.Lib.LastIndexByte
import Derived.Lib.Bytealg
namespace Go.Proofs.YtfpmnkokmlghmaaDoor
open Go.Lib

def bAt (l : List UInt8) (i : Nat) : Nat := (l.getD i 0).toNat
theorem bAt_lt (l : List UInt8) (i : Nat) : bAt l i < 256 := (l.getD i 0).toNat_lt

theorem decodeL_eq (l : List UInt8) : decodeL l = decodeN l.length (bAt l 0) (bAt l 1) (bAt l 2) (bAt l 3) := by
  unfold decodeL
  rw [decode_at]
  simp only [← getD_get!', Nat.zero_add, Nat.sub_zero]
  rfl

/-- what a decoding can be -/
theorem decodeN_cases (n b0 b1 b2 b3 : Nat) :
    (b0 < 128 ∧ ∀ n' b1' b2' b3', decodeN n' b0 b1' b2' b3' = (b0, 1)) ∨ decodeN n b0 b1 b2 b3 = (65533, 1) ∨
    (2 ≤ n ∧ b0 / 64 = 3 ∧ b1 / 64 = 2 ∧ ∃ c, 128 ≤ c ∧ ∀ n' b2' b3', 2 ≤ n' → decodeN n' b0 b1 b2' b3' = (c, 2)) ∨
    (3 ≤ n ∧ b0 / 64 = 3 ∧ b1 / 64 = 2 ∧ b2 / 64 = 2 ∧ ∃ c, 128 ≤ c ∧ ∀ n' b3', 3 ≤ n' → decodeN n' b0 b1 b2 b3' = (c, 3)) ∨
    (4 ≤ n ∧ b0 / 64 = 3 ∧ b1 / 64 = 2 ∧ b2 / 64 = 2 ∧ b3 / 64 = 2 ∧ ∃ c, 128 ≤ c ∧ ∀ n', 4 ≤ n' → decodeN n' b0 b1 b2 b3 = (c, 4)) := by
  by_cases h0 : b0 < 128
  · exact .inl ⟨h0, fun _ _ _ _ => by unfold decodeN; rw [if_pos h0]⟩
  refine .inr ?_
  by_cases h2 : b0 / 32 = 6 ∧ (1 < n ∧ b1 / 64 = 2)
  · by_cases hc : b0 % 32 * 64 + b1 % 64 ≥ 128
    · refine .inr (.inl ⟨by omega, by omega, by omega, _, hc, fun n' b2' b3' hn => ?_⟩)
      unfold decodeN
      rw [if_neg h0, if_pos ⟨h2.1, by omega, h2.2.2⟩, if_pos hc]
    · refine .inl ?_
      unfold decodeN
      rw [if_neg h0, if_pos h2, if_neg hc]
  by_cases h3 : b0 / 16 = 14 ∧ (1 < n ∧ b1 / 64 = 2) ∧ (2 < n ∧ b2 / 64 = 2)
  · by_cases hc : b0 % 16 * 4096 + b1 % 64 * 64 + b2 % 64 ≥ 2048 ∧ (b0 % 16 * 4096 + b1 % 64 * 64 + b2 % 64 < 55296 ∨ (57344 ≤ b0 % 16 * 4096 + b1 % 64 * 64 + b2 % 64 ∧ b0 % 16 * 4096 + b1 % 64 * 64 + b2 % 64 ≤ 1114111))
    · refine .inr (.inr (.inl ⟨by omega, by omega, by omega, by omega, b0 % 16 * 4096 + b1 % 64 * 64 + b2 % 64, by omega, fun n' b3' hn => ?_⟩))
      unfold decodeN
      rw [if_neg h0, if_neg (by omega), if_pos ⟨h3.1, ⟨by omega, h3.2.1.2⟩, by omega, h3.2.2.2⟩, if_pos hc]
    · refine .inl ?_
      unfold decodeN
      rw [if_neg h0, if_neg h2, if_pos h3, if_neg hc]
  by_cases h4 : b0 / 8 = 30 ∧ (1 < n ∧ b1 / 64 = 2) ∧ (2 < n ∧ b2 / 64 = 2) ∧ (3 < n ∧ b3 / 64 = 2)
  · by_cases hc : b0 % 8 * 262144 + b1 % 64 * 4096 + b2 % 64 * 64 + b3 % 64 ≥ 65536 ∧ (b0 % 8 * 262144 + b1 % 64 * 4096 + b2 % 64 * 64 + b3 % 64 < 55296 ∨ (57344 ≤ b0 % 8 * 262144 + b1 % 64 * 4096 + b2 % 64 * 64 + b3 % 64 ∧ b0 % 8 * 262144 + b1 % 64 * 4096 + b2 % 64 * 64 + b3 % 64 ≤ 1114111))
    · refine .inr (.inr (.inr ⟨by omega, by omega, by omega, by omega, by omega, b0 % 8 * 262144 + b1 % 64 * 4096 + b2 % 64 * 64 + b3 % 64, by omega, fun n' hn => ?_⟩))
      unfold decodeN
      rw [if_neg h0, if_neg (by omega), if_neg (by omega), if_pos ⟨h4.1, ⟨by omega, h4.2.1.2⟩, ⟨by omega, h4.2.2.1.2⟩, by omega, h4.2.2.2.2⟩, if_pos hc]
    · refine .inl ?_
      unfold decodeN
      rw [if_neg h0, if_neg h2, if_neg h3, if_pos h4, if_neg hc]
  refine .inl ?_
  unfold decodeN
  rw [if_neg h0, if_neg h2, if_neg h3, if_neg h4]

/-- what begins there is no permitted character -/
def badL (l : List UInt8) : Bool := decide ((decodeL l).1 < 32) && (decodeL l).1 != 10 || (decodeL l).1 == 65533 && (decodeL l).2 == 1

/-- the bytes of one permitted character -/
structure Chr (c : List UInt8) : Prop where
  pos : 0 < c.length
  dec : ∀ t, decodeL (c ++ t) = ((decodeL c).1, c.length)
  ok : badL c = false
  head : bAt c 0 / 64 ≠ 2
  tail : ∀ j, 0 < j → j < c.length → bAt c j / 64 = 2
  one : (decodeL c).1 < 128 → c.length = 1

theorem chr_mk (c : List UInt8) (r : Nat) (hp : 0 < c.length) (h : ∀ t, decodeL (c ++ t) = (r, c.length)) (hb : ¬ (r < 32 ∧ r ≠ 10)) (h1 : ¬ (r = 65533 ∧ c.length = 1)) (h2 : bAt c 0 / 64 ≠ 2)
    (h3 : ∀ j, 0 < j → j < c.length → bAt c j / 64 = 2) (h4 : r < 128 → c.length = 1) : Chr c := by
  have h0 : decodeL c = (r, c.length) := by have := h []; rwa [List.append_nil] at this
  refine ⟨hp, fun t => by rw [h t, h0], ?_, h2, h3, by rw [h0]; exact h4⟩
  unfold badL
  rw [h0]
  simp only [Bool.or_eq_false_iff, Bool.and_eq_false_iff, decide_eq_false_iff_not, bne_eq_false_iff_eq, beq_eq_false_iff_ne, ne_eq]
  exact ⟨by omega, by omega⟩

theorem bAt_cons (x : UInt8) (l : List UInt8) (i : Nat) : bAt (x :: l) (i + 1) = bAt l i := by simp [bAt]
theorem bAt_zero (x : UInt8) (l : List UInt8) : bAt (x :: l) 0 = x.toNat := by simp [bAt]

/-- the first character of a text -/
theorem chr_of (l : List UInt8) (hne : l ≠ []) (hb : badL l = false) : Chr (l.take (decodeL l).2) ∧ (decodeL l).2 ≤ l.length ∧ (l.take (decodeL l).2).length = (decodeL l).2 ∧ (decodeL (l.take (decodeL l).2)).1 = (decodeL l).1 := by
  have hb' : ¬ ((decodeL l).1 < 32 ∧ (decodeL l).1 ≠ 10) ∧ ¬ ((decodeL l).1 = 65533 ∧ (decodeL l).2 = 1) := by
    unfold badL at hb
    simp only [Bool.or_eq_false_iff, Bool.and_eq_false_iff, decide_eq_false_iff_not, bne_eq_false_iff_eq, beq_eq_false_iff_ne, ne_eq] at hb
    exact ⟨by omega, by omega⟩
  have key : ∀ (k r : Nat), decodeL l = (r, k) → 0 < k → k ≤ l.length → (∀ t, decodeL (l.take k ++ t) = (r, k)) → bAt l 0 / 64 ≠ 2 → (∀ j, 0 < j → j < k → bAt l j / 64 = 2) → (r < 128 → k = 1) →
      Chr (l.take (decodeL l).2) ∧ (decodeL l).2 ≤ l.length ∧ (l.take (decodeL l).2).length = (decodeL l).2 ∧ (decodeL (l.take (decodeL l).2)).1 = (decodeL l).1 := by
    intro k r h0 hk hkl hd hh ht h1
    rw [h0] at hb' ⊢
    have hlen : (l.take k).length = k := by rw [List.length_take]; omega
    have hat : ∀ j, j < k → bAt (l.take k) j = bAt l j := fun j hj => by simp [bAt, hj]
    refine ⟨chr_mk (l.take k) r (by omega) (fun t => by rw [hd t, hlen]) hb'.1 (by rw [hlen]; exact hb'.2) (by rw [hat 0 hk]; exact hh) (fun j h1 h2 => by rw [hat j (by omega)]; exact ht j h1 (by omega)) (by rw [hlen]; exact h1), hkl, hlen, ?_⟩
    have := hd []
    rw [List.append_nil] at this
    rw [this]
  have hpos : 0 < l.length := List.length_pos_iff.2 hne
  rcases decodeN_cases l.length (bAt l 0) (bAt l 1) (bAt l 2) (bAt l 3) with ⟨h0, h⟩ | h | ⟨hn, h0, h1, c, hc, h⟩ | ⟨hn, h0, h1, h2, c, hc, h⟩ | ⟨hn, h0, h1, h2, h3, c, hc, h⟩
  · refine key 1 (bAt l 0) (by rw [decodeL_eq]; exact h _ _ _ _) (by omega) (by omega) (fun t => ?_) (by omega) (fun j _ _ => by omega) (fun _ => rfl)
    obtain ⟨x, m, rfl⟩ := List.exists_cons_of_ne_nil hne
    rw [decodeL_eq]
    simp only [List.take_succ_cons, List.take_zero, List.cons_append, List.nil_append, bAt_zero] at h ⊢
    exact h _ _ _ _
  · rw [decodeL_eq, h] at hb'
    exact absurd ⟨rfl, rfl⟩ hb'.2
  · refine key 2 c (by rw [decodeL_eq]; exact h _ _ _ hn) (by omega) (by omega) (fun t => ?_) (by omega) (fun j _ _ => by rw [show j = 1 by omega]; exact h1) (fun _ => by omega)
    match l, hn with
    | x :: y :: m, _ =>
      have := h (x :: y :: t).length (bAt (x :: y :: t) 2) (bAt (x :: y :: t) 3) (by simp)
      rw [decodeL_eq]
      exact this
  · refine key 3 c (by rw [decodeL_eq]; exact h _ _ hn) (by omega) (by omega) (fun t => ?_) (by omega) (fun j _ _ => by rcases (show j = 1 ∨ j = 2 by omega) with rfl | rfl; exact h1; exact h2) (fun _ => by omega)
    match l, hn with
    | x :: y :: z :: m, _ =>
      have := h (x :: y :: z :: t).length (bAt (x :: y :: z :: t) 3) (by simp)
      rw [decodeL_eq]
      exact this
  · refine key 4 c (by rw [decodeL_eq]; exact h _ hn) (by omega) (by omega) (fun t => ?_) (by omega) (fun j _ _ => by rcases (show j = 1 ∨ j = 2 ∨ j = 3 by omega) with rfl | rfl | rfl; exact h1; exact h2; exact h3) (fun _ => by omega)
    match l, hn with
    | x :: y :: z :: u :: m, _ =>
      have := h (x :: y :: z :: u :: t).length (by simp)
      rw [decodeL_eq]
      exact this

/-- the place of the first wrong character -/
def badAt : Nat → List UInt8 → Nat → Option Nat
  | 0, _, _ => none
  | f + 1, l, p => if l = [] then none else if badL l then some p else badAt f (l.drop (decodeL l).2) (p + (decodeL l).2)

/-- the fault of a source: its code and its index -/
def sfault (l : List UInt8) : Int × Int := if 16000 < l.length then (3, -1) else match badAt l.length l 0 with
  | none => (0, 0)
  | some p => (1, p)

theorem width_pos (l : List UInt8) (hne : l ≠ []) : 1 ≤ (decodeL l).2 := by
  have := decode_width_pos ⟨l.toArray⟩ 0 (by have := List.length_pos_iff.2 hne; simpa [ByteArray.size] using this)
  exact this

/-- a text is characters to its end, or to the first wrong one -/
theorem parts_of : ∀ (f : Nat) (l : List UInt8) (p : Nat), l.length ≤ f →
    (badAt f l p = none ∧ ∃ cs : List (List UInt8), l = cs.flatten ∧ ∀ c ∈ cs, Chr c) ∨
    (∃ (cs : List (List UInt8)) (r : List UInt8), badAt f l p = some (p + cs.flatten.length) ∧ l = cs.flatten ++ r ∧ (∀ c ∈ cs, Chr c) ∧ r ≠ [] ∧ badL r = true)
  | 0, l, p, h => by
    have : l = [] := List.eq_nil_of_length_eq_zero (by omega)
    subst this
    exact .inl ⟨rfl, [], rfl, by simp⟩
  | f + 1, l, p, h => by
    by_cases hne : l = []
    · subst hne
      exact .inl ⟨by simp [badAt], [], rfl, by simp⟩
    · by_cases hb : badL l = true
      · exact .inr ⟨[], l, by simp [badAt, hne, hb], rfl, by simp, hne, hb⟩
      · have hb' : badL l = false := by simpa using hb
        obtain ⟨hc, hle, hlen, _⟩ := chr_of l hne hb'
        have hw := width_pos l hne
        have e : badAt (f + 1) l p = badAt f (l.drop (decodeL l).2) (p + (decodeL l).2) := by
          conv => lhs; unfold badAt
          rw [if_neg hne, if_neg hb]
        rw [e]
        rcases parts_of f (l.drop (decodeL l).2) (p + (decodeL l).2) (by rw [List.length_drop]; omega) with ⟨h1, cs, h2, h3⟩ | ⟨cs, r, h1, h2, h3, h4, h5⟩
        · refine .inl ⟨h1, l.take (decodeL l).2 :: cs, ?_, ?_⟩
          · rw [List.flatten_cons, ← h2, List.take_append_drop]
          · intro c hcm
            rcases List.mem_cons.1 hcm with rfl | hcm
            · exact hc
            · exact h3 c hcm
        · refine .inr ⟨l.take (decodeL l).2 :: cs, r, ?_, ?_, ?_, h4, h5⟩
          · rw [h1, List.flatten_cons, List.length_append, hlen, Nat.add_assoc]
          · rw [List.flatten_cons, List.append_assoc, ← h2, List.take_append_drop]
          · intro c hcm
            rcases List.mem_cons.1 hcm with rfl | hcm
            · exact hc
            · exact h3 c hcm

/-- a text without fault is characters -/
theorem chars_of (l : List UInt8) (h : (sfault l).1 = 0) : l.length ≤ 16000 ∧ ∃ cs : List (List UInt8), l = cs.flatten ∧ ∀ c ∈ cs, Chr c := by
  unfold sfault at h
  split at h
  · simp at h
  · refine ⟨by omega, ?_⟩
    rcases parts_of l.length l 0 (Nat.le_refl _) with ⟨_, h2⟩ | ⟨cs, r, h1, _⟩
    · exact h2
    · rw [h1] at h
      simp at h

theorem badAt_chars : ∀ (f : Nat) (cs : List (List UInt8)) (p : Nat), (∀ c ∈ cs, Chr c) → badAt f cs.flatten p = none
  | 0, _, _, _ => rfl
  | f + 1, [], _, _ => by simp [badAt]
  | f + 1, c :: cs, p, h => by
    have hc := h c (List.mem_cons_self ..)
    have hd := hc.dec cs.flatten
    have hb : badL (c ++ cs.flatten) = false := by
      have h1 := hc.ok
      have h2 := hc.dec []
      rw [List.append_nil] at h2
      unfold badL at h1 ⊢
      rw [hd, ← h2]
      exact h1
    unfold badAt
    rw [List.flatten_cons, if_neg (by intro e; have h1 := congrArg List.length e; have h2 := hc.pos; rw [List.length_append, List.length_nil] at h1; omega), if_neg (by rw [hb]; simp), hd]
    simp only [List.drop_left']
    exact badAt_chars f cs _ (fun x hx => h x (List.mem_cons_of_mem _ hx))
theorem sfault_chars (cs : List (List UInt8)) (h : ∀ c ∈ cs, Chr c) (hl : cs.flatten.length ≤ 16000) : sfault cs.flatten = (0, 0) := by
  unfold sfault
  rw [if_neg (by omega), badAt_chars _ cs 0 h]
theorem sfault_code (l : List UInt8) : (sfault l).1 = 0 ∨ (sfault l).1 = 1 ∨ (sfault l).1 = 3 := by
  unfold sfault
  split
  · simp
  · split <;> simp
theorem sfault_zero (l : List UInt8) (h : (sfault l).1 = 0) : sfault l = (0, 0) := by
  obtain ⟨h1, cs, rfl, h2⟩ := chars_of l h
  exact sfault_chars cs h2 h1

end Go.Proofs.YtfpmnkokmlghmaaDoor
