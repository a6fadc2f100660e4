/- Plain words on a scan: every token begins where a character begins; the beginning of a line found backwards. Nothing is claimed here. -/
import Derived.Test.YtjoeojdciogcgaaDoorScanK
namespace Go.Proofs.YtjoeojdciogcgaaDoor
open Go.Lib

def Short (l : List UInt8) (ts : List Tok) : Prop := ∀ t ∈ ts, t.text.length ≤ l.length
theorem Short.app {l : List UInt8} {a b : List Tok} (ha : Short l a) (hb : Short l b) : Short l (a ++ b) := fun t ht => (List.mem_append.1 ht).elim (ha t) (hb t)
theorem Short.one {l : List UInt8} {k : Int} {t : List UInt8} {i : Nat} (h : t.length ≤ l.length) : Short l [tokAt l k t i] := fun x hx => by
  rw [List.mem_singleton.1 hx]
  exact h
theorem Short.map {l : List UInt8} {i : Nat} (ks : List Int) : Short l (ks.map fun k => tokAt l k [] i) := fun x hx => by
  obtain ⟨k, _, rfl⟩ := List.mem_map.1 hx
  exact Nat.zero_le _
theorem cut_le (l : List UInt8) (i n : Nat) : ((l.drop i).take n).length ≤ l.length := by
  rw [List.length_take, List.length_drop]
  omega
theorem take_short {l : List UInt8} {i : Nat} {s s' : Scn} (hs : Short l s.toks) (h : takeTok l i s = .more s') : Short l s'.toks := by
  unfold takeTok at h
  split at h
  · simp at h
  · split at h
    · split at h
      · simp at h
      · injection h with h
        subst h
        exact hs.app (.one (cut_le l i _))
    · injection h with h
      subst h
      exact hs.app (.one (cut_le l i _))
theorem step_short {l : List UInt8} {s s' : Scn} (hs : Short l s.toks) (h : stepS l s = .more s') : Short l s'.toks := by
  unfold stepS stepB at h
  split at h
  · split at h <;> simp at h
  · split at h
    · split at h
      · injection h with h
        subst h
        exact hs.app (.one (Nat.zero_le _))
      · injection h with h
        subst h
        exact hs
    · split at h
      · split at h
        · simp at h
        · exact take_short (hs.app (Short.map _)) h
      · exact take_short hs h
theorem takeTok_nd {l : List UInt8} {i : Nat} {s : Scn} {t : List Tok} : takeTok l i s ≠ .done t := takeTok_done
theorem step_end {l : List UInt8} {s : Scn} {ts : List Tok} (hi : SInv l s) (hs : Short l s.toks) (h : stepS l s = .done ts) : ts.length ≤ 3 * l.length + 4 ∧ Short l ts := by
  have h1 := hi.le
  have h2 := hi.cnt
  unfold stepS stepB at h
  split at h
  · split at h
    · simp at h
    · injection h with h
      subst h
      unfold closing
      refine ⟨?_, ?_⟩
      · simp only [List.length_append, List.length_replicate, List.length_singleton]
        split <;> simp <;> omega
      · refine ((hs.app ?_).app ?_).app (.one (Nat.zero_le _))
        · split
          · intro t ht; simp at ht
          · exact .one (Nat.zero_le _)
        · intro t ht
          rw [(List.mem_replicate.1 ht).2]
          exact Nat.zero_le _
  · split at h
    · split at h <;> simp at h
    · split at h
      · split at h
        · simp at h
        · exact absurd h takeTok_nd
      · exact absurd h takeTok_nd
theorem scanF_bd {l : List UInt8} (hl : l.length ≤ 16000) : ∀ (f : Nat) (s : Scn) (ts : List Tok), SInv l s → Short l s.toks → scanF l f s = .ok ts → ts.length ≤ 3 * l.length + 4 ∧ Short l ts
  | 0, s, ts, _, _, h => by simp [scanF] at h
  | f + 1, s, ts, hi, hs, h => by
    unfold scanF at h
    cases hst : stepS l s with
    | done t =>
      rw [hst] at h
      injection h with h
      subst h
      exact step_end hi hs hst
    | fault c i =>
      rw [hst] at h
      simp at h
    | more s' =>
      rw [hst] at h
      exact scanF_bd hl f s' ts (step_inv hl hi hst).1 (step_short hs hst) h
theorem scanT_bd {l : List UInt8} {ts : List Tok} (h : scanT l = .ok ts) : l.length ≤ 16000 ∧ ts.length ≤ 50000 ∧ ∀ t ∈ ts, t.text.length ≤ 16000 := by
  unfold scanT at h
  split at h
  · simp at h
  · rename_i hz
    have hl := (chars_of l (by simpa using hz)).1
    obtain ⟨h1, h2⟩ := scanF_bd hl _ _ _ ⟨by simp, by simp, Nat.zero_le _, by simp, Nat.le_refl _⟩ (fun t ht => by simp at ht) h
    exact ⟨hl, by omega, fun t ht => Nat.le_trans (h2 t ht) hl⟩
end Go.Proofs.YtjoeojdciogcgaaDoor

namespace Go.Proofs.YtjoeojdciogcgaaDoor
open Go.Lib

theorem strEnd_err (q : List UInt8) (raw : Bool) : ∀ (r : List UInt8) (esc : Bool) (k : Nat) (c : Int) (i : Nat), strEnd q raw r esc k = .error (c, i) → c ≠ 0
  | [], esc, k, c, i, h => by
    unfold strEnd at h
    injection h with h
    injection h with h1 _
    omega
  | x :: r, esc, k, c, i, h => by
    unfold strEnd at h
    split at h
    · exact strEnd_err q raw r _ _ c i h
    · split at h
      · simp at h
      · split at h
        · injection h with h
          injection h with h1 _
          omega
        · exact strEnd_err q raw r _ _ c i h
theorem numTail_err {r : List UInt8} {n : Nat} {c : Int} {i : Nat} (h : numTail r n = .error (c, i)) : c ≠ 0 := by
  unfold numTail at h
  split at h
  · injection h with h
    injection h with h1 _
    omega
  · split at h
    · injection h with h
      injection h with h1 _
      omega
    · simp at h
theorem lexStr_err {p : Nat} {r : List UInt8} {c : Int} {i : Nat} (h : lexStr p r = .error (c, i)) : c ≠ 0 := by
  unfold lexStr at h
  split at h
  · rename_i e he
    injection h with h
    subst h
    exact strEnd_err _ _ _ _ _ _ _ he
  · simp at h
theorem lexTok_err {r : List UInt8} {c : Int} {i : Nat} (h : lexTok r = .error (c, i)) : c ≠ 0 := by
  unfold lexTok at h
  split at h
  · exact lexStr_err h
  · split at h
    · exact lexStr_err h
    · split at h
      · unfold lexName at h
        split at h
        · injection h with h
          injection h with h1 _
          omega
        · simp at h
      · split at h
        · unfold lexNum at h
          split at h
          · split at h
            · injection h with h
              injection h with h1 _
              omega
            · exact numTail_err h
          · exact numTail_err h
        · unfold lexSign at h
          split at h
          · injection h with h
            injection h with h1 _
            omega
          · simp at h
theorem take_fault {l : List UInt8} {i : Nat} {s : Scn} {c : Int} {j : Nat} (h : takeTok l i s = .fault c j) : c ≠ 0 := by
  unfold takeTok at h
  split at h
  · rename_i he
    injection h with h1 _
    rw [← h1]
    exact lexTok_err he
  · split at h
    · split at h
      · injection h with h1 _
        omega
      · simp at h
    · simp at h
theorem step_fault {l : List UInt8} {s : Scn} {c : Int} {j : Nat} (h : stepS l s = .fault c j) : c ≠ 0 := by
  unfold stepS stepB at h
  split at h
  · split at h
    · injection h with h1 _
      omega
    · simp at h
  · split at h
    · split at h <;> simp at h
    · split at h
      · split at h
        · injection h with h1 _
          omega
        · exact take_fault h
      · exact take_fault h
theorem scanF_err {l : List UInt8} (hl : l.length ≤ 16000) : ∀ (f : Nat) (s : Scn) (c i : Int), SInv l s → l.length < f + s.at_ → scanF l f s = .error (c, i) → c ≠ 0
  | 0, s, c, i, hi, hf, h => by have := hi.le; omega
  | f + 1, s, c, i, hi, hf, h => by
    unfold scanF at h
    cases hst : stepS l s with
    | done t => rw [hst] at h; simp at h
    | fault c' i' =>
      rw [hst] at h
      injection h with h
      injection h with h1 _
      rw [← h1]
      exact step_fault hst
    | more s' =>
      rw [hst] at h
      obtain ⟨h1, h2⟩ := step_inv hl hi hst
      exact scanF_err hl f s' c i h1 (by omega) h
theorem scanT_err {l : List UInt8} {c i : Int} (h : scanT l = .error (c, i)) : c ≠ 0 := by
  unfold scanT at h
  split at h
  · rename_i hz
    injection h with h
    rw [h] at hz
    exact hz
  · rename_i hz
    have hl := (chars_of l (by simpa using hz)).1
    exact scanF_err hl _ _ _ _ ⟨by simp, by simp, Nat.zero_le _, by simp, Nat.le_refl _⟩ (by show _ < _ + 1 + 0; omega) h
end Go.Proofs.YtjoeojdciogcgaaDoor

namespace Go.Proofs.YtjoeojdciogcgaaDoor
open Go.Lib

/-- an offset at which a character begins, or the end -/
def Beg (cs : List (List UInt8)) (i : Nat) : Prop := ∃ j, j ≤ cs.length ∧ (cs.take j).flatten.length = i
theorem beg_zero (cs : List (List UInt8)) : Beg cs 0 := ⟨0, Nat.zero_le _, by simp⟩
theorem beg_end (cs : List (List UInt8)) : Beg cs cs.flatten.length := ⟨cs.length, Nat.le_refl _, by simp⟩
theorem beg_le {cs : List (List UInt8)} {i : Nat} (h : Beg cs i) : i ≤ cs.flatten.length := by
  obtain ⟨j, _, rfl⟩ := h
  have := congrArg List.length (take_flatten cs j)
  rw [List.length_take] at this
  omega
theorem beg_ascii {cs : List (List UInt8)} (h : ∀ c ∈ cs, Chr c) {i : Nat} (hi : i < cs.flatten.length) (hx : (at0 cs.flatten i).toNat < 128) : Beg cs i ∧ Beg cs (i + 1) := by
  have hb : bAt cs.flatten i = (at0 cs.flatten i).toNat := rfl
  obtain ⟨k, hk, hik⟩ := start_chars cs i h (by omega) (fun _ => by rw [hb]; omega)
  refine ⟨⟨k, hk, hik.symm⟩, ?_⟩
  rcases Nat.lt_or_ge k cs.length with hlt | hge
  · refine ⟨k + 1, hlt, ?_⟩
    have htk : cs.take (k + 1) = cs.take k ++ [cs[k]] := by rw [List.take_succ_eq_append_getElem hlt]
    have hfl : cs.flatten = (cs.take k).flatten ++ (cs[k] ++ (cs.drop (k + 1)).flatten) := by
      conv => lhs; rw [← List.take_append_drop k cs, List.flatten_append, List.drop_eq_getElem_cons hlt, List.flatten_cons]
    have hc := h cs[k] (List.getElem_mem hlt)
    have h1 : cs[k].length = 1 := by
      rcases hc.shape with ⟨x, e⟩ | hall
      · rw [e]; rfl
      · exfalso
        have h0 := hall 0 hc.pos
        have e : at0 cs.flatten i = at0 cs[k] 0 := by
          rw [hfl, hik]
          exact (at0_right (cs.take k).flatten (cs[k] ++ (cs.drop (k + 1)).flatten) 0).trans (at0_left _ _ _ hc.pos)
        rw [e] at hx
        have : bAt cs[k] 0 = (at0 cs[k] 0).toNat := rfl
        omega
    rw [htk, List.flatten_append, List.length_append, ← hik]
    simp [h1]
  · exfalso
    rw [List.take_of_length_le hge] at hik
    omega
theorem beg_skip {cs : List (List UInt8)} (h : ∀ c ∈ cs, Chr c) {i : Nat} (hi : Beg cs i) : Beg cs (i + skipLen (cs.flatten.drop i)) := by
  have hle := beg_le hi
  obtain ⟨l, hl⟩ : ∃ l, cs.flatten = l := ⟨_, rfl⟩
  rw [hl] at hle ⊢
  have hsk := skip_le l i hle
  unfold skipLen at hsk ⊢
  obtain ⟨b, hb⟩ : ∃ b, span isBlk (l.drop i) = b := ⟨_, rfl⟩
  obtain ⟨s1, s2⟩ := span_spec isBlk (l.drop i)
  rw [hb] at hsk s1 s2 ⊢
  split at hsk
  · rename_i h35
    rw [if_pos h35]
    obtain ⟨m, hm⟩ : ∃ m, span inLn ((l.drop i).drop b) = m := ⟨_, rfl⟩
    obtain ⟨_, t2⟩ := span_spec inLn ((l.drop i).drop b)
    rw [hm] at hsk t2 ⊢
    rcases Nat.lt_or_ge (i + (b + m)) l.length with hlt | hge
    · have := t2 (by rw [List.length_drop, List.length_drop]; omega)
      rw [at0_drop, at0_drop] at this
      have h10 : at0 l (i + (b + m)) = 10 := by simpa [inLn] using this
      refine (beg_ascii h (i := i + (b + m)) (by rw [hl]; exact hlt) ?_).1
      rw [hl, h10]
      decide
    · rw [show i + (b + m) = cs.flatten.length by rw [hl]; omega]
      exact beg_end cs
  · rename_i h35
    rw [if_neg h35]
    cases b with
    | zero => exact hi
    | succ b =>
      have := s1 b (by omega)
      rw [at0_drop] at this
      have h32 : at0 l (i + b) = 32 := by simpa [isBlk] using this
      refine (beg_ascii h (i := i + b) (by rw [hl]; omega) ?_).2
      rw [hl, h32]
      decide
theorem beg_tok {cs : List (List UInt8)} (h : ∀ c ∈ cs, Chr c) {i n : Nat} (hi : i ≤ cs.flatten.length) {k : Int} (hk : lexTok (cs.flatten.drop i) = .ok (k, n)) : Beg cs (i + n) := by
  obtain ⟨h1, h2, _, h4⟩ := (lex_again _ _ _ hk).2.1
  rw [List.length_drop] at h2
  rw [at0_drop] at h4
  have := (beg_ascii h (i := i + (n - 1)) (by omega) h4).2
  rwa [show i + (n - 1) + 1 = i + n by omega] at this
/-- a step leads from a beginning to a beginning -/
theorem beg_step {cs : List (List UInt8)} (h : ∀ c ∈ cs, Chr c) {s s' : Scn} (hi : Beg cs s.at_) (hs : stepS cs.flatten s = .more s') : Beg cs s'.at_ := by
  have hb := beg_skip h hi
  have hle := beg_le hb
  rw [step_at rfl] at hs
  obtain ⟨i, hi⟩ : ∃ i, s.at_ + skipLen (cs.flatten.drop s.at_) = i := ⟨_, rfl⟩
  rw [hi] at hs hb hle
  have htk : ∀ s1, takeTok cs.flatten i s1 = .more s' → Beg cs s'.at_ := by
    intro s1 ht
    unfold takeTok at ht
    split at ht
    · simp at ht
    · rename_i k n hk
      have := beg_tok h hle hk
      split at ht
      · split at ht
        · simp at ht
        · injection ht with ht
          subst ht
          exact this
      · injection ht with ht
        subst ht
        exact this
  unfold stepB at hs
  split at hs
  · split at hs <;> simp at hs
  · rename_i hlt
    split at hs
    · rename_i h10
      have := (beg_ascii h (i := i) (by omega) (by rw [h10]; decide)).2
      split at hs
      · injection hs with hs
        subst hs
        exact this
      · injection hs with hs
        subst hs
        exact this
    · split at hs
      · split at hs
        · simp at hs
        · exact htk _ hs
      · exact htk _ hs

/-- behind the last line feed a line begins -/
theorem bol_found (l : List UInt8) (k i : Nat) (hk : k < i) (hi : i ≤ l.length) (h10 : at0 l k = 10) (hno : ∀ j, k < j → j < i → at0 l j ≠ 10) : bol l i = k + 1 := by
  have h1 := bol_nl l k (by omega) h10
  have h2 := (same_line l (k + 1) (i - (k + 1)) (by omega) (fun j hj => hno _ (by omega) (by omega))).2
  rw [show k + 1 + (i - (k + 1)) = i by omega, h1] at h2
  exact h2
theorem bol_kept (l : List UInt8) (a i : Nat) (ha : a ≤ i) (hi : i ≤ l.length) (hno : ∀ j, bol l a ≤ j → j < i → at0 l j ≠ 10) : bol l i = bol l a := by
  have hb := bol_le l a
  have h2 := (same_line l a (i - a) (by omega) (fun j hj => hno _ (by omega) (by omega))).2
  rw [show a + (i - a) = i by omega] at h2
  exact h2
/-- blanks and a comment stay in the line -/
theorem bol_skip (l : List UInt8) (a : Nat) (ha : a ≤ l.length) : bol l (a + skipLen (l.drop a)) = bol l a := by
  have hsk := skip_le l a ha
  unfold skipLen at hsk ⊢
  have h1 := (span_line isBlk (by decide) l a _ ha (Nat.le_refl _)).2
  obtain ⟨b, hb⟩ : ∃ b, span isBlk (l.drop a) = b := ⟨_, rfl⟩
  rw [hb] at hsk h1 ⊢
  split at hsk
  · rename_i h35
    rw [if_pos h35, List.drop_drop] at *
    have h2 := (span_line inLn (by decide) l (a + b) _ (by omega) (Nat.le_refl _)).2
    rw [← Nat.add_assoc, h2, h1]
  · rename_i h35
    rw [if_neg h35, h1]

end Go.Proofs.YtjoeojdciogcgaaDoor
