/- The scanner's function scan: plain words on its steps. Nothing is claimed here. -/
import Derived.Test.YtjoeojdciogcgaaDoorTokE
namespace Go.Proofs.YtjoeojdciogcgaaDoor
open Go.Lib

/-- what holds between the steps of a scan -/
structure SInv (l : List UInt8) (s : Scn) : Prop where
  ne : s.ind ≠ []
  bd : ∀ y ∈ s.ind, y ≤ 16000
  le : s.at_ ≤ l.length
  cnt : s.ind.length + s.toks.length ≤ 3 * s.at_ + 1
  opn : s.op.length ≤ s.at_

theorem dedent_mem (n : Nat) : ∀ ind : List Nat, ∀ y ∈ (dedent n ind).1, y ∈ ind
  | [], y, h => by simp [dedent] at h
  | x :: l, y, h => by
    unfold dedent at h
    split at h
    · exact List.mem_cons_of_mem _ (dedent_mem n l y h)
    · exact h
theorem indent_inv {n : Nat} {ind ind' : List Nat} {ks : List Int} (h : indent n ind = some (ind', ks)) (hne : ind ≠ []) (hb : ∀ y ∈ ind, y ≤ 16000) (hn : n ≤ 16000) :
    ind' ≠ [] ∧ (∀ y ∈ ind', y ≤ 16000) ∧ ind'.length + ks.length ≤ ind.length + 2 := by
  unfold indent at h
  split at h
  · injection h with h
    injection h with h1 h2
    subst h1 h2
    refine ⟨by simp, fun y hy => ?_, by simp⟩
    rcases List.mem_cons.1 hy with h | h
    · omega
    · exact hb y h
  · split at h
    · rename_i hc
      injection h with h
      injection h with h1 h2
      subst h1 h2
      obtain ⟨f1, f2, f3, f4⟩ := dedent_facts n ind
      have hm : n ∈ ind := by simpa using hc
      exact ⟨f4 hm, fun y hy => hb y (dedent_mem n ind y hy), by rw [List.length_replicate]; omega⟩
    · simp at h
theorem bracket_len {op op' t : List UInt8} (h : bracket op t = some op') : op'.length ≤ op.length + 1 := by
  unfold bracket at h
  split at h
  · injection h with h
    subst h
    simp
  · split at h
    · split at h
      · injection h with h
        subst h
        simp
        omega
      · simp at h
    · split at h
      · split at h
        · injection h with h
          subst h
          simp
          omega
        · simp at h
      · split at h
        · split at h
          · injection h with h
            subst h
            simp
            omega
          · simp at h
        · injection h with h
          subst h
          omega
theorem lex_len {r : List UInt8} {k : Int} {n : Nat} (h : lexTok r = .ok (k, n)) : 0 < n ∧ n ≤ r.length := ⟨(lex_again r k n h).2.1.1, (lex_again r k n h).2.1.2.1⟩
theorem takeTok_inv {l : List UInt8} {i : Nat} {s s' : Scn} (hi : i ≤ l.length) (h : takeTok l i s = .more s') :
    i < s'.at_ ∧ s'.at_ ≤ l.length ∧ s'.ind = s.ind ∧ s'.toks.length = s.toks.length + 1 ∧ s'.op.length ≤ s.op.length + 1 := by
  unfold takeTok at h
  split at h
  · simp at h
  · rename_i k n hl
    have hn := lex_len hl
    rw [List.length_drop] at hn
    split at h
    · split at h
      · simp at h
      · rename_i op hop
        injection h with h
        subst h
        exact ⟨by show i < i + n; omega, by show i + n ≤ _; omega, rfl, by simp, bracket_len hop⟩
    · injection h with h
      subst h
      exact ⟨by show i < i + n; omega, by show i + n ≤ _; omega, rfl, by simp, by show s.op.length ≤ _; omega⟩
theorem skip_le (l : List UInt8) (i : Nat) (h : i ≤ l.length) : i + skipLen (l.drop i) ≤ l.length := by
  have := (skip_spec (l.drop i)).1
  rw [List.length_drop] at this
  omega
theorem step_inv {l : List UInt8} (hl : l.length ≤ 16000) {s s' : Scn} (hs : SInv l s) (h : stepS l s = .more s') : SInv l s' ∧ s.at_ < s'.at_ := by
  unfold stepS at h
  have hle := skip_le l s.at_ hs.le
  obtain ⟨i, hi⟩ : ∃ i, s.at_ + skipLen (l.drop s.at_) = i := ⟨_, rfl⟩
  rw [hi] at h hle
  have h1 := hs.le
  have h2 := hs.cnt
  have h3 := hs.opn
  have hai : s.at_ ≤ i := by omega
  unfold stepB at h
  split at h
  · split at h <;> simp at h
  · split at h
    · split at h
      · injection h with h
        subst h
        exact ⟨⟨hs.ne, hs.bd, by show i + 1 ≤ _; omega, by simp; omega, by show s.op.length ≤ i + 1; omega⟩, by show s.at_ < i + 1; omega⟩
      · injection h with h
        subst h
        exact ⟨⟨hs.ne, hs.bd, by show i + 1 ≤ _; omega, by show s.ind.length + s.toks.length ≤ 3 * (i + 1) + 1; omega, by show s.op.length ≤ i + 1; omega⟩, by show s.at_ < i + 1; omega⟩
    · split at h
      · split at h
        · simp at h
        · rename_i ind ks hin
          obtain ⟨t1, t2, t3, t4, t5⟩ := takeTok_inv hle h
          obtain ⟨g1, g2, g3⟩ := indent_inv hin hs.ne hs.bd (by have := width_le l i; omega)
          simp only [List.length_append, List.length_map] at t4
          have t5' : s'.op.length ≤ s.op.length + 1 := t5
          exact ⟨⟨by rw [t3]; exact g1, by rw [t3]; exact g2, t2, by rw [t3, t4]; show ind.length + _ ≤ _; omega, by omega⟩, by omega⟩
      · obtain ⟨t1, t2, t3, t4, t5⟩ := takeTok_inv hle h
        exact ⟨⟨by rw [t3]; exact hs.ne, by rw [t3]; exact hs.bd, t2, by rw [t3, t4]; omega, by omega⟩, by omega⟩
theorem scan_next {l : List UInt8} {f : Nat} {s s' : Scn} {R : Except (Int × Int) (List Tok)} (hs : s.at_ ≤ l.length) (hf : l.length < f + s.at_) (hR : scanF l f s = R) (h : stepS l s = .more s') (hlt : s.at_ < s'.at_) :
    ∃ f', l.length < f' + s'.at_ ∧ scanF l f' s' = R := by
  cases f with
  | zero => omega
  | succ f =>
    refine ⟨f, by omega, ?_⟩
    rw [← hR]
    exact (scanF_more h).symm
theorem scan_done {l : List UInt8} {f : Nat} {s : Scn} {t : List Tok} {R : Except (Int × Int) (List Tok)} (hs : s.at_ ≤ l.length) (hf : l.length < f + s.at_) (hR : scanF l f s = R) (h : stepS l s = .done t) : R = .ok t := by
  cases f with
  | zero => omega
  | succ f => rw [← hR]; exact scanF_done h
theorem scan_fault {l : List UInt8} {f : Nat} {s : Scn} {c : Int} {i : Nat} {R : Except (Int × Int) (List Tok)} (hs : s.at_ ≤ l.length) (hf : l.length < f + s.at_) (hR : scanF l f s = R) (h : stepS l s = .fault c i) : R = .error (c, (i : Int)) := by
  cases f with
  | zero => omega
  | succ f =>
    rw [← hR]
    simp only [scanF, h]
theorem take_err {l : List UInt8} {i : Nat} {s : Scn} {c : Int} {k : Nat} (h : lexTok (l.drop i) = .error (c, k)) : takeTok l i s = .fault c (i + k) := by
  unfold takeTok
  rw [h]
theorem take_ok {l : List UInt8} {i : Nat} {s : Scn} {k : Int} {n : Nat} (h : lexTok (l.drop i) = .ok (k, n)) (hk : k ≠ 8) : takeTok l i s = .more { s with at_ := i + n, toks := s.toks ++ [tokAt l k ((l.drop i).take n) i] } := by
  unfold takeTok
  rw [h]
  simp only [if_neg hk]
theorem take_bad {l : List UInt8} {i : Nat} {s : Scn} {n : Nat} (h : lexTok (l.drop i) = .ok (8, n)) (hb : bracket s.op ((l.drop i).take n) = none) : takeTok l i s = .fault 1 i := by
  unfold takeTok
  rw [h]
  simp only [if_pos, hb]
theorem take_sign {l : List UInt8} {i : Nat} {s : Scn} {n : Nat} {op : List UInt8} (h : lexTok (l.drop i) = .ok (8, n)) (hb : bracket s.op ((l.drop i).take n) = some op) : takeTok l i s = .more { s with at_ := i + n, op := op, toks := s.toks ++ [tokAt l 8 ((l.drop i).take n) i] } := by
  unfold takeTok
  rw [h]
  simp only [if_pos, hb]
theorem lexName_kind {r : List UInt8} {k : Int} {n : Nat} (h : lexName r = .ok (k, n)) : k ≠ 8 := by
  unfold lexName at h
  split at h
  · simp at h
  · injection h with h
    injection h with h1 _
    rw [← h1]
    split <;> decide
theorem numTail_kind {r : List UInt8} {k : Int} {n m : Nat} (h : numTail r m = .ok (k, n)) : k ≠ 8 := by
  unfold numTail at h
  split at h
  · simp at h
  · split at h
    · simp at h
    · injection h with h
      injection h with h1 _
      rw [← h1]
      decide
theorem lexNum_kind {r : List UInt8} {k : Int} {n : Nat} (h : lexNum r = .ok (k, n)) : k ≠ 8 := by
  unfold lexNum at h
  split at h
  · split at h
    · simp at h
    · exact numTail_kind h
  · exact numTail_kind h
theorem lexStr_kind {r : List UInt8} {p : Nat} {k : Int} {n : Nat} (h : lexStr p r = .ok (k, n)) : k ≠ 8 := by
  unfold lexStr at h
  split at h
  · simp at h
  · injection h with h
    injection h with h1 _
    rw [← h1]
    decide

end Go.Proofs.YtjoeojdciogcgaaDoor
