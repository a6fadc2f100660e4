/- Plain words on the tokens of a scan: how many they are, and how long. Nothing is claimed here. -/
import Derived.Test.YtjoeojdciogcgaaDoorScanK
namespace Go.Proofs.YtjoeojdciogcgaaDoor
open Go.Lib

def Short (l : List UInt8) (ts : List Tok) : Prop := ∀ t ∈ ts, t.text.length ≤ l.length
theorem Short.app {l : List UInt8} {a b : List Tok} (ha : Short l a) (hb : Short l b) : Short l (a ++ b) := fun t ht => (List.mem_append.1 ht).elim (ha t) (hb t)
theorem Short.one {l : List UInt8} {k : Int} {t : List UInt8} {i : Nat} (h : t.length ≤ l.length) : Short l [tokAt l k t i] := fun x hx => by
  rw [List.mem_singleton.1 hx]
  exact h
theorem Short.map {l : List UInt8} {i : Nat} (ks : List Int) : Short l (ks.map fun k => tokAt l k [] i) := fun x hx => by
  obtain ⟨k, _, rfl⟩ := List.mem_map.1 hx
  exact Nat.zero_le _
theorem cut_le (l : List UInt8) (i n : Nat) : ((l.drop i).take n).length ≤ l.length := by
  rw [List.length_take, List.length_drop]
  omega
theorem take_short {l : List UInt8} {i : Nat} {s s' : Scn} (hs : Short l s.toks) (h : takeTok l i s = .more s') : Short l s'.toks := by
  unfold takeTok at h
  split at h
  · simp at h
  · split at h
    · split at h
      · simp at h
      · injection h with h
        subst h
        exact hs.app (.one (cut_le l i _))
    · injection h with h
      subst h
      exact hs.app (.one (cut_le l i _))
theorem step_short {l : List UInt8} {s s' : Scn} (hs : Short l s.toks) (h : stepS l s = .more s') : Short l s'.toks := by
  unfold stepS stepB at h
  split at h
  · split at h <;> simp at h
  · split at h
    · split at h
      · injection h with h
        subst h
        exact hs.app (.one (Nat.zero_le _))
      · injection h with h
        subst h
        exact hs
    · split at h
      · split at h
        · simp at h
        · exact take_short (hs.app (Short.map _)) h
      · exact take_short hs h
theorem takeTok_nd {l : List UInt8} {i : Nat} {s : Scn} {t : List Tok} : takeTok l i s ≠ .done t := takeTok_done
theorem step_end {l : List UInt8} {s : Scn} {ts : List Tok} (hi : SInv l s) (hs : Short l s.toks) (h : stepS l s = .done ts) : ts.length ≤ 3 * l.length + 4 ∧ Short l ts := by
  have h1 := hi.le
  have h2 := hi.cnt
  unfold stepS stepB at h
  split at h
  · split at h
    · simp at h
    · injection h with h
      subst h
      unfold closing
      refine ⟨?_, ?_⟩
      · simp only [List.length_append, List.length_replicate, List.length_singleton]
        split <;> simp <;> omega
      · refine ((hs.app ?_).app ?_).app (.one (Nat.zero_le _))
        · split
          · intro t ht; simp at ht
          · exact .one (Nat.zero_le _)
        · intro t ht
          rw [(List.mem_replicate.1 ht).2]
          exact Nat.zero_le _
  · split at h
    · split at h <;> simp at h
    · split at h
      · split at h
        · simp at h
        · exact absurd h takeTok_nd
      · exact absurd h takeTok_nd
theorem scanF_bd {l : List UInt8} (hl : l.length ≤ 16000) : ∀ (f : Nat) (s : Scn) (ts : List Tok), SInv l s → Short l s.toks → scanF l f s = .ok ts → ts.length ≤ 3 * l.length + 4 ∧ Short l ts
  | 0, s, ts, _, _, h => by simp [scanF] at h
  | f + 1, s, ts, hi, hs, h => by
    unfold scanF at h
    cases hst : stepS l s with
    | done t =>
      rw [hst] at h
      injection h with h
      subst h
      exact step_end hi hs hst
    | fault c i =>
      rw [hst] at h
      simp at h
    | more s' =>
      rw [hst] at h
      exact scanF_bd hl f s' ts (step_inv hl hi hst).1 (step_short hs hst) h
theorem scanT_bd {l : List UInt8} {ts : List Tok} (h : scanT l = .ok ts) : l.length ≤ 16000 ∧ ts.length ≤ 50000 ∧ ∀ t ∈ ts, t.text.length ≤ 16000 := by
  unfold scanT at h
  split at h
  · simp at h
  · rename_i hz
    have hl := (chars_of l (by simpa using hz)).1
    obtain ⟨h1, h2⟩ := scanF_bd hl _ _ _ ⟨by simp, by simp, Nat.zero_le _, by simp, Nat.le_refl _⟩ (fun t ht => by simp at ht) h
    exact ⟨hl, by omega, fun t ht => Nat.le_trans (h2 t ht) hl⟩
end Go.Proofs.YtjoeojdciogcgaaDoor
