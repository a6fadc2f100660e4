/- Plain words on the faults of a scan: none has the code 0. Nothing is claimed here. -/
import Derived.Test.YtjoeojdciogcgaaDoorTokF
namespace Go.Proofs.YtjoeojdciogcgaaDoor
open Go.Lib

theorem strEnd_err (q : List UInt8) (raw : Bool) : ∀ (r : List UInt8) (esc : Bool) (k : Nat) (c : Int) (i : Nat), strEnd q raw r esc k = .error (c, i) → c ≠ 0
  | [], esc, k, c, i, h => by
    unfold strEnd at h
    injection h with h
    injection h with h1 _
    omega
  | x :: r, esc, k, c, i, h => by
    unfold strEnd at h
    split at h
    · exact strEnd_err q raw r _ _ c i h
    · split at h
      · simp at h
      · split at h
        · injection h with h
          injection h with h1 _
          omega
        · exact strEnd_err q raw r _ _ c i h
theorem numTail_err {r : List UInt8} {n : Nat} {c : Int} {i : Nat} (h : numTail r n = .error (c, i)) : c ≠ 0 := by
  unfold numTail at h
  split at h
  · injection h with h
    injection h with h1 _
    omega
  · split at h
    · injection h with h
      injection h with h1 _
      omega
    · simp at h
theorem lexStr_err {p : Nat} {r : List UInt8} {c : Int} {i : Nat} (h : lexStr p r = .error (c, i)) : c ≠ 0 := by
  unfold lexStr at h
  split at h
  · rename_i e he
    injection h with h
    subst h
    exact strEnd_err _ _ _ _ _ _ _ he
  · simp at h
theorem lexTok_err {r : List UInt8} {c : Int} {i : Nat} (h : lexTok r = .error (c, i)) : c ≠ 0 := by
  unfold lexTok at h
  split at h
  · exact lexStr_err h
  · split at h
    · exact lexStr_err h
    · split at h
      · unfold lexName at h
        split at h
        · injection h with h
          injection h with h1 _
          omega
        · simp at h
      · split at h
        · unfold lexNum at h
          split at h
          · split at h
            · injection h with h
              injection h with h1 _
              omega
            · exact numTail_err h
          · exact numTail_err h
        · unfold lexSign at h
          split at h
          · injection h with h
            injection h with h1 _
            omega
          · simp at h
theorem take_fault {l : List UInt8} {i : Nat} {s : Scn} {c : Int} {j : Nat} (h : takeTok l i s = .fault c j) : c ≠ 0 := by
  unfold takeTok at h
  split at h
  · rename_i he
    injection h with h1 _
    rw [← h1]
    exact lexTok_err he
  · split at h
    · split at h
      · injection h with h1 _
        omega
      · simp at h
    · simp at h
theorem step_fault {l : List UInt8} {s : Scn} {c : Int} {j : Nat} (h : stepS l s = .fault c j) : c ≠ 0 := by
  unfold stepS stepB at h
  split at h
  · split at h
    · injection h with h1 _
      omega
    · simp at h
  · split at h
    · split at h <;> simp at h
    · split at h
      · split at h
        · injection h with h1 _
          omega
        · exact take_fault h
      · exact take_fault h
theorem scanF_err {l : List UInt8} (hl : l.length ≤ 16000) : ∀ (f : Nat) (s : Scn) (c i : Int), SInv l s → l.length < f + s.at_ → scanF l f s = .error (c, i) → c ≠ 0
  | 0, s, c, i, hi, hf, h => by have := hi.le; omega
  | f + 1, s, c, i, hi, hf, h => by
    unfold scanF at h
    cases hst : stepS l s with
    | done t => rw [hst] at h; simp at h
    | fault c' i' =>
      rw [hst] at h
      injection h with h
      injection h with h1 _
      rw [← h1]
      exact step_fault hst
    | more s' =>
      rw [hst] at h
      obtain ⟨h1, h2⟩ := step_inv hl hi hst
      exact scanF_err hl f s' c i h1 (by omega) h
theorem scanT_err {l : List UInt8} {c i : Int} (h : scanT l = .error (c, i)) : c ≠ 0 := by
  unfold scanT at h
  split at h
  · rename_i hz
    injection h with h
    rw [h] at hz
    exact hz
  · rename_i hz
    have hl := (chars_of l (by simpa using hz)).1
    exact scanF_err hl _ _ _ _ ⟨by simp, by simp, Nat.zero_le _, by simp, Nat.le_refl _⟩ (by show _ < _ + 1 + 0; omega) h
end Go.Proofs.YtjoeojdciogcgaaDoor
