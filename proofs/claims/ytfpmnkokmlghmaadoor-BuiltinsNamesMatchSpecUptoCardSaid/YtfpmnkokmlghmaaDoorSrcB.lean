/- Plain words on lines: a text parted at a byte. Nothing is claimed here. -/
import Derived.Test.YtfpmnkokmlghmaaDoorSrcA
namespace Go.Proofs.YtfpmnkokmlghmaaDoor
open Go.Lib

/-- a text parted at each c -/
def splitB (c : UInt8) : List UInt8 → List (List UInt8)
  | [] => [[]]
  | x :: l => if x = c then [] :: splitB c l else match splitB c l with
    | [] => [[x]]
    | p :: ps => (x :: p) :: ps

theorem splitB_ne (c : UInt8) (l : List UInt8) : splitB c l ≠ [] := by
  cases l with
  | nil => simp [splitB]
  | cons x l =>
    unfold splitB
    split
    · simp
    · split <;> simp

theorem splitB_none (c : UInt8) : ∀ l : List UInt8, indexByte l c < 0 → splitB c l = [l]
  | [], _ => rfl
  | x :: l, h => by
    have hge := indexByte_ge l c
    unfold indexByte at h
    by_cases hx : x = c
    · simp [hx] at h
    · rw [if_neg (by simpa using hx)] at h
      have h' : indexByte l c < 0 := by
        split at h
        · rename_i h1
          have : indexByte l c = -1 := by simpa using h1
          omega
        · omega
      unfold splitB
      rw [if_neg hx, splitB_none c l h']

theorem splitB_some (c : UInt8) : ∀ (l : List UInt8) (i : Nat), indexByte l c = i → i < l.length ∧ splitB c l = l.take i :: splitB c (l.drop (i + 1))
  | [], i, h => by simp [indexByte] at h
  | x :: l, i, h => by
    have hge := indexByte_ge l c
    unfold indexByte at h
    by_cases hx : x = c
    · rw [if_pos (by simpa using hx)] at h
      obtain rfl : i = 0 := by omega
      refine ⟨by simp, ?_⟩
      conv => lhs; unfold splitB
      simp [hx]
    · rw [if_neg (by simpa using hx)] at h
      split at h
      · omega
      · rename_i h1
        have hne : indexByte l c ≠ -1 := by simpa using h1
        obtain ⟨j, rfl⟩ : ∃ j, i = j + 1 := ⟨i - 1, by omega⟩
        obtain ⟨h2, h3⟩ := splitB_some c l j (by omega)
        refine ⟨by simpa using h2, ?_⟩
        conv => lhs; unfold splitB
        rw [if_neg hx, h3]
        simp

theorem splitB_length_le (c : UInt8) : ∀ l : List UInt8, (splitB c l).length ≤ l.length + 1
  | [] => by simp [splitB]
  | x :: l => by
    have := splitB_length_le c l
    unfold splitB
    split
    · simp; omega
    · split
      · simp
      · rename_i h
        rw [h] at this
        simp at this ⊢
        omega

end Go.Proofs.YtfpmnkokmlghmaaDoor
