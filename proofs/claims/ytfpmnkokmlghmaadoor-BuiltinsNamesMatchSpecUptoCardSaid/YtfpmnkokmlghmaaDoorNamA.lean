/- Plain words on names: which texts are names. Nothing is claimed here. -/
import Derived.Lib.Split
import Derived.Lib.SplitLaws
import Derived.Lib.CountLaws
import Derived.Lib.IndexAny
import Derived.Test.YtfpmnkokmlghmaaDoorSrcB
namespace Go.Proofs.YtfpmnkokmlghmaaDoor
open Go.Lib

def isLet (c : UInt8) : Bool := (decide (97 ≤ c) && decide (c ≤ 122)) || (decide (65 ≤ c) && decide (c ≤ 90)) || c == 95
def isDig (c : UInt8) : Bool := decide (48 ≤ c) && decide (c ≤ 57)
def isWrd (c : UInt8) : Bool := isLet c || isDig c
/-- how many bytes of a kind stand at the beginning -/
def span (p : UInt8 → Bool) (l : List UInt8) : Nat := (l.takeWhile p).length
/-- the byte at a distance -/
def at0 (r : List UInt8) (k : Nat) : UInt8 := r.getD k 0
/-- the words that are reserved -/
def kws : List (List UInt8) :=
  [[97, 110, 100], [97, 115], [97, 115, 115, 101, 114, 116], [97, 115, 121, 110, 99], [97, 119, 97, 105, 116], [98, 114, 101, 97, 107], [99, 97, 115, 101], 
   [99, 97, 116, 99, 104], [99, 108, 97, 115, 115], [99, 111, 110, 116, 105, 110, 117, 101], [100, 101, 102], [100, 101, 108], [101, 108, 105, 102], [101, 108, 115, 101], 
   [102, 97, 108, 115, 101], [102, 105, 110, 97, 108, 108, 121], [102, 110], [102, 111, 114], [102, 114, 111, 109], [103, 108, 111, 98, 97, 108], [105, 102], 
   [105, 109, 112, 111, 114, 116], [105, 110], [105, 115], [109, 97, 116, 99, 104], [110, 105, 108], [110, 111, 116], [111, 114], [111, 117, 116, 101, 114], 
   [112, 97, 115, 115], [114, 97, 105, 115, 101], [114, 101, 116, 117, 114, 110], [115, 117, 112, 101, 114], [116, 114, 117, 101], [116, 114, 121], [119, 104, 105, 108, 101], 
   [119, 105, 116, 104], [121, 105, 101, 108, 100]]
theorem at0_lt (r : List UInt8) (k : Nat) (h : k < r.length) : at0 r k = r[k] := by simp [at0, h]
theorem drop_at (l : List UInt8) (j : Nat) (h : j < l.length) : l.drop j = at0 l j :: l.drop (j + 1) := by
  rw [at0_lt l j h, List.drop_eq_getElem_cons h]
theorem span_at (p : UInt8 → Bool) (l : List UInt8) (j : Nat) (h : j < l.length) : span p (l.drop j) = if p (at0 l j) then span p (l.drop (j + 1)) + 1 else 0 := by
  rw [drop_at l j h]
  unfold span
  rw [List.takeWhile_cons]
  split <;> simp
theorem span_end (p : UInt8 → Bool) (l : List UInt8) (j : Nat) (h : l.length ≤ j) : span p (l.drop j) = 0 := by
  rw [List.drop_of_length_le h]
  rfl
theorem span_full (p : UInt8 → Bool) : ∀ l : List UInt8, decide (span p l = l.length) = l.all p
  | [] => rfl
  | c :: l => by
    have ih := span_full p l
    unfold span at ih ⊢
    rw [List.takeWhile_cons, List.all_cons]
    cases hc : p c
    · simp
    · simp only [if_true, List.length_cons, Bool.true_and]
      rw [← ih]
      simp

/-- is a text a name? -/
def nameB (s : List UInt8) : Bool := !s.isEmpty && decide (s.length ≤ 24) && s.all isWrd && isLet (at0 s 0) && !kws.contains s
theorem name_bad0 {s : List UInt8} (h : isLet (at0 s 0) = false) : nameB s = false := by
  unfold nameB
  rw [h, Bool.and_false, Bool.false_and]
theorem name_badk {s : List UInt8} {k : Nat} (hk : k < s.length) (h : isWrd (at0 s k) = false) : nameB s = false := by
  have : s.all isWrd = false := by
    rw [Bool.eq_false_iff]
    intro e
    have := List.all_eq_true.1 e s[k] (List.getElem_mem hk)
    rw [← at0_lt s k hk, h] at this
    exact absurd this (by decide)
  unfold nameB
  rw [this, Bool.and_false, Bool.false_and, Bool.false_and]
theorem name_end {s : List UInt8} (h0 : 0 < s.length → isLet (at0 s 0) = true) (h : ∀ j, j < s.length → isWrd (at0 s j) = true) : nameB s = (!s.isEmpty && decide (s.length ≤ 24) && !kws.contains s) := by
  have : s.all isWrd = true := by
    rw [List.all_eq_true]
    intro c hc
    obtain ⟨k, hk, rfl⟩ := List.mem_iff_getElem.1 hc
    rw [← at0_lt s k hk]
    exact h k hk
  unfold nameB
  rw [this]
  cases s with
  | nil => rfl
  | cons c r =>
    rw [h0 (by simp)]
    simp
/-- is a text a dotted name? -/
def dottedB (s : List UInt8) : Bool := (splitB 46 s).all nameB && decide (s.length ≤ 60)

/-- the library's words on a text that is parted are those here -/
theorem splitK_same (c : UInt8) : ∀ (n : Nat) (s : List UInt8), s.length ≤ n → splitK [c] 0 (count s [c]) s = splitB c s
  | n, s, hn => by
    rcases (show indexByte s c < 0 ∨ 0 ≤ indexByte s c by omega) with h | h
    · have h1 : index s [c] = -1 := by
        have := indexByte_ge s c
        rw [index_one]
        omega
      rw [count_miss h1, splitB_none c _ h]
      rfl
    · obtain ⟨i, hi⟩ : ∃ i : Nat, indexByte s c = i := ⟨_, (Int.toNat_of_nonneg h).symm⟩
      obtain ⟨hlt, hsp⟩ := splitB_some c _ i hi
      have hb : index s [c] = i := (index_one s c).trans hi
      have hm : ¬ (index s [c] == -1) = true := fun e => by have := beq_iff_eq.1 e; omega
      match n, hn with
      | 0, hn => omega
      | n + 1, hn =>
        rw [count_hit (by simp) hb, Nat.add_comm, splitK, if_neg hm, hb, hsp, Int.toNat_natCast, List.length_singleton, Nat.add_zero, splitK_same c n (s.drop (i + 1)) (by rw [List.length_drop]; omega)]
theorem split_same (c : UInt8) (s : List UInt8) : (Lib.splitB ⟨#[c]⟩ 0 (countB ⟨s.toArray⟩ ⟨#[c]⟩) ⟨s.toArray⟩) = (splitB c s).map fun p => (⟨p.toArray⟩ : ByteArray) := by
  have h := splitB_data ⟨#[c]⟩ 0 (countB ⟨s.toArray⟩ ⟨#[c]⟩) ⟨s.toArray⟩
  have e : splitK [c] 0 (count s [c]) s = splitB c s := splitK_same c _ s (Nat.le_refl _)
  have h2 : (Lib.splitB ⟨#[c]⟩ 0 (countB ⟨s.toArray⟩ ⟨#[c]⟩) ⟨s.toArray⟩).map (·.data.toList) = splitB c s := h.trans e
  rw [← h2, List.map_map]
  conv => lhs; rw [← List.map_id (Lib.splitB ⟨#[c]⟩ 0 (countB ⟨s.toArray⟩ ⟨#[c]⟩) ⟨s.toArray⟩)]
  refine List.map_congr_left fun x _ => ?_
  obtain ⟨⟨x⟩⟩ := x
  rfl
theorem count_same (c : UInt8) (s : List UInt8) : countB ⟨s.toArray⟩ ⟨#[c]⟩ + 1 = (splitB c s).length := by
  have h := splitB_all ⟨#[c]⟩ (Nat.le_refl 1) 0 (countB ⟨s.toArray⟩ ⟨#[c]⟩) ⟨s.toArray⟩ rfl
  rw [split_same, List.length_map] at h
  exact h.symm

end Go.Proofs.YtfpmnkokmlghmaaDoor
