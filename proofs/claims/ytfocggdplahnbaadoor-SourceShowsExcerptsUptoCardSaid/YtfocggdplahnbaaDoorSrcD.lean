/- Plain words on places: runes, lines and columns of a text. Nothing is claimed here. -/
import Derived.Test.YtfocggdplahnbaaDoorSrcF
import Derived.Test.YtfocggdplahnbaaDoorSrcC
namespace Go.Proofs.YtfocggdplahnbaaDoor
open Go.Lib

theorem rcl_nil : runeCountL [] = 0 := rfl
theorem rcl_cons (l : List UInt8) (hne : l ≠ []) : runeCountL l = 1 + runeCountL (l.drop (decodeL l).2) := by
  have hp := List.length_pos_iff.2 hne
  have hw := width_pos l hne
  unfold runeCountL runeCount
  have e : (⟨l.toArray⟩ : ByteArray).size = l.length := by simp [ByteArray.size]
  have e2 : (⟨(l.drop (decodeL l).2).toArray⟩ : ByteArray).size = l.length - (decodeL l).2 := by simp [ByteArray.size]
  obtain ⟨n, hn⟩ : ∃ n, l.length = n + 1 := ⟨l.length - 1, by omega⟩
  rw [e, hn]
  conv => lhs; unfold runeCountFrom
  rw [if_pos (by rw [e]; exact hp), decode_drop, List.drop_zero, Nat.zero_add, e2, hn, ← hn]
  congr 1
  have h := tail_count ⟨l.toArray⟩ (decodeL l).2 (l.length - (decodeL l).2) 0
  rw [e, extract_from l _ _ (Nat.le_refl _), Nat.add_zero] at h
  rw [h]
  exact fuel_enough _ _ _ _ (by rw [e]; omega) (by rw [e]; omega)

theorem rcl_le (l : List UInt8) : runeCountL l ≤ l.length := by
  have := runeCount_le ⟨l.toArray⟩
  simpa [runeCountL, ByteArray.size] using this

/-- where the k-th rune of a text begins -/
def runeOff : Nat → List UInt8 → Nat
  | 0, _ => 0
  | k + 1, l => if l = [] then 0 else (decodeL l).2 + runeOff k (l.drop (decodeL l).2)

theorem runeOff_le : ∀ (k : Nat) (l : List UInt8), runeOff k l ≤ l.length
  | 0, _ => Nat.zero_le _
  | k + 1, l => by
    unfold runeOff
    split
    · exact Nat.zero_le _
    · rename_i hne
      have := runeOff_le k (l.drop (decodeL l).2)
      have h2 := decodeL_width_le l hne
      rw [List.length_drop] at this
      omega
theorem runeOff_succ : ∀ (k : Nat) (l : List UInt8), runeOff k l < l.length → runeOff (k + 1) l = runeOff k l + (decodeL (l.drop (runeOff k l))).2
  | 0, l, h => by
    have hne : l ≠ [] := by rintro rfl; simp at h
    simp [runeOff, hne]
  | k + 1, l, h => by
    have hne : l ≠ [] := by rintro rfl; simp [runeOff] at h
    have h2 := decodeL_width_le l hne
    have e : runeOff (k + 1) l = (decodeL l).2 + runeOff k (l.drop (decodeL l).2) := by conv => lhs; unfold runeOff; rw [if_neg hne]
    rw [e] at h ⊢
    have ih := runeOff_succ k (l.drop (decodeL l).2) (by rw [List.length_drop]; omega)
    conv => lhs; unfold runeOff
    rw [if_neg hne, ih, List.drop_drop]
    omega
theorem rcl_off : ∀ (k : Nat) (l : List UInt8), k ≤ runeCountL l → runeCountL l = k + runeCountL (l.drop (runeOff k l))
  | 0, l, _ => by simp [runeOff]
  | k + 1, l, h => by
    have hne : l ≠ [] := by rintro rfl; rw [rcl_nil] at h; omega
    rw [rcl_cons l hne] at h ⊢
    have ih := rcl_off k (l.drop (decodeL l).2) (by omega)
    conv => rhs; unfold runeOff
    rw [if_neg hne, ← List.drop_drop, ih]
    omega
theorem rcl_pos (l : List UInt8) (hne : l ≠ []) : 1 ≤ runeCountL l := by rw [rcl_cons l hne]; omega
theorem runeOff_all (l : List UInt8) : runeOff (runeCountL l) l = l.length := by
  have h := rcl_off (runeCountL l) l (Nat.le_refl _)
  have hle := runeOff_le (runeCountL l) l
  rcases Nat.lt_or_ge (runeOff (runeCountL l) l) l.length with hlt | hge
  · have := rcl_pos (l.drop (runeOff (runeCountL l) l)) (by intro e; have := congrArg List.length e; rw [List.length_drop, List.length_nil] at this; omega)
    omega
  · omega

/-- behind the last line feed of a text -/
def tailNl (l : List UInt8) : List UInt8 := l.drop (lastIndexByte ⟨l.toArray⟩ 10 + 1).toNat

/-- the line and the column of an offset, and the fault -/
def posOf (l : List UInt8) (o : Int) : (Int × Int) × (Int × Int) :=
  if (sfault l).1 ≠ 0 then ((0, 0), sfault l)
  else if o < 0 ∨ l.length < o then ((0, 0), (4, -2))
  else if o < l.length ∧ bAt l o.toNat / 64 = 2 then ((0, 0), (6, -2))
  else (((l.take o.toNat).count 10 + 1, runeCountL (tailNl (l.take o.toNat)) + 1), (0, 0))

/-- the offset of a line and a column, and the fault -/
def offOf (l : List UInt8) (line col : Int) : Int × (Int × Int) :=
  if (sfault l).1 ≠ 0 then (0, sfault l)
  else if line < 1 ∨ (splitB 10 l).length < line then (0, (4, -2))
  else if col < 1 ∨ runeCountL ((splitB 10 l)[(line - 1).toNat]?.getD []) + 1 < col then (0, (4, -3))
  else (atOf ((splitB 10 l).take (line - 1).toNat) + runeOff (col - 1).toNat ((splitB 10 l)[(line - 1).toNat]?.getD []), (0, 0))

theorem lastIndex_ge (l : List UInt8) : -1 ≤ lastIndexByte ⟨l.toArray⟩ 10 ∧ lastIndexByte ⟨l.toArray⟩ 10 < l.length := by
  have e : (⟨l.toArray⟩ : ByteArray).size = l.length := by simp [ByteArray.size]
  have h := lastIdx_spec ⟨l.toArray⟩ 10 (⟨l.toArray⟩ : ByteArray).size
  unfold lastIndexByte
  rcases h with ⟨h1, _⟩ | ⟨i, hi, h1, _⟩
  · rw [h1]; omega
  · rw [h1]; omega

end Go.Proofs.YtfocggdplahnbaaDoor
