/- source.Excerpt: what it computes. Nothing is claimed here. -/
import Derived.Laws.IdiomStrings
import Derived.Laws.Cover4
import Derived.Test.YtfocggdplahnbaaDoorSrcI
namespace Go.Proofs.YtfocggdplahnbaaDoor
open Go.RowKit Go.Shelf Go.Lib

/-- the runes of a text -/
def runesF : Nat → List UInt8 → List Int
  | 0, _ => []
  | f + 1, l => if l = [] then [] else ((decodeL l).1 : Int) :: runesF f (l.drop (decodeL l).2)
def runesL (l : List UInt8) : List Int := runesF l.length l

theorem runesF_more : ∀ (f g : Nat) (l : List UInt8), l.length ≤ f → l.length ≤ g → runesF f l = runesF g l
  | 0, g, l, hf, _ => by
    have : l = [] := List.eq_nil_of_length_eq_zero (by omega)
    subst this
    cases g <;> simp [runesF]
  | f + 1, 0, l, _, hg => by
    have : l = [] := List.eq_nil_of_length_eq_zero (by omega)
    subst this
    simp [runesF]
  | f + 1, g + 1, l, hf, hg => by
    unfold runesF
    split
    · rfl
    · rename_i hne
      have hw := width_pos l hne
      rw [runesF_more f g (l.drop (decodeL l).2) (by rw [List.length_drop]; omega) (by rw [List.length_drop]; omega)]
theorem runesL_nil : runesL [] = [] := rfl
theorem runesL_cons (l : List UInt8) (hne : l ≠ []) : runesL l = ((decodeL l).1 : Int) :: runesL (l.drop (decodeL l).2) := by
  have hp := List.length_pos_iff.2 hne
  have hw := width_pos l hne
  unfold runesL
  obtain ⟨n, hn⟩ : ∃ n, l.length = n + 1 := ⟨l.length - 1, by omega⟩
  rw [hn]
  conv => lhs; unfold runesF
  rw [if_neg hne, runesF_more n (l.drop (decodeL l).2).length _ (by rw [List.length_drop]; omega) (Nat.le_refl _)]
theorem runesFrom_eq (l : List UInt8) : ∀ (f p : Nat) (acc : Array Value), p ≤ l.length → l.length ≤ p + f → Conv.runesFrom ⟨l.toArray⟩ f p acc = acc ++ ((runesF f (l.drop p)).map (Value.int .i32)).toArray
  | 0, p, acc, _, _ => by simp [Conv.runesFrom, runesF]
  | f + 1, p, acc, h1, h2 => by
    have e : (⟨l.toArray⟩ : ByteArray).size = l.length := by simp [ByteArray.size]
    unfold Conv.runesFrom runesF
    by_cases hp : p < l.length
    · have hne : l.drop p ≠ [] := by intro e; have := congrArg List.length e; rw [List.length_drop, List.length_nil] at this; omega
      have hw := width_pos _ hne
      have hw2 := decodeL_width_le _ hne
      rw [List.length_drop] at hw2
      rw [if_pos (by rw [e]; exact hp), if_neg hne, decode_drop]
      simp only
      rw [runesFrom_eq l f _ _ (by omega) (by omega), List.drop_drop]
      simp
    · rw [if_neg (by rw [e]; exact hp), if_pos (List.drop_eq_nil_of_le (by omega))]
      simp
theorem runesFrom_all (l : List UInt8) : Conv.runesFrom ⟨l.toArray⟩ (⟨l.toArray⟩ : ByteArray).size 0 #[] = ((runesL l).map (Value.int .i32)).toArray := by
  have e : (⟨l.toArray⟩ : ByteArray).size = l.length := by simp [ByteArray.size]
  rw [e, runesFrom_eq l l.length 0 #[] (by omega) (by omega)]
  simp [runesL]
theorem runesL_length : ∀ (n : Nat) (l : List UInt8), l.length ≤ n → (runesL l).length = runeCountL l
  | 0, l, h => by
    have : l = [] := List.eq_nil_of_length_eq_zero (by omega)
    subst this
    rfl
  | n + 1, l, h => by
    by_cases hne : l = []
    · subst hne; rfl
    · have hw := width_pos l hne
      rw [runesL_cons l hne, rcl_cons l hne, List.length_cons, runesL_length n (l.drop (decodeL l).2) (by rw [List.length_drop]; omega)]
      omega

/-- a slice of a text's runes is made -/
theorem runes_of (l : List UInt8) (w : World) (hl : l.length ≤ 16000) :
    ∃ (cap : Nat) (w' : World), (convert 9 52 (.string ⟨l.toArray⟩)).run Tryd.prog w = .ok (.slice (some ⟨w.heap.size, 0, none⟩) (runeCountL l) cap) w' ∧ runeCountL l ≤ cap ∧ Below w.heap.size w w' ∧
      (∀ j u, ((runesL l).map (Value.int .i32))[j]? = some u → w'.cell? ⟨w.heap.size, j, none⟩ = some u) ∧ w.heap.size < w'.heap.size := by
  have hn := runesL_length l.length l (Nat.le_refl _)
  have hrc := rcl_le l
  have h := run_runes_of_string (P := Tryd.prog) w 9 52 21 ⟨l.toArray⟩ Tryd.underlying9 Tryd.underlying52 Tryd.underlying21 (by rw [runesFrom_all]; simp; omega)
  have hc := grownCap_ge w (Conv.runesFrom ⟨l.toArray⟩ (⟨l.toArray⟩ : ByteArray).size 0 #[]).size 0 21
  rw [runesFrom_all] at h hc
  simp only [List.size_toArray, List.length_map, hn] at h hc
  refine ⟨_, _, h, hc, ((Below.refl _ _).drew).alloc (Nat.le_refl _) _, fun j u hu => ?_, by simp⟩
  have hj : j < ((runesL l).map (Value.int .i32)).length := (List.getElem?_eq_some_iff.1 hu).1
  have := Blk.cell (Blk.new w.drew 21 (((runesL l).map (Value.int .i32)).toArray ++ Array.replicate (grownCap w (runeCountL l) 0 21 - runeCountL l) (.int .i32 0))) j
  refine this.trans ?_
  rw [Array.getElem?_append_left (by simpa using hj)]
  simpa using hu

end Go.Proofs.YtfocggdplahnbaaDoor
