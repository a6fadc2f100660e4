/- What encoding gives, plainly. Nothing is claimed here. -/
import Derived.Test.YtdajaddgdmoneaaDoorOpI
namespace Go.Proofs.YtdajaddgdmoneaaDoor
open Go.RowKit
set_option linter.unusedVariables false

def kindOk (x : Ins) : Prop := 0 ≤ x.1 ∧ x.1 < 80
def rangeOk (x : Ins) : Prop := 0 ≤ x.2.1 ∧ x.2.1 ≤ 16000 ∧ 0 ≤ x.2.2 ∧ x.2.2 ≤ 16000 ∧ (opk x.1.toNat < 2 → x.2.2 = 0) ∧ (opk x.1.toNat < 1 → x.2.1 = 0)
instance (x : Ins) : Decidable (kindOk x) := by unfold kindOk; infer_instance
instance (x : Ins) : Decidable (rangeOk x) := by unfold rangeOk; infer_instance
def args (x : Ins) : List Int := [x.2.1, x.2.2].take (opk x.1.toNat)
def enc1 (x : Ins) : List Int := x.1 :: (args x).flatMap sp
def encF : Nat → List Ins → Int × Int
  | _, [] => (0, 0)
  | i, x :: l => if kindOk x then (if rangeOk x then encF (i + 1) l else (4, (i : Int))) else (5, (i : Int))
def encFault (l : List Ins) : Int × Int := if 60000 < l.length then (2, -1) else encF 0 l
def encB (l : List Ins) : List Int := l.flatMap enc1
def encOut (l : List Ins) : List Int := if (encFault l).1 = 0 then encB l else []
def aggF (f : Int × Int) : Value := .agg #[.int .i64 f.1, .int .i64 f.2]

theorem encF_kind {i : Nat} {x : Ins} {l : List Ins} (h : ¬ kindOk x) : encF i (x :: l) = (5, (i : Int)) := by rw [encF, if_neg h]
theorem encF_range {i : Nat} {x : Ins} {l : List Ins} (h : kindOk x) (h2 : ¬ rangeOk x) : encF i (x :: l) = (4, (i : Int)) := by rw [encF, if_pos h, if_neg h2]
theorem encF_ok {i : Nat} {x : Ins} {l : List Ins} (h : kindOk x) (h2 : rangeOk x) : encF i (x :: l) = encF (i + 1) l := by rw [encF, if_pos h, if_pos h2]
theorem encB_cons (x : Ins) (l : List Ins) : encB (x :: l) = enc1 x ++ encB l := by simp [encB]
theorem enc1_len (x : Ins) : (enc1 x).length ≤ 7 := by
  have h1 := sp_len x.2.1
  have h2 := sp_len x.2.2
  have h3 := opk_le x.1.toNat
  have h : opk x.1.toNat = 0 ∨ opk x.1.toNat = 1 ∨ opk x.1.toNat = 2 := by omega
  unfold enc1 args
  rcases h with h | h | h <;> rw [h] <;> simp <;> omega

/-- the bytes and the error of an encoding are handed back -/
def EncPost (l : List Ins) (w : World) (e : Ending) (w' : World) : Prop :=
  ∃ A c, e = .returned (.tuple #[.slice A (encOut l).length c, aggF (encFault l)]) ∧ Row w' A (bcs (encOut l)) ∧ Below w.heap.size w w'

theorem encPost_bad {l : List Ins} {w : World} {e : Ending} {w' : World} (f : Int × Int) (hf : encFault l = f) (h0 : f.1 ≠ 0) (he : e = .returned (.tuple #[.slice none 0 0, aggF f])) (hb : Below w.heap.size w w') : EncPost l w e w' := by
  have ho : encOut l = [] := by rw [encOut, hf, if_neg h0]
  exact ⟨none, 0, by rw [ho, hf]; exact he, by rw [ho]; exact .inl rfl, hb⟩
theorem encPost_good {l : List Ins} {w : World} {e : Ending} {w' : World} (hf : encFault l = (0, 0)) (A : Option Addr) (c : Nat) (he : e = .returned (.tuple #[.slice A (encB l).length c, aggF (0, 0)])) (hr : Row w' A (bcs (encB l))) (hb : Below w.heap.size w w') : EncPost l w e w' := by
  have ho : encOut l = encB l := by rw [encOut, hf, if_pos rfl]
  exact ⟨A, c, by rw [ho, hf]; exact he, by rw [ho]; exact hr, hb⟩

end Go.Proofs.YtdajaddgdmoneaaDoor
