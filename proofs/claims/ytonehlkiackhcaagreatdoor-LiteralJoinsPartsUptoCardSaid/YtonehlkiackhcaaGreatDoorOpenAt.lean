/- A row of cells as a list, element by element. Nothing is claimed here. -/
import Derived.Test.YtonehlkiackhcaaGreatDoorOpen
set_option linter.unusedVariables false
set_option linter.unusedSimpArgs false
set_option maxRecDepth 100000
set_option maxHeartbeats 16000000
namespace Go.Proofs.YtonehlkiackhcaaGreatDoor
open Go.ChangeShapes Go.WideShapes Go.Deep Go.RowKit
theorem row_of_cells_at {α : Type} (f : α → List Value) (s:Nat) (hf : ∀ x,(f x).length = s) (hs : 0 < s) (Q : Nat → α → Prop) {w : World} {a : Addr} {n : Nat} (hlt : 0 < n → a.block < w.heap.size)
  (h : ∀ i,i < n → ∃ x,Q i x∧∀ j u,(f x)[j]? = some u → w.cell? (a.add (i * s + j)) = some u) : ∃ l : List α,l.length = n∧(∀ i (h : i < l.length),Q i l[i])∧Row w (some a) (l.flatMap f):=by
 obtain ⟨l,hl,hq⟩:=list_of_lt (fun i x => Q i x∧∀ j u,(f x)[j]? = some u → w.cell? (a.add (i * s + j)) = some u) n h;refine ⟨l,hl,fun i hi => (hq i hi).1,?_⟩
 ·by_cases hn : n = 0
  ·left;have : l = []:=List.eq_nil_of_length_eq_zero (by omega);rw [this]; rfl
  ·right;have h0 : 0 < l.length:=(by omega);obtain ⟨u,hu⟩ : ∃ u,(f l[0])[0]? = some u:=⟨(f l[0])[0]'(by rw [hf]; exact hs),List.getElem?_eq_getElem _⟩;have hc:=(hq 0 h0).2 0 u hu;obtain ⟨b,off,spot⟩:=a;have hspot : spot = none:=(by simpa [Addr.add] using World.cell?_spot hc);subst hspot;refine ⟨b,off,rfl,hlt (by omega),fun j v hv => ?_⟩;have hj : j < (l.flatMap f).length:=(List.getElem?_eq_some_iff.1 hv).1;rw [flat_len f s hf] at hj;have hk : j / s < l.length:=Nat.div_lt_of_lt_mul (by rw [Nat.mul_comm]; exact hj);have hr : j % s < s:=Nat.mod_lt _ hs;have e : j / s * s + j % s = j:=(by rw [Nat.mul_comm]; exact Nat.div_add_mod j s);have hfa:=flat_at f s hf l (j / s) hk (j % s) hr;rw [e,hv] at hfa;have:=(hq (j / s) hk).2 (j % s) v hfa.symm;rw [e,Go.WideShapes.add_plain] at this;exact this
end Go.Proofs.YtonehlkiackhcaaGreatDoor
