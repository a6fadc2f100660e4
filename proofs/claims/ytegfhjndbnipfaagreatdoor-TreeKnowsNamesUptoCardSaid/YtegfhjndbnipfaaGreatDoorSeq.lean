/- A range over an iterator that keeps its own state in a cell (strings.SplitSeq at a separator of one byte), and the iterator's contract. Nothing is claimed here. -/
import Derived.RangeFuncNested
import Derived.RangeFuncBound
import Derived.RangeFuncCalls
import Derived.RangeFuncLeaves
import Derived.Shelf.Abstract
import Derived.Shelf.RegionOpen
import Derived.OwnWalkIn
import Derived.TacticsInMore
import Derived.LoopNIn
import Derived.LoopIn
import Derived.Test.YtegfhjndbnipfaaGreatDoorCore
import Derived.Test.YtegfhjndbnipfaaGreatDoorSrcShelf
import Derived.Test.YtegfhjndbnipfaaGreatDoorSrcB
namespace Go.Proofs.YtegfhjndbnipfaaGreatDoor
open Go.RowKit Go.Shelf
attribute [local go_sem] Oper.semAt_some

/-- the three blocks from B on are kept -/
def KeptAt (B : Nat) (W W' : World) : Prop := W.heap.size ≤ W'.heap.size ∧ ∀ k, B ≤ k → k < B + 3 → W'.heap[k]? = W.heap[k]?
theorem KeptAt.trans {B : Nat} {X Y Z : World} (h : KeptAt B X Y) (k : KeptAt B Y Z) : KeptAt B X Z := ⟨Nat.le_trans h.1 k.1, fun i h1 h2 => (k.2 i h1 h2).trans (h.2 i h1 h2)⟩
theorem KeptAt.putObj {B : Nat} (W : World) (l : Nat) (o : Obj) (hl : B + 3 ≤ l) : KeptAt B W (W.putObj l o) :=
  ⟨by simp, fun k _ h2 => World.putObj_heap_other (by omega)⟩
theorem KeptAt.refl (B : Nat) (W : World) : KeptAt B W W := ⟨Nat.le_refl _, fun _ _ _ => rfl⟩
theorem KeptAt.setCell (B : Nat) (W : World) (p : Addr) (u : Value) (hp : p.block < B) : KeptAt B W (W.setCell p u) :=
  ⟨by simp [World.setCell], fun k h1 _ => Below.heap_setCell W p u k (by omega)⟩

/-- an iterator whose state lies in block B: what it gives to a loop whose rounds keep its three blocks -/
def SeqW {α : Type} (F : Fence) (n : Nat) (P : Program) (g : Nat) (lb : Array Value) (encs : α → Array Value) (B : Nat) (S Sp : List α → Prop) (w : World) : Prop :=
  ∀ (l : Nat) (J Jx : List α → World → Prop) (W : World), KeptAt B w W → (∀ s X Y, J s X → X.grownBy Y none → J s Y) → (∀ s X v, J s X → J s (X.setCell ⟨B, 0, none⟩ v)) →
    (∀ pre x W1, J pre W1 → Sp (pre ++ [x]) → YieldAt F (n - 1) P l (encs x) W1 fun e W' => (e = .returned (.bool true) ∧ J (pre ++ [x]) W' ∧ KeptAt B W1 W') ∨ (e = .returned (.bool false) ∧ Jx (pre ++ [x]) W')) →
    J [] W →
    CallsIn F n P g (#[.func (.yield l) #[] #[]] ++ lb) W fun e W' => (∃ v, e = .returned v) ∧ ((∃ xs, S xs ∧ J xs W') ∨ (∃ pre, Sp pre ∧ Jx pre W'))

section law
variable {F : Fence} {n : Nat} {P : Program}
/-- the loop over such an iterator -/
theorem wp_range_w {α : Type} {g : Operand} {ps : Array Tmp} {assign body : Code} {Q : Exit → Act → World → Prop} {a : Act} {w : World}
    (hro : F.round = none) (h1 : 1 ≤ n) {gf : Nat} {lb : Array Value} (hg : a.eval g = .func (.func gf) #[] lb) (hFg : F.fn gf) (eg : ∀ args w, (callFunc gf args).run P w = .ok (.enter gf args) w)
    {encs : α → Array Value} {S Sp : List α → Prop} {B : Nat} (hseq : SeqW F (n - 1) P gf lb encs B S Sp w) (hB : B + 3 ≤ w.heap.size) (hps : ∀ x, (encs x).size = ps.size)
    (I : List α → World → Prop) (Ix : Code → List α → World → Prop) (hI : OwnFrom w.heap.size I) (hIx : ∀ c, OwnFrom w.heap.size (Ix c)) (hIs : ∀ s X v, I s X → I s (X.setCell ⟨B, 0, none⟩ v)) (h0 : I [] w) (a₁ : α → Act)
    (hassign : ∀ (l : Nat) (x : α) (W : World) (K : Act → World → Prop), K (a₁ x) W →
      assign.wpIn (F.inRound l) (n - 1 - 1) P (Exit.then K (fun _ _ _ => False)) { tmps := (ps.zip (encs x)).foldl (fun t (p, v) => t.setIfInBounds p v) a.tmps, defers := [] } W)
    (hbody : ∀ (l : Nat) (pre : List α) (x : α) (W : World), I pre W → Sp (pre ++ [x]) → body.wpIn (F.inRound l) (n - 1 - 1) P (ownPostK (KeptAt B) I Ix (pre ++ [x]) W) (a₁ x) W)
    (hdone : ∀ (D : Nat) (xs : List α) (W : World), w.heap.size ≤ D → S xs → I xs W → W.heap[D]? = some (.deferred (some [])) → Q .normal { a with defers := { target := .collected D, args := #[] } :: a.defers } W)
    (hstop : ∀ (D : Nat) (c : Code) (pre : List α) (W : World), w.heap.size ≤ D → Sp pre → Ix c pre W → W.heap[D]? = some (.deferred (some [])) → c.wpIn F n P Q { a with defers := { target := .collected D, args := #[] } :: a.defers } W) :
    (Code.rangeFunc g ps assign body).wpIn F n P Q a w := by
  refine wpIn_rangeFunc fun fn hfn => ?_
  rw [hro]
  obtain ⟨rec, hrec⟩ : ∃ rec : LoopState → Option Code → Loop, rec = fun st pe => { state := st, pending := pe, fn, tmps := a.tmps, params := ps, assign, body, defers := w.heap.size } := ⟨_, rfl⟩
  obtain ⟨W1, hW1⟩ : ∃ W1, (w.alloc (.deferred (some []))).alloc (.loop (rec .ready none)) = W1 := ⟨_, rfl⟩
  have kAt : ∀ k, k < w.heap.size → W1.heap[k]? = w.heap[k]? := fun k hk => by
    rw [← hW1]; exact (Below.heap_alloc _ _ _ (by simp; omega)).trans (Below.heap_alloc _ _ _ hk)
  have kL : W1.heap[w.heap.size + 1]? = some (.loop (rec .ready none)) := by
    rw [← hW1]; have := World.alloc_heap_new (w.alloc (.deferred (some []))) (.loop (rec .ready none)); rwa [World.size_alloc] at this
  have kD : W1.heap[w.heap.size]? = some (.deferred (some [])) := by
    rw [← hW1]; exact (Below.heap_alloc _ _ _ (by simp)).trans (World.alloc_heap_new w _)
  have kI : I [] W1 := by rw [← hW1]; exact hI.alloc _ (hI.alloc _ h0)
  have kS : w.heap.size ≤ W1.heap.size := by rw [← hW1]; simp; omega
  refine ⟨w.heap.size + 1, [{ target := .collected w.heap.size, args := #[] }], W1, { target := .fn (.func gf) lb, args := #[.func (.yield (w.heap.size + 1)) #[] #[]] }, W1, gf,
    #[.func (.yield (w.heap.size + 1)) #[] #[]] ++ lb, W1, by rw [← hW1, hrec]; exact run_enterLoop_outer _ _ _ _ _, by simp only [resolve, hg]; simp [go_sem], fun f' hf' => by simp [Target.leads] at hf'; subst hf'; exact hFg,
    by simp [invoke, go_sem, eg], fun _ => h1, ?_⟩
  have kSet : ∀ (X : World) (k : Nat) (o : Obj) (v : Value), X.heap[k]? = some o → o.isCells = false → (X.setCell ⟨B, 0, none⟩ v).heap[k]? = some o := fun X k o v hk ho => (KeepsOthers.setCell X ⟨B, 0, none⟩ v).same k o hk ho
  refine (hseq (w.heap.size + 1)
    (fun pre W => I pre W ∧ W.heap[w.heap.size + 1]? = some (.loop (rec .ready none)) ∧ W.heap[w.heap.size]? = some (.deferred (some [])))
    (fun pre W => ∃ c, Ix c pre W ∧ W.heap[w.heap.size + 1]? = some (.loop (rec .done (some c))) ∧ W.heap[w.heap.size]? = some (.deferred (some [])))
    W1 ⟨kS, fun k _ h2 => kAt k (by omega)⟩
    (fun s X Y hs hg' => ⟨hI s X Y none hs.1 hg' (fun r e => by cases e), (hg'.block _ (Array.getElem?_eq_some_iff.1 hs.2.1).1 (by simp)).trans hs.2.1, (hg'.block _ (Array.getElem?_eq_some_iff.1 hs.2.2).1 (by simp)).trans hs.2.2⟩)
    (fun s X v hs => ⟨hIs s X v hs.1, kSet X _ _ v hs.2.1 rfl, kSet X _ _ v hs.2.2 rfl⟩) ?_ ⟨kI, kL, kD⟩).mono ?_
  · rintro pre x W ⟨hi, hl, hk⟩ hsp
    have hlt : w.heap.size + 1 < W.heap.size := (Array.getElem?_eq_some_iff.1 hl).1
    have hy := run_yield (P := P) (args := encs x) hl (by rw [hrec]; exact hps x)
    rw [hrec] at hy
    refine ⟨fn, _, assign, body, hy, roundIn_of_wpIn hfn (hassign _ x W _ ⟨_, run_beginRound hl (by rw [hrec]), ?_⟩)⟩
    obtain ⟨V, hV⟩ : ∃ V, W.putObj (w.heap.size + 1) (.loop { rec .ready none with state := .busy }) = V := ⟨_, rfl⟩
    have hl2 : V.heap[w.heap.size + 1]? = some (.loop { rec .ready none with state := .busy }) := by rw [← hV]; exact World.putObj_heap_same hlt
    have hk2 : V.heap[w.heap.size]? = some (.deferred (some [])) := by rw [← hV]; exact (World.putObj_heap_other (by omega)).trans hk
    have hw2 : KeptAt B W V := by rw [← hV]; exact KeptAt.putObj _ _ _ (by omega)
    have hi2 : I pre V := by rw [← hV]; exact hI.putObj _ hi (by omega) hl rfl
    rw [hV]
    refine wpIn_mono (hbody _ pre x V hi2 hsp) ?_
    have fin : ∀ (jump : Option Code) (X : World), KeepsOthers V X → ∃ Y, Y = X.putObj (w.heap.size + 1) (.loop (rec (if jump.isNone then .ready else .done) jump)) ∧
        (Instr.endRound (w.heap.size + 1) jump).run P X = .ok (.bool jump.isNone) Y ∧ Y.heap[w.heap.size + 1]? = some (.loop (rec (if jump.isNone then .ready else .done) jump)) ∧
        Y.heap[w.heap.size]? = some (.deferred (some [])) ∧ KeptAt B X Y ∧ (∀ (K : List α → World → Prop) s, OwnFrom w.heap.size K → K s X → K s Y) := fun jump X hk3 => by
      have hl3 := hk3.same _ _ hl2 rfl
      have hr := run_endRound (P := P) jump hl3
      rw [hrec] at hr
      refine ⟨_, rfl, by rw [hrec]; exact hr, World.putObj_heap_same (Array.getElem?_eq_some_iff.1 hl3).1, (World.putObj_heap_other (by omega)).trans (hk3.same _ _ hk2 rfl), KeptAt.putObj _ _ _ (by omega), fun K s hK hs => hK.putObj _ hs (by omega) hl3 rfl⟩
    rintro e a3 X hp
    cases e with
    | normal =>
      obtain ⟨Y, _, hr, h4, h5, h6, h7⟩ := fin none X hp.1
      exact ⟨_, _, hr, .inl ⟨rfl, ⟨h7 I _ hI hp.2.2, h4, h5⟩, (hw2.trans hp.2.1).trans h6⟩⟩
    | ret =>
      obtain ⟨Y, _, hr, h4, h5, h6, h7⟩ := fin (some .ret) X hp.1
      exact ⟨_, _, hr, .inr ⟨rfl, .ret, h7 _ _ (hIx .ret) hp.2, h4, h5⟩⟩
    | exit id =>
      obtain ⟨Y, _, hr, h4, h5, h6, h7⟩ := fin (some (.exit id)) X hp.1
      exact ⟨_, _, hr, .inr ⟨rfl, .exit id, h7 _ _ (hIx (.exit id)) hp.2, h4, h5⟩⟩
    | goto t =>
      obtain ⟨Y, _, hr, h4, h5, h6, h7⟩ := fin (some (.goto t)) X hp.1
      exact ⟨_, _, hr, .inr ⟨rfl, .goto t, h7 _ _ (hIx (.goto t)) hp.2, h4, h5⟩⟩
    | panic ch => exact hp.elim
    | outgrown => exact hp.elim
  · rintro e W2 ⟨⟨v, rfl⟩, (⟨xs, hS, hi, hl, hk⟩ | ⟨pre, hSp, c, hi, hl, hk⟩)⟩
    · exact ⟨none, _, by have := run_endLoop (P := P) hl (by rw [hrec]; simp); rw [hrec] at this; exact this, hdone _ xs _ (Nat.le_refl _) hS (hI.putObj _ hi (by omega) hl rfl) ((World.putObj_heap_other (by omega)).trans hk)⟩
    · exact ⟨some c, _, by have := run_endLoop (P := P) hl (by rw [hrec]; simp); rw [hrec] at this; exact this, hstop _ c pre _ (Nat.le_refl _) hSp ((hIx c).putObj _ hi (by omega) hl rfl) ((World.putObj_heap_other (by omega)).trans hk)⟩
end law

end Go.Proofs.YtegfhjndbnipfaaGreatDoor
