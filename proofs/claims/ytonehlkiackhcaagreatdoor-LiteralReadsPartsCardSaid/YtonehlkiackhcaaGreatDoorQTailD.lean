/- The region with a head that reads and a tail of calls, where a panic's end may look at the frame (deferred calls): what is asked of the end is asked for the head's own slots alone. Nothing is claimed here. -/
import Derived.Defers
import Derived.Test.YtonehlkiackhcaaGreatDoorQTail
set_option linter.unusedVariables false
set_option maxRecDepth 100000
set_option maxHeartbeats 16000000
namespace Go.Proofs.YtonehlkiackhcaaGreatDoor
open Go.Sort Go.RowKit
section
variable {P : Program} {ops : Array Oper} {md : Region.Mode} {C : World → Prop} {Q : Exit → Act → World → Prop}
theorem anyM_lexD {m n g : Nat} {Lq : Act → Prop} {w : World} (hsel : Region.noSelect ops = true) (hs : Region.sinkB md ops m = true) (hc : Region.chainB md ops m = true) (hm : m < ops.size) (hnm : n ≤ m) (hC : C w)
  (hend : ∀ listed a,Region.seqB md ops g n listed = true → Lq a → anyM P md ops Q C m g listed a w) :
  ∀ (l : List Oper) (k : Nat) (listed : Array Bool) (a : Act),(∀ o ∈ l,∀ c a v w,Q (.panic c) (Act.put a o.dst v) w → Q (.panic c) a w) → (∀ j,j < l.length → l[j]? = ops[k + j]?) → k + l.length = n → HeadInv md ops m listed →
  Region.lexHead md ops g l.length k listed = true → wpSteady P ops C Lq l a → anyM P md ops Q C m (l.length + g) listed a w
 | [],k,listed,a,_,_,hk,_,hB,h => by
  have : k = n:=(by simpa using hk);subst this;rw [List.length_nil,Nat.zero_add];exact hend _ _ (by simpa [Region.lexHead] using hB) h
 | o :: l,k,listed,a,hQ,hl,hk,inv,hB,h => by
  have h0 : ops[k]? = some o:=(by simpa using (hl 0 (by simp)).symm);simp only [List.length_cons,Region.lexHead,Bool.and_eq_true] at hB;obtain ⟨⟨hr,hf⟩,hB'⟩:=hB;have hkn : k < n:=(by simp only [List.length_cons] at hk; omega);have hr' : k ∈ Region.ready md ops listed:=(by simpa using hr);obtain ⟨v,hy,hK⟩ : ∃ v,YieldsW P ops C o v a ∧ wpSteady P ops C Lq l (a.put o.dst v):=by
   unfold wpSteady at h;split at h
   ·rename_i hw;obtain ⟨v,h1,h2⟩:=h;exact ⟨v,.inl ⟨hw,h1⟩,h2⟩
   ·rename_i hw;exact ⟨undef,.inr ⟨by simpa using hw,rfl⟩,h⟩
  rw [List.length_cons,show l.length + 1 + g = (l.length + g) + 1 by omega];exact anyM_first h0 (Region.noSelect_spec hsel) (fun c a w => hQ o (by simp) c a _ w) hs hc hm (by omega) (l.length + g) listed a w inv (Region.free_spec h0 hf) hr' hy hC
   (anyM_lexD hsel hs hc hm hnm hC hend l (k + 1) _ _ (fun o' ho' => hQ o' (List.mem_cons_of_mem _ ho')) (fun j hj => by have:=hl (j + 1) (by simp; omega); simpa [Nat.add_assoc,Nat.add_comm 1 j] using this) (by simp only [List.length_cons] at hk; omega) (inv.set hr' (by omega)) hB' hK)
theorem wp_region_steady_tailD {id : Nat} {a : Act} {w : World} {l : List Oper} (n m : Nat) (hmo : P.follows .mixedOrders = true) (hB : lexTailM .any l.toArray n m = true) (C : World → Prop) (hC : C w.drew)
  (hQ : ∀ o ∈ l.take n,∀ c a v w,Q (.panic c) (Act.put a o.dst v) w → Q (.panic c) a w)
  (h : wpSteady P l.toArray C (fun a' => tailM P l.toArray Q C (m - n) (l.drop n) a' w.drew) (l.take n) a) : (Code.region id l.toArray true).wp P Q a w:=by
 simp only [lexTailM,Bool.and_eq_true,decide_eq_true_eq] at hB;obtain ⟨⟨⟨⟨⟨hsel,hnm⟩,hn⟩,hs⟩,hc⟩,hlex⟩:=hB;have hn' : m < l.length:=by simpa using hn
 have htl : (l.take n).length = n:=by simp; omega
 have hdl : (l.drop n).length = l.toArray.size - n:=by simp
 have inv0 : HeadInv .any l.toArray m (Array.replicate l.toArray.size false) :=
  ⟨by simp,fun j oj _ hl => (by rw [getD_replicate_false] at hl; cases hl),fun t _ ht => getD_in (by simpa using ht) (getD_replicate_false _ _)⟩
 refine wp_region_any hmo (any_of_M (C:=C) (m:=m) _ _ _ _ ?_);have:=anyM_lexD (md:=.any) (g:=l.toArray.size - n) (w:=w.drew) hsel hs hc hn hnm hC (fun listed a' h1 h2 => by
  have:=anyM_of_seq (md:=.any) (m:=m) (l.drop n) n listed a' w.drew (fun j => by simp [List.getElem?_drop]) (by rw [hdl]; exact h1) h2
  rwa [hdl] at this) (l.take n) 0 _ a hQ (fun j hj => by
  have hj' : j < n:=(by rw [htl] at hj; exact hj);simp [hj']) (by simpa using htl) inv0 (by rw [htl]; exact hlex) h
 rw [htl,show n + (l.toArray.size - n) = l.toArray.size by omega] at this;exact this
theorem Leaves.congr {fn : Func} {tmps tmps' : Array Value} {R : Ending → World → Prop} (hr : results fn tmps = results fn tmps') : ∀ (ds : List Deferred) (u : FrameMode) (w : World),Leaves P fn tmps R ds u w → Leaves P fn tmps' R ds u w
 | [],.returning,w,h => by
  obtain ⟨v,h1,h2⟩:=h;exact ⟨v,hr ▸ h1,h2⟩
 | [],.panicking chain,w,h => h
 | [],.run,w,h => h
 | d :: ds,u,w,h => by
  obtain ⟨hu,fv,cap,f,args,h1,h2,h3⟩:=h;refine ⟨hu,fv,cap,f,args,h1,h2,h3.mono ?_⟩;intro e u' w' he;cases e with
  | returned v => exact Leaves.congr hr ds _ _ he
  | panicked c => exact Leaves.congr hr ds _ _ he
  | outgrown => exact he
end
end Go.Proofs.YtonehlkiackhcaaGreatDoor
