/- The literals: faults that are thrown, and the reader's byte. Nothing is claimed here. -/
import Derived.StillTailTactics
import Derived.Lib.QuietBelow
import Derived.WalkLawsBesides
import Derived.Test.YtonehlkiackhcaaGreatDoorLitT
set_option linter.unusedVariables false
set_option linter.unusedSimpArgs false
set_option maxRecDepth 100000
set_option maxHeartbeats 16000000
namespace Go.Proofs.YtonehlkiackhcaaGreatDoor
section
open Go.Sort Go.RowKit
section
variable {P : Program} {ops : Array Oper} {md : Region.Mode} {C : World → Prop}
def anyQL (P : Program) (md : Region.Mode) (ops : Array Oper) (C : World → Prop) (n:Nat) (L : Array Bool → Act → Prop) : Nat → Array Bool → Act → Prop
 | 0,listed,a => L listed a
 | f + 1,listed,a => Region.ready md ops listed ≠ []∧∀ i ∈ Region.ready md ops listed,i < n∧qOp P ops C i (anyQL P md ops C n L f (listed.setIfInBounds i true)) a
end
/-! A head that only reads, and a tail in one order that may overtake what is left of the head while it keeps what the head reads. -/
section
variable {P : Program} {ops : Array Oper} {md : Region.Mode} {C : World → Prop} {Q : Exit → Act → World → Prop}
structure Held (S : World → Prop) where
 w : World
 h : S w
def isHeld (S : World → Prop) (w : World) : Prop:=∃ p : Held S,w = p.w
theorem isHeld_mk {S : World → Prop} {w : World} (h : S w) : ∃ p : Held S,w = p.w:=⟨⟨w,h⟩,rfl⟩
def steady (P : Program) (o : Oper) (a : Act) (C : World → Prop) (next : Act → Prop) : Prop:=∃ v,(∀ w,C w → o.quietAt P a (fun w' => w' = w) w v)∧next (a.put o.dst v)
def wpSteady (P : Program) (ops : Array Oper) (C : World → Prop) (R : Act → Prop) : List Oper → Act → Prop
 | [],a => R a
 | o :: rest,a => if Region.wanted o (yielded ops a.tmps) then steady P o a C (wpSteady P ops C R rest) else wpSteady P ops C R rest (a.put o.dst undef)
theorem wpSteady_nil {R : Act → Prop} {a : Act} (h : R a) : wpSteady P ops C R [] a:=h
theorem wpSteady_step {R : Act → Prop} {a : Act} {o : Oper} {rest : List Oper}
  (h : ∀ K : Act → Prop,(∀ a,wpSteady P ops C R rest a → K a) → if Region.wanted o (yielded ops a.tmps) then steady P o a C K else K (a.put o.dst undef)) : wpSteady P ops C R (o :: rest) a :=
 h _ (fun _ h => h)
def YieldsW (P : Program) (ops : Array Oper) (C : World → Prop) (o : Oper) (v : Value) (a : Act) : Prop :=
 (Region.wanted o (yielded ops a.tmps) = true∧∀ w,C w → o.quietAt P a (fun w' => w' = w) w v)∨(Region.wanted o (yielded ops a.tmps) = false∧v = undef)
theorem YieldsW.wpOp {i : Nat} {o : Oper} {v : Value} {a : Act} (hi : ops[i]? = some o) (hy : YieldsW P ops C o v a) {K : Act → World → Prop} {w : World} (hC : C w) (h : K (a.put o.dst v) w) : wpOp P ops Q i K a w:=by
 unfold Go.wpOp;simp only [hi];rcases hy with ⟨hw,hv⟩ | ⟨hw,rfl⟩
 ·simp only [hw,if_true];exact .inl (Oper.wp_of_quiet (C:=fun w' => w' = w) rfl (K:=fun a' => a' = a.put o.dst v) (fun a' w' e1 e2 => by subst e1 e2; exact h) ⟨v,fun w' hw' => by subst hw'; exact hv _ hC,rfl⟩)
 ·simp only [hw,Bool.false_eq_true,if_false]; exact h
theorem YieldsW.of_same {o : Oper} {v : Value} {a a' : Act} (hy : YieldsW P ops C o v a) (he : execOp a'.eval o = execOp a.eval o) (hw : Region.wanted o (yielded ops a'.tmps) = Region.wanted o (yielded ops a.tmps)) : YieldsW P ops C o v a':=by
 unfold YieldsW Oper.quietAt at *
 rw [he,hw];exact hy
theorem wpOp_putW {j : Nat} {oi oj : Oper} {v : Value} (hj : ops[j]? = some oj) (hap : oi.apart ops oj = true) (hsi : ∀ cs b,oi.op ≠ .select cs b) (hsj : ∀ cs b,oj.op ≠ .select cs b)
  (hQ : ∀ c a w,Q (.panic c) (a.put oi.dst v) w → Q (.panic c) a w) {K : Act → World → Prop} {a : Act} {w : World}
  (hy : YieldsW P ops C oi v a) (h : wpOp P ops Q j K (a.put oi.dst v) w) : wpOp P ops Q j (fun a' w' => YieldsW P ops C oi v a'∧K (a'.put oi.dst v) w') a w:=by
 obtain ⟨h1,h2,h3⟩:=Oper.apart_spec hap;have keep : ∀ (a : Act),YieldsW P ops C oi v a → ∀ u,YieldsW P ops C oi v (a.put oj.dst u):=fun a hy u => hy.of_same (execOp_put oi hsi a oj.dst u h3) (wanted_put oi a oj.dst u h3);have keepD : ∀ d,YieldsW P ops C oi v { a with defers:=d :: a.defers }:=fun d => hy.of_same rfl rfl;unfold wpOp at *
 simp only [hj] at *
 rw [wanted_put oj a oi.dst v h1] at h;split
 ·rename_i hw;simp only [hw,if_true] at h;rcases h with h | ⟨hasks,hlets⟩
  case inr => exact .inr ⟨by unfold Oper.asks at *; rw [execOp_put oj hsj a oi.dst v h1] at hasks; exact hasks,hlets⟩
  refine .inl ?_;unfold Oper.wp at *
  rw [execOp_put oj hsj a oi.dst v h1] at h;generalize (execOp a.eval oj).run P w = r at *
  cases r with
  | ok n w' =>
   cases n <;> simp only [Oper.upon] at h ⊢
   case value u => exact ⟨keep a hy u,by rw [← Act.put_comm a v u h2]; exact h⟩
   case skip => exact ⟨keep a hy _,by rw [← Act.put_comm a v undef h2]; exact h⟩
   case defer d =>
    refine ⟨keep _ (keepD d) _,?_⟩;rw [← Act.put_comm _ v undef h2,← Act.put_defers];exact h
   case enter f args =>
    refine Calls.mono h fun e w'' he => ?_;cases e with
    | returned u => exact ⟨keep a hy u,by rw [← Act.put_comm a v u h2]; exact he⟩
    | panicked c => exact hQ _ _ _ he
    | outgrown => exact he
   case row row args => exact Rows.mono h fun u w'' he => ⟨keep a hy u,by rw [← Act.put_comm a v u h2]; exact he⟩
  | halt x w' =>
   cases x <;> simp only [Oper.upon] at h ⊢
   case panic u => exact hQ _ _ _ h
 ·rename_i hw;simp only [hw] at h;exact ⟨keep a hy _,by rw [← Act.put_comm a v undef h2]; exact h⟩
def anyM (P : Program) (md : Region.Mode) (ops : Array Oper) (Q : Exit → Act → World → Prop) (C : World → Prop) (m:Nat) : Nat → Array Bool → Act → World → Prop
 | 0,listed,a,w => Region.ready md ops listed = []∧Q .normal a w
 | f + 1,listed,a,w => (Region.ready md ops listed = [] → Q .normal a w)∧∀ i ∈ Region.ready md ops listed,wpOp P ops Q i (fun a' w' => (i < m → C w')∧anyM P md ops Q C m f (listed.setIfInBounds i true) a' w') a w
theorem any_of_M {m : Nat} : ∀ (f:Nat) (listed : Array Bool) (a : Act) (w : World),anyM P md ops Q C m f listed a w → wpAny P md ops Q f listed a w
 | 0,_,_,_,h => h
 | f + 1,_,_,_,h => ⟨h.1,fun i hi => wpOp_mono (fun a' w' h' => any_of_M f _ a' w' h'.2) (h.2 i hi)⟩
theorem anyM_first {m i : Nat} {oi : Oper} {v : Value} (hi : ops[i]? = some oi) (hsel : ∀ (j:Nat) (o : Oper) cs b,ops[j]? = some o → o.op ≠ .select cs b) (hQ : ∀ c a w,Q (.panic c) (a.put oi.dst v) w → Q (.panic c) a w)
  (hs : Region.sinkB md ops m = true) (hc : Region.chainB md ops m = true) (hm : m < ops.size) (him : i < m) :
  ∀ (f:Nat) (listed : Array Bool) (a : Act) (w : World),HeadInv md ops m listed →
   (∀ j oj,ops[j]? = some oj → j ≠ i → listed.getD j true = false → (∀ e ∈ oj.after,Region.binds md e = true → e.on ≠ i) → oi.apart ops oj = true) →
   i ∈ Region.ready md ops listed → YieldsW P ops C oi v a → C w →
   anyM P md ops Q C m f (listed.setIfInBounds i true) (a.put oi.dst v) w → anyM P md ops Q C m (f + 1) listed a w:=by
 intro f
 induction f with
 | zero =>
  intro listed a w inv _ hr hy hC H;refine ⟨fun h => (by rw [h] at hr; cases hr),fun j hj => ?_⟩
  by_cases hji : j = i
  ·subst hji; exact hy.wpOp hi hC ⟨fun _ => hC,H⟩
  ·have:=ready_mono hj hji;rw [H.1] at this;cases this
 | succ f ih =>
  intro listed a w inv hfree hr hy hC H;have hun:=(mem_ready.1 hr).1;refine ⟨fun h => (by rw [h] at hr; cases hr),fun j hj => ?_⟩
  by_cases hji : j = i
  ·subst hji; exact hy.wpOp hi hC ⟨fun _ => hC,H⟩
  ·have hjm : j < m:=by
    rcases Nat.lt_or_ge j m with h | h
    ·exact h
    ·exact absurd hj (tail_waits hs hc hm inv _ i rfl him hun j h)
   have h1:=H.2 j (ready_mono hj hji);obtain ⟨hjun,oj,hoj,hall⟩:=mem_ready.1 hj;have hnot : ∀ e ∈ oj.after,Region.binds md e = true → e.on ≠ i:=fun e he hb heq => by
    have h1:=hall e he hb;rw [heq,getD_both hun] at h1;cases h1
   have h2:=wpOp_putW hoj (hfree j oj hoj hji hjun hnot) (fun cs b => hsel i oi cs b hi) (fun cs b => hsel j oj cs b hoj) hQ hy h1
   have hfree' : ∀ k ok, ops[k]? = some ok → k ≠ i → (listed.setIfInBounds j true).getD k true = false → --
       (∀ e ∈ ok.after,Region.binds md e = true → e.on ≠ i) → oi.apart ops ok = true:=fun k ok hk hki hun hno => by
     refine hfree k ok hk hki ?_ hno
     by_cases hjk : j = k
     · subst hjk; exact hjun
     · rw [getD_set_ne true hjk] at hun; exact hun
   refine wpOp_mono (fun a' w' h3 => ⟨h3.2.1,ih (listed.setIfInBounds j true) a' w' (inv.set hj hjm) hfree' (ready_mono hr (Ne.symm hji)) h3.1 (h3.2.1 hjm) ?_⟩) h2;rw [Array.setIfInBounds_comm _ _ hji];exact h3.2.2
def thenC (C : World → Prop) (N : Act → World → Prop) (Q : Exit → Act → World → Prop) : Exit → Act → World → Prop
 | .normal,a,w => C w∧N a w
 | e,a,w => Q e a w
def tailM (P : Program) (ops : Array Oper) (Q : Exit → Act → World → Prop) (C : World → Prop) : Nat → List Oper → Act → World → Prop
 | 0,l,a,w => wpList P ops Q l a w
 | _ + 1,[],a,w => Q .normal a w
 | d + 1,o :: rest,a,w => wpList P ops (thenC C (tailM P ops Q C d rest) Q) [o] a w
theorem tailM_one {d : Nat} {o : Oper} {rest : List Oper} {a : Act} {w : World} (h : wpList P ops (thenC C (tailM P ops Q C d rest) Q) [o] a w) : tailM P ops Q C (d + 1) (o :: rest) a w:=h
theorem tailM_zero {l : List Oper} {a : Act} {w : World} (h : wpList P ops Q l a w) : tailM P ops Q C 0 l a w:=by unfold tailM; exact h
theorem thenC_mk {N : Act → World → Prop} {a : Act} {w : World} (h1 : C w) (h2 : N a w) : thenC C N Q .normal a w:=⟨h1,h2⟩
theorem thenC_lets {N : Act → World → Prop} (h : LetsOut (thenC C N Q)) : LetsOut Q:=h
theorem anyM_of_seq {m : Nat} : ∀ (l : List Oper) (k:Nat) (listed : Array Bool) (a : Act) (w : World),(∀ j,l[j]? = ops[k + j]?) →
  Region.seqB md ops l.length k listed = true → tailM P ops Q C (m - k) l a w → anyM P md ops Q C m l.length listed a w
 | [],k,_,_,_,_,hB,h => ⟨by simpa [Region.seqB] using hB,by cases hd : m - k with
  | zero => rw [hd] at h; exact h
  | succ d => rw [hd] at h; exact h⟩
 | o :: l,k,listed,a,w,hl,hB,h => by
  have h0 : ops[k]? = some o:=(by simpa using (hl 0).symm);simp only [List.length_cons,Region.seqB,Bool.and_eq_true,decide_eq_true_eq] at hB;refine ⟨fun h1 => (by rw [hB.1] at h1; cases h1),fun i hi => ?_⟩;rw [hB.1] at hi;have hik : i = k:=(by simpa using hi);subst hik;have hl' : ∀ j,l[j]? = ops[i + 1 + j]?:=fun j => by have:=hl (j + 1); simpa [Nat.add_assoc,Nat.add_comm 1 j] using this
  cases hd : m - i with
  | zero =>
   rw [hd] at h;have hw : wpOp P ops Q i (wpList P ops Q l) a w:=(by unfold wpOp; simp only [h0]; exact h);exact wpOp_mono (fun a' w' h' => ⟨fun hlt => by omega,anyM_of_seq l (i + 1) _ a' w' hl' hB.2 (by rw [show m - (i + 1) = 0 by omega]; exact h')⟩) hw
  | succ d =>
   rw [hd] at h;have hw : wpOp P ops Q i (fun a' w' => C w'∧tailM P ops Q C d l a' w') a w:=by
    unfold wpOp;simp only [h0];unfold tailM wpList at h;split
    ·rename_i hwt;simp only [hwt,if_true] at h;rcases h with h | ⟨h1,h2⟩
     ·refine .inl ?_;unfold Oper.wp at *
      generalize (execOp a.eval o).run P w = r at *
      cases r with
      | ok n w' =>
       cases n <;> simp only [Oper.upon] at h ⊢ <;> first | exact h | (exact Calls.mono h (fun e w'' he => by cases e <;> exact he)) | (exact Rows.mono h (fun _ _ he => he))
      | halt x w' => cases x <;> simp only [Oper.upon] at h ⊢ <;> exact h
     ·exact .inr ⟨h1,thenC_lets h2⟩
    ·rename_i hwt;simp only [hwt] at h;exact h
   exact wpOp_mono (fun a' w' h' => ⟨fun _ => h'.1,anyM_of_seq l (i + 1) _ a' w' hl' hB.2 (by rw [show m - (i + 1) = d by omega]; exact h'.2)⟩) hw
theorem anyM_lex {m n g : Nat} {Lq : Act → Prop} {w : World} (hsel : Region.noSelect ops = true) (hs : Region.sinkB md ops m = true) (hc : Region.chainB md ops m = true) (hm : m < ops.size) (hnm : n ≤ m) (hC : C w)
  (hQ : ∀ c a d v w,Q (.panic c) (Act.put a d v) w → Q (.panic c) a w)
  (hend : ∀ listed a,Region.seqB md ops g n listed = true → Lq a → anyM P md ops Q C m g listed a w) :
  ∀ (l : List Oper) (k:Nat) (listed : Array Bool) (a : Act),(∀ j,j < l.length → l[j]? = ops[k + j]?) → k + l.length = n → HeadInv md ops m listed →
  Region.lexHead md ops g l.length k listed = true → wpSteady P ops C Lq l a → anyM P md ops Q C m (l.length + g) listed a w
 | [],k,listed,a,_,hk,_,hB,h => by
  have : k = n:=(by simpa using hk);subst this;rw [List.length_nil,Nat.zero_add];exact hend _ _ (by simpa [Region.lexHead] using hB) h
 | o :: l,k,listed,a,hl,hk,inv,hB,h => by
  have h0 : ops[k]? = some o:=(by simpa using (hl 0 (by simp)).symm);simp only [List.length_cons,Region.lexHead,Bool.and_eq_true] at hB;obtain ⟨⟨hr,hf⟩,hB'⟩:=hB;have hkn : k < n:=(by simp only [List.length_cons] at hk; omega);have hr' : k ∈ Region.ready md ops listed:=(by simpa using hr);obtain ⟨v,hy,hK⟩ : ∃ v,YieldsW P ops C o v a∧wpSteady P ops C Lq l (a.put o.dst v):=by
   unfold wpSteady at h;split at h
   ·rename_i hw;obtain ⟨v,h1,h2⟩:=h;exact ⟨v,.inl ⟨hw,h1⟩,h2⟩
   ·rename_i hw;exact ⟨undef,.inr ⟨by simpa using hw,rfl⟩,h⟩
  rw [List.length_cons,show l.length + 1 + g = (l.length + g) + 1 by omega];exact anyM_first h0 (Region.noSelect_spec hsel) (fun c a w => hQ c a _ _ w) hs hc hm (by omega) (l.length + g) listed a w inv (Region.free_spec h0 hf) hr' hy hC
   (anyM_lex hsel hs hc hm hnm hC hQ hend l (k + 1) _ _ (fun j hj => by have:=hl (j + 1) (by simp; omega); simpa [Nat.add_assoc,Nat.add_comm 1 j] using this) (by simp only [List.length_cons] at hk; omega) (inv.set hr' (by omega)) hB' hK)
def lexTailM (md : Region.Mode) (ops : Array Oper) (n m:Nat) : Bool :=
 Region.noSelect ops && decide (n ≤ m) && decide (m < ops.size) && Region.sinkB md ops m && Region.chainB md ops m && Region.lexHead md ops (ops.size - n) n 0 (Array.replicate ops.size false)
theorem wp_region_steady_tail {id : Nat} {a : Act} {w : World} {l : List Oper} (n m:Nat) (hmo : P.follows .mixedOrders = true) (hB : lexTailM .any l.toArray n m = true) (C : World → Prop) (hC : C w.drew)
  (hQ : ∀ c a d v w,Q (.panic c) (Act.put a d v) w → Q (.panic c) a w)
  (h : wpSteady P l.toArray C (fun a' => tailM P l.toArray Q C (m - n) (l.drop n) a' w.drew) (l.take n) a) : (Code.region id l.toArray true).wp P Q a w:=by
 simp only [lexTailM,Bool.and_eq_true,decide_eq_true_eq] at hB;obtain ⟨⟨⟨⟨⟨hsel,hnm⟩,hn⟩,hs⟩,hc⟩,hlex⟩:=hB;have hn' : m < l.length:=by simpa using hn
 have htl : (l.take n).length = n:=by simp; omega
 have hdl : (l.drop n).length = l.toArray.size - n:=by simp
 have inv0 : HeadInv .any l.toArray m (Array.replicate l.toArray.size false) :=
  ⟨by simp,fun j oj _ hl => (by rw [getD_replicate_false] at hl; cases hl),fun t _ ht => getD_in (by simpa using ht) (getD_replicate_false _ _)⟩
 refine wp_region_any hmo (any_of_M (C:=C) (m:=m) _ _ _ _ ?_);have:=anyM_lex (md:=.any) (g:=l.toArray.size - n) (w:=w.drew) hsel hs hc hn hnm hC hQ (fun listed a' h1 h2 => by
  have:=anyM_of_seq (md:=.any) (m:=m) (l.drop n) n listed a' w.drew (fun j => by simp [List.getElem?_drop]) (by rw [hdl]; exact h1) h2
  rwa [hdl] at this) (l.take n) 0 _ a (fun j hj => by
  have hj' : j < n:=(by rw [htl] at hj; exact hj);simp [hj']) (by simpa using htl) inv0 (by rw [htl]; exact hlex) h
 rw [htl,show n + (l.toArray.size - n) = l.toArray.size by omega] at this;exact this
end
end
section
open Go.RowKit Go.Shelf Go.Lib Go.Maps
theorem law : Keyed Tryz.prog 9:=string_keyed Tryz.underlying9
theorem zeroInt (w : World) : (zeroValue 3).run Tryz.prog w = .ok (.int .i64 0) w:=by kernel_rfl
theorem info_int : (Tryz.prog.info? 3).map (fun i => (i.zero,i.size,i.bytes)) = some (some (.int .i64 0),1,8):=by kernel_rfl
theorem info_byte : (Tryz.prog.info? 5).map (fun i => (i.zero,i.size,i.bytes)) = some (some (.int .u8 0),1,1):=by kernel_rfl
theorem info_tok : (Tryz.prog.info? 130).map (fun i => (i.zero,i.size,i.bytes)) = some (some (.agg #[.int .i64 0,.string ByteArray.empty,.int .i64 0,.int .i64 0]),4,40):=by kernel_rfl
def intc (l : List Nat) : List Value:=l.map fun (n:Nat) => Value.int .i64 (n:Int)
def bytc (l : List UInt8) : List Value:=l.map fun (c : UInt8) => Value.int .u8 (c.toNat:Int)
def tokc (t : Tok) : List Value:=[.int .i64 t.kind,.string ⟨t.text.toArray⟩,.int .i64 t.line,.int .i64 t.col]
def strs (l : List (List UInt8)) : List Value:=l.map (fun s => Value.string ⟨s.toArray⟩)
def wordsF : List (List UInt8) → Nat → DataW Unit → DataW Unit
 | [],_,D => D
 | x :: l,k,D => wordsF l (k + 1) (D.put (.string x) (.lit (.int .i64 (k:Int))))
def wordsD : DataW Unit:=wordsF kws 0 (.map [])
def scCells (l : List UInt8) (at_:Nat) (vi vo vt : Value) (m:Nat) (vs : Value) : Array Value :=
 #[.string ⟨l.toArray⟩,.int .i64 (at_:Int),.int .i64 (lineAt l at_),.int .i64 ((bol l at_:Nat):Int),vi,vo,vt,.map (some m),vs]
structure ScR (w : World) (B g:Nat) (cs : Array Value) (ind : List Nat) (op : List UInt8) (ts : List Tok) (vi vo vt : Value) (m:Nat) (vs : Value) : Prop where
 blk : Blk w g 180 cs
 ge : B ≤ g
 oi : w.ownsRow B 3 1 vi ind.length (intc ind.reverse)
 oo : w.ownsRow B 5 1 vo op.length (bytc op.reverse)
 ot : w.ownsRow B 130 4 vt ts.length (ts.flatMap tokc)
 om : w.ownsMap Tryz.prog 9 (plainElem Tryz.prog 3) m 38 wordsD
 os : w.ownsRow B 9 1 vs 43 (strs sgs)
def Sc (w : World) (B g:Nat) (l : List UInt8) (at_:Nat) (ind : List Nat) (op : List UInt8) (ts : List Tok) (vi vo vt : Value) (m:Nat) (vs : Value) : Prop :=
 ScR w B g (scCells l at_ vi vo vt m vs) ind op ts vi vo vt m vs
theorem row_kind {w : World} {B : Nat} {e : TypeId} {size : Nat} {v : Value} {n : Nat} {xs : List Value} (h : w.ownsRow B e size v n xs) : ∀ g,v.ownBlock = some g → ∃ c fz,w.heap[g]? = some (.cells c e fz):=by
 intro g hg;rcases h.2 with ⟨rfl,_⟩ | ⟨g',cap,cur,rfl,_,hgg,_⟩
 ·simp [Value.ownBlock] at hg
 ·simp [Value.ownBlock] at hg;subst hg;exact ⟨cur,(0,0),hgg⟩
theorem rows_ne {w : World} {B1 B2 : Nat} {e1 e2 : TypeId} {s1 s2 : Nat} {v1 v2 : Value} {n1 n2 : Nat} {xs1 xs2 : List Value} (h1 : w.ownsRow B1 e1 s1 v1 n1 xs1) (h2 : w.ownsRow B2 e2 s2 v2 n2 xs2) (hne : e1 ≠ e2) : v1.ownBlock = none∨v1.ownBlock ≠ v2.ownBlock:=by
 cases hv : v1.ownBlock with
 | none => exact .inl rfl
 | some g =>
  refine .inr fun e => ?_;obtain ⟨c,fz,hc⟩:=row_kind h1 g hv;obtain ⟨c',fz',hc'⟩:=row_kind h2 g e.symm;rw [hc] at hc';injection hc' with hc';injection hc' with _ h3;exact hne h3
theorem map_row_ne {w : World} {B : Nat} {e : TypeId} {s : Nat} {v : Value} {n k m : Nat} {xs : List Value} {kt : TypeId} {R : Value → Option (DataW Unit × List MemPlace)} {D : DataW Unit} (h : w.ownsMap Tryz.prog kt R m k D) (h2 : w.ownsRow B e s v n xs) : some m ≠ v.ownBlock:=by
 intro hv;obtain ⟨es,clock,hb,_⟩:=h;obtain ⟨c,fz,hc⟩:=row_kind h2 m hv.symm;rw [hb] at hc;simp at hc
theorem map_blk_ne {w : World} {g t k m : Nat} {cs : Array Value} {kt : TypeId} {R : Value → Option (DataW Unit × List MemPlace)} {D : DataW Unit} (h : w.ownsMap Tryz.prog kt R m k D) (h2 : Blk w g t cs) : m ≠ g:=by
 rintro rfl;obtain ⟨es,clock,hb,_⟩:=h;unfold Blk at h2;rw [hb] at h2;simp at h2
section
variable {w w' : World} {B g : Nat} {cs : Array Value} {l : List UInt8} {at_ : Nat} {ind : List Nat} {op : List UInt8} {ts : List Tok} {vi vo vt : Value} {m : Nat} {vs : Value}
theorem below_grown (hb : Below w.heap.size w w') : w.grownBy w' none:=⟨hb.os,hb.tape,hb.output,hb.size,fun i hi _ => hb.block i hi⟩
theorem ScR.belowS (h : ScR w B g cs ind op ts vi vo vt m vs) (hb : Below w.heap.size w w') : ScR w' B g cs ind op ts vi vo vt m vs :=
 ⟨h.blk.belowS hb,h.ge,own_belowS h.oi hb,own_belowS h.oo hb,own_belowS h.ot hb,h.om.kept (below_grown hb) (by simp),own_belowS h.os hb⟩
theorem Sc.belowS (h : Sc w B g l at_ ind op ts vi vo vt m vs) (hb : Below w.heap.size w w') : Sc w' B g l at_ ind op ts vi vo vt m vs:=ScR.belowS h hb
theorem ScR.drewN (h : ScR w B g cs ind op ts vi vo vt m vs) (n:Nat) : ScR (w.drewN n) B g cs ind op ts vi vo vt m vs:=h.belowS (below_drewN (Below.refl _ _) n)
theorem ScR.alloc (h : ScR w B g cs ind op ts vi vo vt m vs) (o : Obj) : ScR (w.alloc o) B g cs ind op ts vi vo vt m vs:=h.belowS ((Below.refl _ _).alloc (Nat.le_refl _) _)
theorem ScR.set (h : ScR w B g cs ind op ts vi vo vt m vs) (i:Nat) (u : Value) : ScR (w.setCell ⟨g,i,none⟩ u) B g (cs.setIfInBounds i u) ind op ts vi vo vt m vs :=
 ⟨h.blk.set_ i u,h.ge,ownsRow_setCell_other h.oi (own_blk_ne h.oi h.blk (by decide)) u,ownsRow_setCell_other h.oo (own_blk_ne h.oo h.blk (by decide)) u,ownsRow_setCell_other h.ot (own_blk_ne h.ot h.blk (by decide)) u,
  h.om.setCell (a:=⟨g,i,none⟩) (map_blk_ne h.om h.blk) u,ownsRow_setCell_other h.os (own_blk_ne h.os h.blk (by decide)) u⟩
theorem ScR.growT (h : ScR w B g cs ind op ts vi vo vt m vs) {vt' : Value} {ts' : List Tok} (hg : w.grownBy w' vt.ownBlock) (ho : w'.ownsRow B 130 4 vt' ts'.length (ts'.flatMap tokc)) : ScR w' B g cs ind op ts' vi vo vt' m vs :=
 ⟨h.blk.grown hg (fun e => own_blk_ne h.ot h.blk (by decide) e.symm),h.ge,h.oi.kept hg (rows_ne h.oi h.ot (by decide)),h.oo.kept hg (rows_ne h.oo h.ot (by decide)),ho,h.om.kept hg (map_row_ne h.om h.ot),h.os.kept hg (rows_ne h.os h.ot (by decide))⟩
theorem ScR.growI (h : ScR w B g cs ind op ts vi vo vt m vs) {vi' : Value} {ind' : List Nat} (hg : w.grownBy w' vi.ownBlock) (ho : w'.ownsRow B 3 1 vi' ind'.length (intc ind'.reverse)) : ScR w' B g cs ind' op ts vi' vo vt m vs :=
 ⟨h.blk.grown hg (fun e => own_blk_ne h.oi h.blk (by decide) e.symm),h.ge,ho,h.oo.kept hg (rows_ne h.oo h.oi (by decide)),h.ot.kept hg (rows_ne h.ot h.oi (by decide)),h.om.kept hg (map_row_ne h.om h.oi),h.os.kept hg (rows_ne h.os h.oi (by decide))⟩
theorem ScR.growO (h : ScR w B g cs ind op ts vi vo vt m vs) {vo' : Value} {op' : List UInt8} (hg : w.grownBy w' vo.ownBlock) (ho : w'.ownsRow B 5 1 vo' op'.length (bytc op'.reverse)) : ScR w' B g cs ind op' ts vi vo' vt m vs :=
 ⟨h.blk.grown hg (fun e => own_blk_ne h.oo h.blk (by decide) e.symm),h.ge,h.oi.kept hg (rows_ne h.oi h.oo (by decide)),ho,h.ot.kept hg (rows_ne h.ot h.oo (by decide)),h.om.kept hg (map_row_ne h.om h.oo),h.os.kept hg (rows_ne h.os h.oo (by decide))⟩
end
def probV (c i:Int) : Value:=.iface 181 (.agg #[.int .i64 c,.int .i64 i])
end
section
open Go.RowKit Go.Shelf Go.Lib Go.Maps
theorem fail_any (p : Value) (c i:Int) (w : World) : Calls Tryz.prog 148 #[p,.int .i64 c,.int .i64 i] w fun e w' => e = .panicked [{ v:=probV c i,recovered:=false }]∧w = w':=by
 go_enter Tryz.func148,Tryz.ntmps148;go_wp2;exact ⟨rfl,rfl,rfl⟩
theorem isLet_n (c : UInt8) : isLet c = decide ((97 ≤ (c.toNat:Int)∧(c.toNat:Int) ≤ 122)∨(65 ≤ (c.toNat:Int)∧(c.toNat:Int) ≤ 90)∨(c.toNat:Int) = 95):=by
 rw [Bool.eq_iff_iff];unfold isLet;simp only [Bool.or_eq_true,Bool.and_eq_true,decide_eq_true_eq,beq_iff_eq,UInt8.le_iff_toNat_le,← UInt8.toNat_inj];simp;omega
theorem isDig_n (c : UInt8) : isDig c = decide (48 ≤ (c.toNat:Int)∧(c.toNat:Int) ≤ 57):=by
 rw [Bool.eq_iff_iff];unfold isDig;simp only [Bool.and_eq_true,decide_eq_true_eq,UInt8.le_iff_toNat_le];simp;omega
theorem isBin_n (c : UInt8) : isBin c = decide ((c.toNat:Int) = 48∨(c.toNat:Int) = 49):=by
 rw [Bool.eq_iff_iff];unfold isBin;simp only [Bool.or_eq_true,decide_eq_true_eq,beq_iff_eq,← UInt8.toNat_inj];simp;omega
theorem isHex_n (c : UInt8) : isHex c = decide ((48 ≤ (c.toNat:Int)∧(c.toNat:Int) ≤ 57)∨(97 ≤ (c.toNat:Int)∧(c.toNat:Int) ≤ 102)):=by
 rw [Bool.eq_iff_iff];unfold isHex;rw [Bool.or_eq_true,isDig_n];simp only [Bool.and_eq_true,decide_eq_true_eq,UInt8.le_iff_toNat_le];simp;omega
theorem inLn_n (c : UInt8) : inLn c = ((c.toNat:Int) != 10):=by
 rw [Bool.eq_iff_iff];unfold inLn;rw [bne_iff_ne,bne_iff_ne,ne_eq,ne_eq,← UInt8.toNat_inj];simp;omega
theorem letter_any (c : UInt8) (w : World) : Calls Tryz.prog 153 #[.int .u8 (c.toNat:Int)] w fun e w' => e = .returned (.bool (isLet c))∧w = w':=by
 have HE:=hid (isLet_n c);generalize isLet c = r at *
 generalize (c.toNat:Int) = n at *
 go_enter Tryz.func153,Tryz.ntmps153;go_wp2
 all_goals
  go_ret;refine ⟨ret_bool ?_,rfl⟩;rw [HE.out,Bool.eq_iff_iff];simp only [Bool.or_eq_true,Bool.and_eq_true,decide_eq_true_eq,beq_iff_eq,true_iff] <;> first | omega | (simp <;> omega)
theorem digit_any (c : UInt8) (w : World) : Calls Tryz.prog 155 #[.int .u8 (c.toNat:Int)] w fun e w' => e = .returned (.bool (isDig c))∧w = w':=by
 have HE:=hid (isDig_n c);generalize isDig c = r at *
 generalize (c.toNat:Int) = n at *
 go_enter Tryz.func155,Tryz.ntmps155;go_wp2
 all_goals
  go_ret;refine ⟨ret_bool ?_,rfl⟩;rw [HE.out,Bool.eq_iff_iff];simp only [Bool.or_eq_true,Bool.and_eq_true,decide_eq_true_eq,beq_iff_eq,true_iff] <;> first | omega | (simp <;> omega)
theorem number1_any (c : UInt8) (w : World) : Calls Tryz.prog 189 #[.int .u8 (c.toNat:Int)] w fun e w' => e = .returned (.bool (isBin c))∧w = w':=by
 have HE:=hid (isBin_n c);generalize isBin c = r at *
 generalize (c.toNat:Int) = n at *
 go_enter Tryz.func189,Tryz.ntmps189;go_wp2
 all_goals
  go_ret;refine ⟨ret_bool ?_,rfl⟩;rw [HE.out,Bool.eq_iff_iff];simp only [Bool.or_eq_true,Bool.and_eq_true,decide_eq_true_eq,beq_iff_eq,true_iff] <;> first | omega | (simp <;> omega)
theorem inLine_any (p : Value) (c : UInt8) (w : World) : Calls Tryz.prog 185 #[p,.int .u8 (c.toNat:Int)] w fun e w' => e = .returned (.bool (inLn c))∧w = w':=by
 have HE:=hid (inLn_n c);generalize inLn c = r at *
 generalize (c.toNat:Int) = n at *
 go_enter Tryz.func185,Tryz.ntmps185;go_wp2;go_ret;exact ⟨ret_bool HE.out.symm,rfl⟩
theorem name1_any (c : UInt8) (w : World) : Calls Tryz.prog 188 #[.int .u8 (c.toNat:Int)] w fun e w' => e = .returned (.bool (isWrd c))∧w = w':=by
 have HE:=hid (show isWrd c = (isLet c || isDig c) from rfl);have h1:=letter_any c;have h2:=digit_any c;have H1:=hid h1;have H2:=hid h2;clear h1 h2;generalize isWrd c = r at *
 generalize isLet c = r1 at *
 generalize isDig c = r2 at *
 generalize (c.toNat:Int) = n at *
 go_enter Tryz.func188,Tryz.ntmps188;go_wp2_with fail;refine (H1.out _).mono ?_;rintro e w1 ⟨rfl,rfl⟩;cases r1
 ·go_wp2_with fail;refine (H2.out _).mono ?_;rintro e w1 ⟨rfl,rfl⟩;go_wp2_with fail;go_ret;exact ⟨ret_bool (by rw [HE.out,Bool.false_or]),rfl⟩
 ·go_wp2_with fail;go_ret;exact ⟨ret_bool (by rw [HE.out,Bool.true_or]),rfl⟩
theorem number2_any (c : UInt8) (w : World) : Calls Tryz.prog 190 #[.int .u8 (c.toNat:Int)] w fun e w' => e = .returned (.bool (isHex c))∧w = w':=by
 have HE:=hid (isHex_n c);have HD:=hid (isDig_n c);have h2:=digit_any c;have H2:=hid h2;clear h2;generalize isHex c = r at *
 generalize isDig c = r2 at *
 generalize (c.toNat:Int) = n at *
 go_enter Tryz.func190,Tryz.ntmps190;go_wp2_with fail;refine (H2.out _).mono ?_;rintro e w1 ⟨rfl,rfl⟩;cases r2
 ·have hd:=HD.out;have hd' : ¬ (48 ≤ n∧n ≤ 57):=of_decide_eq_false hd.symm;have HDD:=hid hd';clear hd hd';go_wp2_with fail
  all_goals
   go_ret;refine ⟨ret_bool ?_,rfl⟩;have hd:=HDD.out;rw [HE.out,Bool.eq_iff_iff];simp only [Bool.or_eq_true,Bool.and_eq_true,decide_eq_true_eq,beq_iff_eq,true_iff] <;> first | omega | (simp <;> omega)
 ·have hd:=HD.out;have hd' : (48 ≤ n∧n ≤ 57):=of_decide_eq_true hd.symm;have HDD:=hid hd';clear hd hd';go_wp2_with fail;go_ret;refine ⟨ret_bool ?_,rfl⟩;have hd:=HDD.out;rw [HE.out,decide_eq_true (by omega)]
theorem run_idx (l : List UInt8) (k:Nat) (h : k < l.length) (x:Int) (hx : x = (k:Int)) (W : World) : (Instr.index 9 (.string ⟨l.toArray⟩) (.int .i64 x)).run Tryz.prog W = .ok (.int .u8 ((at0 l k).toNat:Int)) W:=by
 subst hx;rw [run_index_string W 9 ⟨l.toArray⟩ .i64 _ Tryz.underlying9,dif_pos ⟨by omega,by simpa [ByteArray.size] using h⟩,at0_lt l k h];rfl
theorem run_sub (l : List UInt8) (i j:Nat) (h1 : i ≤ j) (h2 : j ≤ l.length) (x y:Int) (hx : x = (i:Int)) (hy : y = (j:Int)) (W : World) :
  (Instr.slice 9 (.string ⟨l.toArray⟩) (some (.int .i64 x)) (some (.int .i64 y)) none).run Tryz.prog W = .ok (.string ⟨((l.drop i).take (j - i)).toArray⟩) W:=by
 subst hx hy;rw [run_slice_string W 9 ⟨l.toArray⟩ .i64 .i64 _ _ Tryz.underlying9 (by omega) (by omega) (by simp [ByteArray.size]; omega),Int.toNat_natCast,Int.toNat_natCast,extract_sub]
theorem run_tail (l : List UInt8) (i:Nat) (h2 : i ≤ l.length) (x:Int) (hx : x = (i:Int)) (W : World) :
  (Instr.slice 9 (.string ⟨l.toArray⟩) (some (.int .i64 x)) none none).run Tryz.prog W = .ok (.string ⟨(l.drop i).toArray⟩) W:=by
 subst hx;rw [run_slice_string_from_if W 9 ⟨l.toArray⟩ .i64 _ Tryz.underlying9,if_pos ⟨by omega,by simp [ByteArray.size]; omega⟩,Int.toNat_natCast,extract_from _ _ _ (by simp [ByteArray.size])]
theorem peek_any {w : World} {B g : Nat} {l : List UInt8} {at_ : Nat} {ind : List Nat} {op : List UInt8} {ts : List Tok} {vi vo vt : Value} {m : Nat} {vs : Value} (h : Sc w B g l at_ ind op ts vi vo vt m vs) (n:Nat) (hl : l.length ≤ 16000) (ha : at_ ≤ l.length) (hn : n ≤ 2) :
  Calls Tryz.prog 147 #[.pointer (some ⟨g,0,none⟩),.int .i64 (n:Int)] w fun e w' => e = .returned (.int .u8 ((at0 l (at_ + n)).toNat:Int))∧∃ k,w' = w.drewN k:=by
 obtain ⟨q1,q2,q3⟩:=h.blk.rules;unfold scCells at q1;have e1 : IntKind.i64.wrap ((at_:Int) + (n:Int)) = (at_:Int) + (n:Int):=IntWalk.i64_in _ (by omega)
 by_cases hlt : at_ + n < l.length
 ·have d2 : decide ((at_:Int) + (n:Int) < (l.length:Int)) = true:=decide_eq_true (by omega);have hix:=run_idx l (at_ + n) hlt ((at_:Int) + (n:Int)) (by omega);clear h;go_enter Tryz.func147,Tryz.ntmps147;go_wp2_with fail;go_quiet (fail);go_wp2_with fail;go_quiet (fail);go_wp2_with fail;go_ret;exact ⟨rfl,_,World.drewN_drewN _ _ _⟩
 ·have hb:=at0_ge l (at_ + n) (by omega);have HB:=hid hb;have d2 : decide ((at_:Int) + (n:Int) < (l.length:Int)) = false:=decide_eq_false (by omega);clear hb h;go_enter Tryz.func147,Tryz.ntmps147;go_wp2_with fail;go_quiet (fail);go_wp2_with fail;go_ret;exact ⟨by rw [HB.out]; rfl,_,rfl⟩
end
section
open Go.RowKit Go.Lib
def rdC (l : List UInt8) (i:Nat) (x : Sht) : Array Value:=#[.string ⟨l.toArray⟩,.int .i64 (i:Int),.int .i64 (x.lim:Int),.int .u8 (x.pre.toNat:Int),.int .u8 (x.quo.toNat:Int)]
def probL (c i:Int) : Value:=.iface 125 (.agg #[.int .i64 c,.int .i64 i])
theorem lfault_any (c i:Int) (w : World) : Calls Tryz.prog 20 #[.int .i64 c,.int .i64 i] w fun e w' => e = .returned (.agg #[.int .i64 c,.int .i64 i])∧Below w.heap.size w w':=by
 go_enter Tryz.func20,Tryz.ntmps20;go_wp2_with fail;exact ret_blk rfl rfl (Blk.new w 29 #[.int .i64 c,.int .i64 i]) _ Tryz.underlying29 rfl (by kernel_rfl) rfl ⟨rfl,(Below.refl _ _).alloc (Nat.le_refl _) _⟩
theorem lfail_any (p : Value) (i:Int) (w : World) : Calls Tryz.prog 59 #[p,.int .i64 i] w fun e w' => e = .panicked [{ v:=probL 1 i,recovered:=false }]∧Below w.heap.size w w':=by
 go_enter Tryz.func59,Tryz.ntmps59;go_wp2_with fail;refine (lfault_any 1 i w).mono ?_;rintro e w1 ⟨rfl,hb⟩;go_wp2_with fail;exact ⟨rfl,rfl,hb⟩
end
end Go.Proofs.YtonehlkiackhcaaGreatDoor