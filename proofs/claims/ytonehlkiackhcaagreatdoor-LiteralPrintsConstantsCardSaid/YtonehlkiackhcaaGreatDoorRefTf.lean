/- The reference's Tokens: the tokens of a source, or its fault: the faults of the text. Nothing is claimed here. -/
import Derived.Test.YtonehlkiackhcaaGreatDoorLitRp
set_option linter.unusedVariables false
set_option linter.unusedSimpArgs false
set_option maxRecDepth 100000
set_option maxHeartbeats 16000000
namespace Go.Proofs.YtonehlkiackhcaaGreatDoor
section
open Go.RowKit Go.Lib Go.Sort Go.Maps
def preD : DataW Unit:=((DataW.map []).put (.string [48,120]) (.lit (.int .i64 16))).put (.string [48,98]) (.lit (.int .i64 2))
theorem pre_is : Maps.has preD (.string [48,120]) = true∧Maps.has preD (.string [48,98]) = true:=⟨by kernel_rfl,by kernel_rfl⟩
structure RnC (w : World) (qb:Nat) (wi : World) : Prop where
 v : Blk wi w.heap.size 26 #[.int .i64 0,.bool false,.slice none 0 0,.bool false,.slice none 0 0,.string ⟨#[]⟩,.int .i64 0]
 p : Blk wi (w.heap.size + 1) 29 #[.int .i64 0,.int .i64 0]
 hq : w.heap.size + 2 ≤ qb
 q : Blk wi qb 29 #[.int .i64 1,.int .i64 (-1)]
 bel : Below w.heap.size w wi
theorem RnC.step {w wi wj : World} {qb : Nat} (h : RnC w qb wi) (hb : Below wi.heap.size wi wj) : RnC w qb wj:=by
 obtain ⟨h1,h2,h3,h4,h5⟩:=h;exact ⟨h1.belowS hb,h2.belowS hb,h3,h4.belowS hb,below_then h5 hb h5.size⟩
def PreL (left : Lit → Bool) : Prop:=∀ kl,left kl = true → kl = .string [48,120]∨kl = .string [48,98]
def PreN (s : List UInt8) (left : Lit → Bool) : Prop:=∀ kl,Maps.has preD kl = true → left kl = false → (kl = .string [48,120]∧hasPrefix s [48,120] = false)∨(kl = .string [48,98]∧hasPrefix s [48,98] = false)
theorem PreL.next {left : Lit → Bool} (h : PreL left) (k0 : Lit) : PreL (fun x => left x && !x.sameKey k0):=by
 intro kl hk;simp only [Bool.and_eq_true] at hk;exact h kl hk.1
theorem PreN.all {s : List UInt8} {left : Lit → Bool} (h : PreN s left) (hl : ∀ kl,left kl = false) : hasPrefix s [48,120] = false∧hasPrefix s [48,98] = false:=by
 constructor
 ·rcases h _ pre_is.1 (hl _) with ⟨_,h⟩ | ⟨h,_⟩
  ·exact h
  ·injection h with h;exact absurd h (by decide)
 ·rcases h _ pre_is.2 (hl _) with ⟨h,_⟩ | ⟨_,h⟩
  ·injection h with h;exact absurd h (by decide)
  ·exact h
theorem RnC.next {w wi wj : World} {qb mb rb n : Nat} {D : DataW Unit} {left : Lit → Bool} {cnt : Nat} {R : Value → Option (DataW Unit × List MemPlace)} (h : RnC w qb wi) (hr : wi.ranges Tryz.prog 9 R mb rb n D left cnt) (hg : wi.grownBy wj (some rb)) (hle : w.heap.size ≤ rb) : RnC w qb wj:=by
 obtain ⟨h1,h2,h3,h4,h5⟩:=h;obtain ⟨es,clock,since,seen,c0,-,-,-,-,hit,-⟩:=hr;have hk : ∀ {g t : Nat} {cs : Array Value},Blk wi g t cs → Blk wj g t cs:=by
  intro g t cs hb;refine (hg.block g hb.lt (fun e => ?_)).trans hb;injection e with e;subst e;rw [hb] at hit;cases hit
 exact ⟨hk h1,hk h2,h3,hk h4,h5.grown hg h5.size (fun g e => by injection e with e; omega)⟩
theorem pre_form {s : List UInt8} {a b : UInt8} (h : hasPrefix s [a,b] = true) : ∃ r,s = a :: b :: r:=by
 unfold hasPrefix at h;obtain ⟨r,hr⟩:=List.isPrefixOf_iff_prefix.1 h;exact ⟨r,hr.symm⟩
theorem idx_cons {c : UInt8} (r : List UInt8) (h : c ≠ 46) : index (c :: r) [46] = if index r [46] = -1 then -1 else index r [46] + 1:=by
 show (if [46].isPrefixOf (c :: r) then 0 else if index r [46] == -1 then -1 else index r [46] + 1) = _;rw [if_neg (by simp [List.isPrefixOf]; exact fun e => h e.symm)]
 by_cases h1 : index r [46] = -1
 ·rw [if_pos h1,h1]; rfl
 ·rw [if_neg h1,if_neg (by simpa using h1)]
theorem cut_nof {s u f : List UInt8} (h : cut s [46] = (u,f,false)) : u = s∧f = []:=by
 unfold cut at h;split at h
 ·cases h
 ·cases h; exact ⟨rfl,rfl⟩
structure RfM (w : World) (qb bb:Nat) (x : Nat × Nat) (v12 v16 : Value) (wr : World) : Prop where
 a : ∃ A c,v12 = .slice A (dig 10 x.1).length c∧Row wr A (i64s (dig 10 x.1))
 b : ∃ A c,v16 = .slice A (dig 10 x.2).length c∧Row wr A (i64s (dig 10 x.2))
 c0 : wr.cell? ⟨bb,0,none⟩ = some (.int .i64 2)
 c1 : wr.cell? ⟨bb,1,none⟩ = some (.int .i64 5)
 hbb : bb < wr.heap.size
 R : RnC w qb wr
theorem RfM.step {w wr w2 : World} {qb bb : Nat} {x : Nat × Nat} {v12 v16 : Value} (h : RfM w qb bb x v12 v16 wr) (hb : Below wr.heap.size wr w2) : RfM w qb bb x v12 v16 w2:=by
 obtain ⟨⟨A,c,h1,h2⟩,⟨A',c',h3,h4⟩,h5,h6,h7,h8⟩:=h;exact ⟨⟨A,c,h1,h2.keepB hb⟩,⟨A',c',h3,h4.keepB hb⟩,(hb.cell (p:=⟨bb,0,none⟩) h7).trans h5,(hb.cell (p:=⟨bb,1,none⟩) h7).trans h6,Nat.lt_of_lt_of_le h7 hb.size,h8.step hb⟩
def RfIn (w : World) (qb bb p B:Nat) (X : Nat × Nat) (v12 v16 i : Value) (wr : World) : Prop:=∃ j : Nat,j ≤ p∧i = .int .i64 (j:Int)∧RfM w qb bb (refI B j X) v12 v16 wr
def RfOut (w : World) (qb bb n p:Nat) (v12 v16 i : Value) (wr : World) : Prop:=∃ k : Nat,k ≤ 2∧i = .int .i64 (k:Int)∧RfM w qb bb (refO n p k) v12 v16 wr
theorem RnC.new {w wi : World} (h : NuC w wi) : RnC w wi.heap.size (wi.alloc (.cells #[.int .i64 1,.int .i64 (-1)] 29)):=by
 obtain ⟨h1,h2,h3⟩:=h;refine ⟨h1.alloc _,h2.alloc _,?_,Blk.new wi 29 _,h3.alloc h3.size _⟩;have:=h2.lt;omega
theorem fg_10 : ∀ i : Fin 256,fg10.contains (UInt8.ofNat i.val) = isDg 10 (UInt8.ofNat i.val):=by decide
end
section
open Go.RowKit Go.Shelf Go.Lib Go.Maps
theorem PPost.val {w : World} {i : Nat} {r : Lex} {e : Ending} {w' : World} (h : PPost w i r e w') : ∃ k n c d : Int,e = .returned (pcV k n c d)∧Below w.heap.size w w'∧∀ w0 w'' : World,Below w0.heap.size w0 w'' → PPost w0 i r (.returned (pcV k n c d)) w'':=by
 obtain ⟨hb,h⟩:=h;rcases r with ⟨c,d⟩ | ⟨k,n⟩
 ·obtain ⟨k,n,rfl⟩:=h;exact ⟨_,_,_,_,rfl,hb,fun _ _ h => ⟨h,k,n,rfl⟩⟩
 ·exact ⟨_,_,_,_,h,hb,fun _ _ h => ⟨h,rfl⟩⟩
end
section
open Go.Lib
end
section
open Go.RowKit Go.Shelf Go.Lib Go.Maps
def AdPost (B:Nat) (w : World) (v : Value) (ts : List Tok) (e : Ending) (w' : World) : Prop :=
 ∃ v',e = .returned v'∧w'.ownsRow B 130 4 v' ts.length (ts.flatMap tokc)∧∃ w1,Below w.heap.size w w1∧w1.grownBy w' v.ownBlock
end
section
open Go.Lib
def Beg (cs : List (List UInt8)) (i:Nat) : Prop:=∃ j,j ≤ cs.length∧(cs.take j).flatten.length = i
end
section
open Go.RowKit Go.Shelf Go.Lib Go.Maps
structure TkR (w : World) (B r:Nat) (ind : List Nat) (ts : List Tok) (vi vt : Value) : Prop where
 blk : Blk w r 29 #[.int .i64 0,.int .i64 0]
 ge : B ≤ r
 oi : w.ownsRow B 3 1 vi ind.length (intc ind.reverse)
 ot : w.ownsRow B 130 4 vt ts.length (ts.flatMap tokc)
section
variable {w w' : World} {B r : Nat} {ind : List Nat} {ts : List Tok} {vi vt : Value}
theorem TkR.belowS (h : TkR w B r ind ts vi vt) (hb : Below w.heap.size w w') : TkR w' B r ind ts vi vt:=⟨h.blk.belowS hb,h.ge,own_belowS h.oi hb,own_belowS h.ot hb⟩
theorem TkR.drewN (h : TkR w B r ind ts vi vt) (n:Nat) : TkR (w.drewN n) B r ind ts vi vt:=h.belowS (below_drewN (Below.refl _ _) n)
theorem TkR.alloc (h : TkR w B r ind ts vi vt) (o : Obj) : TkR (w.alloc o) B r ind ts vi vt:=h.belowS ((Below.refl _ _).alloc (Nat.le_refl _) _)
theorem TkR.growT (h : TkR w B r ind ts vi vt) {vt' : Value} {ts' : List Tok} (hg : w.grownBy w' vt.ownBlock) (ho : w'.ownsRow B 130 4 vt' ts'.length (ts'.flatMap tokc)) : TkR w' B r ind ts' vi vt' :=
 ⟨h.blk.grown hg (fun e => own_blk_ne h.ot h.blk (by decide) e.symm),h.ge,h.oi.kept hg (rows_ne h.oi h.ot (by decide)),ho⟩
theorem TkR.growI (h : TkR w B r ind ts vi vt) {vi' : Value} {ind' : List Nat} (hg : w.grownBy w' vi.ownBlock) (ho : w'.ownsRow B 3 1 vi' ind'.length (intc ind'.reverse)) : TkR w' B r ind' ts vi' vt :=
 ⟨h.blk.grown hg (fun e => own_blk_ne h.oi h.blk (by decide) e.symm),h.ge,ho,h.ot.kept hg (rows_ne h.ot h.oi (by decide))⟩
theorem TkR.popI {c : Nat} (h : TkR w B r (c :: ind) ts vi vt) : ∃ gg cap,vi = .slice (some ⟨gg,0,none⟩) (ind.length + 1) cap∧TkR w B r ind ts (.slice (some ⟨gg,0,none⟩) ind.length cap) vt∧ind.length + 1 ≤ cap∧cap ≤ maxLen∧w.cell? ⟨gg,ind.length,none⟩ = some (.int .i64 (c:Int)):=by
 have h2:=h.oi;rw [intc_rev] at h2;obtain ⟨gg,cap,rfl,h3,h4,h5⟩:=own_pop (n:=ind.length) (by rw [intc_len]; simp) h2;refine ⟨gg,cap,rfl,⟨h.blk,h.ge,h3,h.ot⟩,h4,h5,?_⟩;obtain ⟨b0,o0,e0,hb0,hc0⟩:=(Row.of_own h.oi).at_ (k:=ind.length) (by rw [intc_rev,List.length_append,intc_len]; simp);injection e0 with e0;injection e0 with e1 e2 e3;subst e1 e2;have hcc:=hc0 ind.length (.int .i64 (c:Int)) (by rw [intc_rev,List.getElem?_append_right (by rw [intc_len]; simp),intc_len]; simp)
 rwa [Nat.zero_add] at hcc
end
def AtPost (a : World) (r:Nat) (ind : List Nat) (ts : List Tok) (vi : Value) (e : Ending) (w' : World) : Prop :=
 ∃ v',e = .returned v'∧TkR w' a.heap.size r ind ts vi v'∧Below a.heap.size a w'
def AtPostK (a w : World) (r:Nat) (ind : List Nat) (ts : List Tok) (vi : Value) (e : Ending) (w' : World) : Prop :=
 ∃ v',e = .returned v'∧TkR w' a.heap.size r ind ts vi v'∧Below a.heap.size a w'∧∀ g t cs,t ≠ 130 → Blk w g t cs → Blk w' g t cs
def TRel (a : World) (r:Nat) (cs : List (List UInt8)) (l : List UInt8) (R : Except (Int × Int) (List Tok)) (vt vi vo vs vb vx : Value) (wr : World) : Prop :=
 ∃ (s : Scn) (f:Nat),TkR wr a.heap.size r s.ind s.toks vi vt∧Below a.heap.size a wr∧SInv l s∧Beg cs s.at_∧OpOk s.op∧vo = opStr s.op∧vs = .bool (!s.fresh)∧vb = .int .i64 ((bol l s.at_:Nat):Int)∧vx = .int .i64 ((s.at_:Nat):Int)∧l.length < f + s.at_∧scanF l f s = R
def CRelT (a : World) (r:Nat) (l : List UInt8) (i x:Nat) (ind0 : List Nat) (T : List Tok) (vi vt v : Value) (w' : World) : Prop :=
 ∃ (k:Nat),k ≤ ind0.length∧v = .int .i64 ((k:Int) + 1)∧TkR w' a.heap.size r (x :: ind0) (T ++ List.replicate k (tokAt l 3 [] i)) vi vt∧Below a.heap.size a w'
def IRelT (a : World) (r:Nat) (l : List UInt8) (i W:Nat) (T : List Tok) (D : List Nat × Nat) (vt vi : Value) (w' : World) : Prop :=
 ∃ (indc : List Nat) (j:Nat),TkR w' a.heap.size r indc (T ++ List.replicate j (tokAt l 3 [] i)) vi vt∧Below a.heap.size a w'∧W ∈ indc∧(∀ y ∈ indc,y ≤ 100000)∧indc.length + j ≤ 100000∧D = ((dedent W indc).1,(dedent W indc).2 + j)
def lenW : Value → Nat
 | .slice _ n _ => n
 | _ => 0
end
section
open Go.RowKit Go.Shelf Go.Lib Go.Maps
def isHash (c : UInt8) : Bool:=c == 35
end
end Go.Proofs.YtonehlkiackhcaaGreatDoor