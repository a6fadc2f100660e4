/- The literals: the expression of a field. Nothing is claimed here. -/
import Derived.Test.YtonehlkiackhcaaGreatDoorLitL
set_option linter.unusedVariables false
set_option linter.unusedSimpArgs false
set_option maxRecDepth 100000
set_option maxHeartbeats 16000000
namespace Go.Proofs.YtonehlkiackhcaaGreatDoor
open Go.RowKit Go.Lib
structure BX (g:Nat) (w w' : World) : Prop where
 os : w'.os = w.os
 tape : w'.tape = w.tape
 output : w'.output = w.output
 size : w.heap.size ≤ w'.heap.size
 block : ∀ k,k < w.heap.size → k ≠ g → w'.heap[k]? = w.heap[k]?
section
variable {g : Nat} {w w1 w2 : World}
theorem BX.refl (g:Nat) (w : World) : BX g w w:=⟨rfl,rfl,rfl,Nat.le_refl _,fun _ _ _ => rfl⟩
theorem BX.trans (h : BX g w w1) (k : BX g w1 w2) : BX g w w2 :=
 ⟨k.os.trans h.os,k.tape.trans h.tape,k.output.trans h.output,Nat.le_trans h.size k.size,fun j hj hg => (k.block j (Nat.lt_of_lt_of_le hj h.size) hg).trans (h.block j hj hg)⟩
theorem BX.of (g:Nat) (h : Below w.heap.size w w1) : BX g w w1:=⟨h.os,h.tape,h.output,h.size,fun j hj _ => h.block j hj⟩
theorem BX.below (h : BX g w w1) (k : Below w1.heap.size w1 w2) : BX g w w2:=h.trans (.of g k)
theorem BX.set (h : BX g w w1) {p : Addr} (hp : p.block = g) (u : Value) : BX g w (w1.setCell p u) :=
 ⟨h.os,h.tape,h.output,by simpa [World.setCell] using h.size,fun j hj hg => (Below.heap_setCell w1 p u j (fun e => hg (e.trans hp))).trans (h.block j hj hg)⟩
theorem BX.grown (h : BX g w w1) {row : Option Nat} (hg : w1.grownBy w2 row) (hr : ∀ k,row = some k → w.heap.size ≤ k) : BX g w w2 :=
 ⟨hg.os.trans h.os,hg.tape.trans h.tape,hg.output.trans h.output,Nat.le_trans h.size hg.size,fun j hj hne => (hg.block j (Nat.lt_of_lt_of_le hj h.size) (fun e => by have:=hr j e.symm; omega)).trans (h.block j hj hne)⟩
theorem BX.blk {k t : Nat} {cs : Array Value} (h : BX g w w1) (hb : Blk w k t cs) (hne : k ≠ g) : Blk w1 k t cs:=(h.block k hb.lt hne).trans hb
theorem BX.own {base : Nat} {e : TypeId} {size n : Nat} {v : Value} {xs : List Value} (h : BX g w w1) (ho : w.ownsRow base e size v n xs) (hne : v.ownBlock ≠ some g) : w1.ownsRow base e size v n xs:=by
 refine ⟨ho.1,?_⟩;rcases ho.2 with h2 | ⟨g',cap,cur,hv,hg',hh,r⟩
 ·exact Or.inl h2
 ·exact Or.inr ⟨g',cap,cur,hv,hg',by rw [h.block g' (Array.getElem?_eq_some_iff.1 hh).1 (fun e => hne (by rw [hv,← e]; rfl))]; exact hh,r⟩
theorem BX.bel {B : Nat} {w0 : World} (h : BX g w w1) (hb : Below B w0 w) (hB : B ≤ g) (hs : B ≤ w.heap.size) : Below B w0 w1 :=
 ⟨h.os.trans hb.os,h.tape.trans hb.tape,h.output.trans hb.output,Nat.le_trans hb.size h.size,fun k hk => (h.block k (by omega) (by omega)).trans (hb.block k hk)⟩
theorem own_setX {base : Nat} {e : TypeId} {size n : Nat} {v : Value} {xs : List Value} (ho : w.ownsRow base e size v n xs) {p : Addr} (hp : p.block < base) (u : Value) : (w.setCell p u).ownsRow base e size v n xs:=by
 refine ⟨ho.1,?_⟩;rcases ho.2 with h2 | ⟨g',cap,cur,hv,hg',hh,r⟩
 ·exact Or.inl h2
 ·exact Or.inr ⟨g',cap,cur,hv,hg',by rw [Below.heap_setCell w p u g' (by omega)]; exact hh,r⟩
end
def posOf (w : World) (g:Nat) : Nat:=match w.cell? ⟨g,1,none⟩ with
 | some (.int _ z) => z.toNat
 | _ => 0
theorem posOf_of {w : World} {g t : Nat} {cs : Array Value} {i : Nat} (h : Blk w g t cs) (hi : cs[1]? = some (.int .i64 (i:Int)):=by rfl) : posOf w g = i:=by
 unfold posOf;rw [h.cell 1,hi];simp
def exprS (l : List UInt8) (x : Sht) (frm:Nat) : Nat → Nat → List UInt8 → UInt8 → Except Nat Nat
 | 0,_,_,_ => .error frm
 | f + 1,i,op,ins => match plainS l x frm i with
  | .error j => .error j
  | .ok c =>
   if c = 35 then .error i
   else if ins ≠ 0 then exprS l x frm f (i + 1) op (if c = ins then 0 else ins)
   else if c = 34∨c = 39 then exprS l x frm f (i + 1) op c
   else if op = []∧(c = 33∨c = 58∨c = 125) then .ok i
   else match bracket op [c] with
    | none => .error i
    | some op' => exprS l x frm f (i + 1) op' 0
theorem exprS_at {l : List UInt8} {x : Sht} {frm i : Nat} {op : List UInt8} {ins : UInt8} (hi : i ≤ l.length) : exprS l x frm (l.length + 1 - i) i op ins = match plainS l x frm i with
  | .error j => .error j
  | .ok c =>
   if c = 35 then .error i
   else if ins ≠ 0 then exprS l x frm (l.length + 1 - (i + 1)) (i + 1) op (if c = ins then 0 else ins)
   else if c = 34∨c = 39 then exprS l x frm (l.length + 1 - (i + 1)) (i + 1) op c
   else if op = []∧(c = 33∨c = 58∨c = 125) then .ok i
   else match bracket op [c] with
    | none => .error i
    | some op' => exprS l x frm (l.length + 1 - (i + 1)) (i + 1) op' 0:=by
 rw [show l.length + 1 - i = (l.length + 1 - (i + 1)) + 1 by omega];rfl
def exprR (l : List UInt8) (frm:Nat) : Except Nat Nat → Except Nat (List UInt8 × Nat)
 | .error j => .error j
 | .ok i => if Lib.trimB (cutL l (frm + 1) i) 32 = [] then .error frm else .ok (cutL l (frm + 1) i,i)
def exprT (l : List UInt8) (x : Sht) (frm:Nat) : Except Nat (List UInt8 × Nat):=exprR l frm (exprS l x frm (l.length + 1 - (frm + 1)) (frm + 1) [] 0)
theorem ib_ne0 (h : UInt8) (hne : h ≠ 40) : (if h = 40 then (0:Int) else if h = 91 then 1 else if h = 123 then 2 else -1) ≠ 0:=by
 rw [if_neg hne];split
 ·decide
 ·split <;> decide
theorem ib_ne1 (h : UInt8) (hne : h ≠ 91) : (if h = 40 then (0:Int) else if h = 91 then 1 else if h = 123 then 2 else -1) ≠ 1:=by
 rw [if_neg hne]
 by_cases h1 : h = 40
 ·rw [if_pos h1]; decide
 ·rw [if_neg h1]
  by_cases h2 : h = 123
  ·rw [if_pos h2]; decide
  ·rw [if_neg h2]; decide
theorem ib_ne2 (h : UInt8) (hne : h ≠ 123) : (if h = 40 then (0:Int) else if h = 91 then 1 else if h = 123 then 2 else -1) ≠ 2:=by
 rw [if_neg hne]
 by_cases h1 : h = 40
 ·rw [if_pos h1]; decide
 ·rw [if_neg h1]
  by_cases h2 : h = 91
  ·rw [if_pos h2]; decide
  ·rw [if_neg h2]; decide
theorem ib_none (c : UInt8) (h1 : c ≠ 41) (h2 : c ≠ 93) (h3 : c ≠ 125) : Lib.indexByte [41,93,125] c = -1:=by
 have e1 : ((41 : UInt8) == c) = false:=by rw [beq_eq_false_iff_ne]; exact fun e => h1 e.symm
 have e2 : ((93 : UInt8) == c) = false:=by rw [beq_eq_false_iff_ne]; exact fun e => h2 e.symm
 have e3 : ((125 : UInt8) == c) = false:=by rw [beq_eq_false_iff_ne]; exact fun e => h3 e.symm
 simp [Lib.indexByte,e1,e2,e3]
theorem brk_none (op : List UInt8) (c : UInt8) (h1 : c ≠ 40) (h2 : c ≠ 91) (h3 : c ≠ 123) (h4 : c ≠ 41) (h5 : c ≠ 93) (h6 : c ≠ 125) : bracket op [c] = some op:=by
 unfold bracket;simp [h1,h2,h3,h4,h5,h6]
theorem plainS_ok {l : List UInt8} {x : Sht} {frm i : Nat} {c : UInt8} (h : plainS l x frm i = .ok c) : i < x.lim∧at0 l i = c∧c ≠ 92∧c ≠ 10∧c ≠ x.quo:=by
 unfold plainS at h;split at h
 ·cases h
 ·split at h
  ·cases h
  ·rename_i h1 h2;injection h with h;subst h;simp only [not_or] at h2;exact ⟨by omega,rfl,h2.1,h2.2.1,h2.2.2⟩
theorem expression_any {w : World} {g : Nat} {l : List UInt8} {x : Sht} (frm:Nat) (h : Blk w g 70 (rdC l (frm + 1) x)) (hl : l.length ≤ 16000) (hx : x.lim ≤ l.length) (hf : frm < l.length) :
  Calls Tryz.prog 94 #[.pointer (some ⟨g,0,none⟩),.int .i64 (frm:Int)] w fun e w' => Thr (exprT l x frm) (fun r => .string ⟨r.1.toArray⟩) e∧(∀ r,exprT l x frm = .ok r → Blk w' g 70 (rdC l r.2 x))∧BX g w w':=by
 obtain ⟨ib,hib,hbz0,hbz1,hbz2⟩:=info_parts info_byte;obtain ⟨b,hbb⟩ : ∃ b,w.heap.size = b:=⟨_,rfl⟩;have HB:=hid hbb;have hgb : g < b:=by rw [← hbb]; exact h.lt
 obtain ⟨E,hE⟩ : ∃ E,exprS l x frm (l.length + 1 - (frm + 1)) (frm + 1) [] 0 = E:=⟨_,rfl⟩;have HT : Hid (exprT l x frm = exprR l frm E):=hid (by rw [← hE]; rfl);obtain ⟨R,hR⟩ : ∃ R,exprT l x frm = R:=⟨_,rfl⟩;rw [hR] at HT ⊢;have HE0:=hid hE;clear hbb hE hR;obtain ⟨q1,q2,q3⟩:=h.rules;unfold rdC at q1;go_enter Tryz.func94,Tryz.ntmps94;go_wp2_with fail;clear q1 q2 q3
 go_loopw [5,7] (fun v u wr => ∃ (i:Nat) (op : List UInt8) (ins : UInt8),i ≤ l.length∧Hid (op.length ≤ i)∧Hid (frm + 1 ≤ i)∧u = .int .u8 (ins.toNat:Int)∧Hid (exprS l x frm (l.length + 1 - i) i op ins = E)∧wr.ownsRow b 5 1 v op.length (bytc op.reverse)∧Blk wr g 70 (rdC l i x)∧BX g w wr) (fun _ _ wr => l.length + 1 - posOf wr g)
 case atStart => exact ⟨frm + 1,[],0,by omega,hid (Nat.zero_le _),hid (Nat.le_refl _),rfl,HE0,World.ownsRow_nil _ _ _ _,h,BX.refl g w⟩
 case round =>
  obtain ⟨i,op,ins,hi,HOPL,HFI,rfl,HE,hown,hg0,hx0⟩:=hrel;have hi0:=exprS_at (x:=x) (frm:=frm) (op:=op) (ins:=ins) hi;rw [HE.out] at hi0;have HS:=hid hi0;have hsz:=hx0.size;rw [HB.out] at hsz;clear hi0;obtain ⟨P,hP⟩ : ∃ P,plainS l x frm i = P:=⟨_,rfl⟩;have HPL:=hid (plain_any hg0 frm hl hx);rw [hP] at HPL HS;have HPP:=hid hP;clear hP;go_wp2_with fail;refine HPL.out.mono ?_;rintro e w1 ⟨hthr,hb1⟩;have hg1:=hg0.belowS hb1;have hx1:=hx0.below hb1;have hown1:=own_below hown hb1;have hsz1 : b ≤ w1.heap.size:=(by have:=hb1.size; omega);clear HPL;obtain ⟨A0,c0,rfl,hrw,_⟩:=own_form hown;have hopl:=HOPL.out;rcases P with j | c
  ·simp only [Thr] at hthr;subst hthr;have HRR:=hid (show R = .error j from by rw [HT.out,show E = .error j from HS.out]; rfl);go_wp2_with fail;exact ⟨rfl,by rw [HRR.out]; rfl,(fun r hr => by rw [HRR.out] at hr; cases hr),hx1⟩
  ·simp only [Thr] at hthr;subst hthr;obtain ⟨hil,hc,hc92,hc10,hcq⟩:=plainS_ok HPP.out;have HS2:=hid (show E = if c = 35 then .error i
   else if ins ≠ 0 then exprS l x frm (l.length + 1 - (i + 1)) (i + 1) op (if c = ins then 0 else ins)
   else if c = 34∨c = 39 then exprS l x frm (l.length + 1 - (i + 1)) (i + 1) op c
   else if op = []∧(c = 33∨c = 58∨c = 125) then .ok i
   else match bracket op [c] with
    | none => .error i
    | some op' => exprS l x frm (l.length + 1 - (i + 1)) (i + 1) op' 0 from HS.out)
   clear HS HPP hc92 hc10 hcq;obtain ⟨q1,q2,q3⟩:=hg1.rules;unfold rdC at q1;have hi0 : (i:Int) < 16000:=by omega
   by_cases h35 : c = 35
   ·subst h35;have HQ:=hid (show E = .error i from by rw [HS2.out,if_pos rfl]);go_wp2_with fail;refine (lfail_any _ _ _).mono ?_;rintro e w2 ⟨rfl,hb2⟩;have hx2:=hx1.below hb2;have HRR:=hid (show R = .error _ from by rw [HT.out,HQ.out]; rfl);go_wp2_with fail;exact ⟨rfl,by rw [HRR.out]; rfl,(fun r hr => by rw [HRR.out] at hr; cases hr),hx2⟩
   ·have b35 : ((c.toNat:Int) == 35) = false:=u8_ne (d:=35) h35;have HS3:=hid (HS2.out.trans (if_neg h35));clear HS2 h35
    by_cases hins : ins = 0
    ·subst hins;have HS4:=hid (HS3.out.trans (if_neg (by simp)));clear HS3
     by_cases h34 : c = 34
     ·subst h34;have HQ:=hid (HS4.out.trans (if_pos (.inl rfl))).symm;go_wp2_with fail;have hg9:=(hg1).set_ 1 (.int .i64 ((i:Int) + 1));have hx9:=(hx1).set (p:=⟨g,1,none⟩) rfl (.int .i64 ((i:Int) + 1));have hgp:=posOf_of (i:=i) hg0;have hgq : posOf ((w1).setCell ⟨g,1,none⟩ (.int .i64 ((i:Int) + 1))) g = i + 1:=posOf_of (i:=i + 1) hg9;go_roundw
      case rel => exact ⟨i + 1,op,34,by omega,hid (by have:=HOPL.out; (try simp only [List.length_cons,List.length_nil] at this ⊢); omega),hid (by have:=HFI.out; omega),by first | rfl | go_num,HQ,own_setX (hown1) (p:=⟨g,1,none⟩) hgb _,hg9,hx9⟩
      case measure => rw [hgp,hgq]; omega
     ·have b34 : ((c.toNat:Int) == 34) = false:=u8_ne (d:=34) h34
      by_cases h39 : c = 39
      ·subst h39;have HQ:=hid (HS4.out.trans (if_pos (.inr rfl))).symm;go_wp2_with fail;have hg9:=(hg1).set_ 1 (.int .i64 ((i:Int) + 1));have hx9:=(hx1).set (p:=⟨g,1,none⟩) rfl (.int .i64 ((i:Int) + 1));have hgp:=posOf_of (i:=i) hg0;have hgq : posOf ((w1).setCell ⟨g,1,none⟩ (.int .i64 ((i:Int) + 1))) g = i + 1:=posOf_of (i:=i + 1) hg9;go_roundw
       case rel => exact ⟨i + 1,op,39,by omega,hid (by have:=HOPL.out; (try simp only [List.length_cons,List.length_nil] at this ⊢); omega),hid (by have:=HFI.out; omega),by first | rfl | go_num,HQ,own_setX (hown1) (p:=⟨g,1,none⟩) hgb _,hg9,hx9⟩
       case measure => rw [hgp,hgq]; omega
      ·have b39 : ((c.toNat:Int) == 39) = false:=u8_ne (d:=39) h39;have HS5:=hid (HS4.out.trans (if_neg (by rintro (h | h) <;> contradiction)));clear HS4
       by_cases hterm : op = []∧(c = 33∨c = 58∨c = 125)
       ·obtain ⟨rfl,hterm⟩:=hterm;rcases hterm with rfl | rfl | rfl
        ·have HQ:=hid (show E = .ok i from HS5.out.trans (if_pos ⟨rfl,by decide⟩));have hfi : frm + 1 ≤ i:=HFI.out;have hsub:=run_sub l (frm + 1) i hfi (by omega) ((frm:Int) + 1) (i:Int) (by omega) rfl;obtain ⟨t,ht⟩ : ∃ t,(l.drop (frm + 1)).take (i - (frm + 1)) = t:=⟨_,rfl⟩;rw [ht] at hsub;have HTX:=hid (show exprR l frm (.ok i) = if Lib.trimB t 32 = [] then .error frm else .ok (t,i) from by rw [← ht]; rfl);have hcl : t.length ≤ 16000:=(by rw [← ht,List.length_take,List.length_drop]; omega);have HTB:=hid (fun W => Tryz.strings_Trim_one ⟨t.toArray⟩ 32 (by decide) W (by show t.toArray.size ≤ _; simp; omega));clear ht;go_wp2_with fail;go_quiet (fail);go_wp2_with fail;refine (HTB.out _).mono ?_;rintro e w2 ⟨rfl,hw2⟩;have hbq : Below w1.heap.size w1 w2:=by
          rcases hw2 with rfl | rfl
          ·exact below_drewN (Below.refl _ _) _
          ·exact (below_drewN (Below.refl _ _) _).drew
         have hgq:=hg1.belowS hbq;have hxq:=hx1.below hbq;clear hw2 hbq;cases hst : (Lib.trimB t 32 == [])
         ·have hne : ¬ Lib.trimB t 32 = []:=fun e => by rw [e] at hst; cases hst
          have HRR:=hid (show R = .ok (t,i) from by rw [HT.out,HQ.out,HTX.out,if_neg hne]);generalize Lib.trimB t 32 = tb at hst hne ⊢;clear hne;go_wp2_with fail;go_ret;exact ⟨by rw [HRR.out]; rfl,(fun r hr => by rw [HRR.out] at hr; injection hr with hr; subst hr; exact hgq),hxq⟩
         ·have hne : Lib.trimB t 32 = []:=(by simpa using hst);have HRR:=hid (show R = .error frm from by rw [HT.out,HQ.out,HTX.out,if_pos hne]);generalize Lib.trimB t 32 = tb at hst hne ⊢;clear hne;go_wp2_with fail;refine (lfail_any _ _ _).mono ?_;rintro e w3 ⟨rfl,hb3⟩;have hx3:=hxq.below hb3;go_wp2_with fail;exact ⟨rfl,by rw [HRR.out]; rfl,(fun r hr => by rw [HRR.out] at hr; cases hr),hx3⟩
        ·have HQ:=hid (show E = .ok i from HS5.out.trans (if_pos ⟨rfl,by decide⟩));have hfi : frm + 1 ≤ i:=HFI.out;have hsub:=run_sub l (frm + 1) i hfi (by omega) ((frm:Int) + 1) (i:Int) (by omega) rfl;obtain ⟨t,ht⟩ : ∃ t,(l.drop (frm + 1)).take (i - (frm + 1)) = t:=⟨_,rfl⟩;rw [ht] at hsub;have HTX:=hid (show exprR l frm (.ok i) = if Lib.trimB t 32 = [] then .error frm else .ok (t,i) from by rw [← ht]; rfl);have hcl : t.length ≤ 16000:=(by rw [← ht,List.length_take,List.length_drop]; omega);have HTB:=hid (fun W => Tryz.strings_Trim_one ⟨t.toArray⟩ 32 (by decide) W (by show t.toArray.size ≤ _; simp; omega));clear ht;go_wp2_with fail;go_quiet (fail);go_wp2_with fail;refine (HTB.out _).mono ?_;rintro e w2 ⟨rfl,hw2⟩;have hbq : Below w1.heap.size w1 w2:=by
          rcases hw2 with rfl | rfl
          ·exact below_drewN (Below.refl _ _) _
          ·exact (below_drewN (Below.refl _ _) _).drew
         have hgq:=hg1.belowS hbq;have hxq:=hx1.below hbq;clear hw2 hbq;cases hst : (Lib.trimB t 32 == [])
         ·have hne : ¬ Lib.trimB t 32 = []:=fun e => by rw [e] at hst; cases hst
          have HRR:=hid (show R = .ok (t,i) from by rw [HT.out,HQ.out,HTX.out,if_neg hne]);generalize Lib.trimB t 32 = tb at hst hne ⊢;clear hne;go_wp2_with fail;go_ret;exact ⟨by rw [HRR.out]; rfl,(fun r hr => by rw [HRR.out] at hr; injection hr with hr; subst hr; exact hgq),hxq⟩
         ·have hne : Lib.trimB t 32 = []:=(by simpa using hst);have HRR:=hid (show R = .error frm from by rw [HT.out,HQ.out,HTX.out,if_pos hne]);generalize Lib.trimB t 32 = tb at hst hne ⊢;clear hne;go_wp2_with fail;refine (lfail_any _ _ _).mono ?_;rintro e w3 ⟨rfl,hb3⟩;have hx3:=hxq.below hb3;go_wp2_with fail;exact ⟨rfl,by rw [HRR.out]; rfl,(fun r hr => by rw [HRR.out] at hr; cases hr),hx3⟩
        ·have HQ:=hid (show E = .ok i from HS5.out.trans (if_pos ⟨rfl,by decide⟩));have hfi : frm + 1 ≤ i:=HFI.out;have hsub:=run_sub l (frm + 1) i hfi (by omega) ((frm:Int) + 1) (i:Int) (by omega) rfl;obtain ⟨t,ht⟩ : ∃ t,(l.drop (frm + 1)).take (i - (frm + 1)) = t:=⟨_,rfl⟩;rw [ht] at hsub;have HTX:=hid (show exprR l frm (.ok i) = if Lib.trimB t 32 = [] then .error frm else .ok (t,i) from by rw [← ht]; rfl);have hcl : t.length ≤ 16000:=(by rw [← ht,List.length_take,List.length_drop]; omega);have HTB:=hid (fun W => Tryz.strings_Trim_one ⟨t.toArray⟩ 32 (by decide) W (by show t.toArray.size ≤ _; simp; omega));clear ht;go_wp2_with fail;go_quiet (fail);go_wp2_with fail;refine (HTB.out _).mono ?_;rintro e w2 ⟨rfl,hw2⟩;have hbq : Below w1.heap.size w1 w2:=by
          rcases hw2 with rfl | rfl
          ·exact below_drewN (Below.refl _ _) _
          ·exact (below_drewN (Below.refl _ _) _).drew
         have hgq:=hg1.belowS hbq;have hxq:=hx1.below hbq;clear hw2 hbq;cases hst : (Lib.trimB t 32 == [])
         ·have hne : ¬ Lib.trimB t 32 = []:=fun e => by rw [e] at hst; cases hst
          have HRR:=hid (show R = .ok (t,i) from by rw [HT.out,HQ.out,HTX.out,if_neg hne]);generalize Lib.trimB t 32 = tb at hst hne ⊢;clear hne;go_wp2_with fail;go_ret;exact ⟨by rw [HRR.out]; rfl,(fun r hr => by rw [HRR.out] at hr; injection hr with hr; subst hr; exact hgq),hxq⟩
         ·have hne : Lib.trimB t 32 = []:=(by simpa using hst);have HRR:=hid (show R = .error frm from by rw [HT.out,HQ.out,HTX.out,if_pos hne]);generalize Lib.trimB t 32 = tb at hst hne ⊢;clear hne;go_wp2_with fail;refine (lfail_any _ _ _).mono ?_;rintro e w3 ⟨rfl,hb3⟩;have hx3:=hxq.below hb3;go_wp2_with fail;exact ⟨rfl,by rw [HRR.out]; rfl,(fun r hr => by rw [HRR.out] at hr; cases hr),hx3⟩
       ·have HS6:=hid (HS5.out.trans (if_neg hterm));clear HS5;have HTM:=hid hterm;have hq9 : ((op.length:Int) == 0) = false∨(((c.toNat:Int) == 33) = false∧((c.toNat:Int) == 58) = false∧((c.toNat:Int) == 125) = false):=by
         by_cases hop : op = []
         ·refine .inr ⟨u8_ne (d:=33) (fun e => hterm ⟨hop,.inl e⟩),u8_ne (d:=58) (fun e => hterm ⟨hop,.inr (.inl e)⟩),u8_ne (d:=125) (fun e => hterm ⟨hop,.inr (.inr e)⟩)⟩
         ·refine .inl ?_;rw [beq_eq_false_iff_ne];have:=List.length_pos_iff.2 hop;omega
        clear hterm
        by_cases h40 : c = 40
        ·subst h40;have hq9 : ((40:Int) == 33) = false:=(by decide);cases op with
         | nil =>
          have HQ:=hid (show exprS l x frm (l.length + 1 - (i + 1)) (i + 1) (40 :: []) 0 = E from HS6.out.symm);go_wp2_with fail;refine (ib_calls 40 _).mono ?_;rintro e w2 ⟨rfl,rfl⟩;go_wp2_with (at_builtin; refine wpList_append_own_at _ rfl (.tmp 79) (.tmp 81) 71 rfl b 5 ib (.int .u8 0) 1 1 Tryz.underlying71 hib hbz0 hbz1 hbz2 rfl (by decide) _ (0) (bytc ([]).reverse) rfl (hown1.alloc _) ⟨w1.heap.size,0,none⟩ 1 1 [.int .u8 40] rfl rfl (cell_one_new w1 _ _) (by simp [Value.oneCell']) (by unfold maxLen; omega) (by omega) (by simp; omega) ?_; intro v3 w3 hown3 hg3 _ hat3; have hgN:=(hg1.alloc (.cells #[.int .u8 40] 5)).grown hg3 (fun e => by have:=(hown1.lt g e.symm).1; omega); obtain ⟨t1,t2,t3⟩:=hgN.rules; unfold rdC at t1);have hxN:=(hx1.below ((Below.refl w1.heap.size w1).alloc (Nat.le_refl _) (.cells #[.int .u8 40] 5))).grown hg3 (fun k e => by have:=(hown1.lt k e).1; rw [HB.out]; exact this);have hownN : w3.ownsRow b 5 1 v3 (40 :: []).length (bytc (40 :: []).reverse):=(by rw [bytc_rev]; exact hown3);have hg9:=(hgN).set_ 1 (.int .i64 ((i:Int) + 1));have hx9:=(hxN).set (p:=⟨g,1,none⟩) rfl (.int .i64 ((i:Int) + 1));have hgp:=posOf_of (i:=i) hg0;have hgq : posOf ((w3).setCell ⟨g,1,none⟩ (.int .i64 ((i:Int) + 1))) g = i + 1:=posOf_of (i:=i + 1) hg9;go_roundw
          case rel => exact ⟨i + 1,40 :: [],0,by omega,hid (by have:=HOPL.out; (try simp only [List.length_cons,List.length_nil] at this ⊢); omega),hid (by have:=HFI.out; omega),by first | rfl | go_num,HQ,own_setX (hownN) (p:=⟨g,1,none⟩) hgb _,hg9,hx9⟩
          case measure => rw [hgp,hgq]; omega
         | cons hh tt =>
          have hopl : tt.length + 1 ≤ i:=HOPL.out;rw [show (hh :: tt).length = tt.length + 1 from rfl];have hq0 : ((tt.length:Int) + 1 == 0) = false:=(by rw [beq_eq_false_iff_ne]; omega);have HQ:=hid (show exprS l x frm (l.length + 1 - (i + 1)) (i + 1) (40 :: (hh :: tt)) 0 = E from HS6.out.symm);go_wp2_with fail;refine (ib_calls 40 _).mono ?_;rintro e w2 ⟨rfl,rfl⟩;go_wp2_with (at_builtin; refine wpList_append_own_at _ rfl (.tmp 79) (.tmp 81) 71 rfl b 5 ib (.int .u8 0) 1 1 Tryz.underlying71 hib hbz0 hbz1 hbz2 rfl (by decide) _ (tt.length + 1) (bytc ((hh :: tt)).reverse) rfl (hown1.alloc _) ⟨w1.heap.size,0,none⟩ 1 1 [.int .u8 40] rfl rfl (cell_one_new w1 _ _) (by simp [Value.oneCell']) (by unfold maxLen; omega) (by omega) (by simp; omega) ?_; intro v3 w3 hown3 hg3 _ hat3; have hgN:=(hg1.alloc (.cells #[.int .u8 40] 5)).grown hg3 (fun e => by have:=(hown1.lt g e.symm).1; omega); obtain ⟨t1,t2,t3⟩:=hgN.rules; unfold rdC at t1);have hxN:=(hx1.below ((Below.refl w1.heap.size w1).alloc (Nat.le_refl _) (.cells #[.int .u8 40] 5))).grown hg3 (fun k e => by have:=(hown1.lt k e).1; rw [HB.out]; exact this);have hownN : w3.ownsRow b 5 1 v3 (40 :: (hh :: tt)).length (bytc (40 :: (hh :: tt)).reverse):=(by rw [bytc_rev]; exact hown3);have hg9:=(hgN).set_ 1 (.int .i64 ((i:Int) + 1));have hx9:=(hxN).set (p:=⟨g,1,none⟩) rfl (.int .i64 ((i:Int) + 1));have hgp:=posOf_of (i:=i) hg0;have hgq : posOf ((w3).setCell ⟨g,1,none⟩ (.int .i64 ((i:Int) + 1))) g = i + 1:=posOf_of (i:=i + 1) hg9;go_roundw
          case rel => exact ⟨i + 1,40 :: (hh :: tt),0,by omega,hid (by have:=HOPL.out; (try simp only [List.length_cons,List.length_nil] at this ⊢); omega),hid (by have:=HFI.out; omega),by first | rfl | go_num,HQ,own_setX (hownN) (p:=⟨g,1,none⟩) hgb _,hg9,hx9⟩
          case measure => rw [hgp,hgq]; omega
        ·by_cases h91 : c = 91
         ·subst h91;cases op with
          | nil =>
           have HQ:=hid (show exprS l x frm (l.length + 1 - (i + 1)) (i + 1) (91 :: []) 0 = E from HS6.out.symm);go_wp2_with fail;refine (ib_calls 91 _).mono ?_;rintro e w2 ⟨rfl,rfl⟩;go_wp2_with (at_builtin; refine wpList_append_own_at _ rfl (.tmp 79) (.tmp 81) 71 rfl b 5 ib (.int .u8 0) 1 1 Tryz.underlying71 hib hbz0 hbz1 hbz2 rfl (by decide) _ (0) (bytc ([]).reverse) rfl (hown1.alloc _) ⟨w1.heap.size,0,none⟩ 1 1 [.int .u8 91] rfl rfl (cell_one_new w1 _ _) (by simp [Value.oneCell']) (by unfold maxLen; omega) (by omega) (by simp; omega) ?_; intro v3 w3 hown3 hg3 _ hat3; have hgN:=(hg1.alloc (.cells #[.int .u8 91] 5)).grown hg3 (fun e => by have:=(hown1.lt g e.symm).1; omega); obtain ⟨t1,t2,t3⟩:=hgN.rules; unfold rdC at t1);have hxN:=(hx1.below ((Below.refl w1.heap.size w1).alloc (Nat.le_refl _) (.cells #[.int .u8 91] 5))).grown hg3 (fun k e => by have:=(hown1.lt k e).1; rw [HB.out]; exact this);have hownN : w3.ownsRow b 5 1 v3 (91 :: []).length (bytc (91 :: []).reverse):=(by rw [bytc_rev]; exact hown3);have hg9:=(hgN).set_ 1 (.int .i64 ((i:Int) + 1));have hx9:=(hxN).set (p:=⟨g,1,none⟩) rfl (.int .i64 ((i:Int) + 1));have hgp:=posOf_of (i:=i) hg0;have hgq : posOf ((w3).setCell ⟨g,1,none⟩ (.int .i64 ((i:Int) + 1))) g = i + 1:=posOf_of (i:=i + 1) hg9;go_roundw
           case rel => exact ⟨i + 1,91 :: [],0,by omega,hid (by have:=HOPL.out; (try simp only [List.length_cons,List.length_nil] at this ⊢); omega),hid (by have:=HFI.out; omega),by first | rfl | go_num,HQ,own_setX (hownN) (p:=⟨g,1,none⟩) hgb _,hg9,hx9⟩
           case measure => rw [hgp,hgq]; omega
          | cons hh tt =>
           have hopl : tt.length + 1 ≤ i:=HOPL.out;rw [show (hh :: tt).length = tt.length + 1 from rfl];have hq0 : ((tt.length:Int) + 1 == 0) = false:=(by rw [beq_eq_false_iff_ne]; omega);have HQ:=hid (show exprS l x frm (l.length + 1 - (i + 1)) (i + 1) (91 :: (hh :: tt)) 0 = E from HS6.out.symm);go_wp2_with fail;refine (ib_calls 91 _).mono ?_;rintro e w2 ⟨rfl,rfl⟩;go_wp2_with (at_builtin; refine wpList_append_own_at _ rfl (.tmp 79) (.tmp 81) 71 rfl b 5 ib (.int .u8 0) 1 1 Tryz.underlying71 hib hbz0 hbz1 hbz2 rfl (by decide) _ (tt.length + 1) (bytc ((hh :: tt)).reverse) rfl (hown1.alloc _) ⟨w1.heap.size,0,none⟩ 1 1 [.int .u8 91] rfl rfl (cell_one_new w1 _ _) (by simp [Value.oneCell']) (by unfold maxLen; omega) (by omega) (by simp; omega) ?_; intro v3 w3 hown3 hg3 _ hat3; have hgN:=(hg1.alloc (.cells #[.int .u8 91] 5)).grown hg3 (fun e => by have:=(hown1.lt g e.symm).1; omega); obtain ⟨t1,t2,t3⟩:=hgN.rules; unfold rdC at t1);have hxN:=(hx1.below ((Below.refl w1.heap.size w1).alloc (Nat.le_refl _) (.cells #[.int .u8 91] 5))).grown hg3 (fun k e => by have:=(hown1.lt k e).1; rw [HB.out]; exact this);have hownN : w3.ownsRow b 5 1 v3 (91 :: (hh :: tt)).length (bytc (91 :: (hh :: tt)).reverse):=(by rw [bytc_rev]; exact hown3);have hg9:=(hgN).set_ 1 (.int .i64 ((i:Int) + 1));have hx9:=(hxN).set (p:=⟨g,1,none⟩) rfl (.int .i64 ((i:Int) + 1));have hgp:=posOf_of (i:=i) hg0;have hgq : posOf ((w3).setCell ⟨g,1,none⟩ (.int .i64 ((i:Int) + 1))) g = i + 1:=posOf_of (i:=i + 1) hg9;go_roundw
           case rel => exact ⟨i + 1,91 :: (hh :: tt),0,by omega,hid (by have:=HOPL.out; (try simp only [List.length_cons,List.length_nil] at this ⊢); omega),hid (by have:=HFI.out; omega),by first | rfl | go_num,HQ,own_setX (hownN) (p:=⟨g,1,none⟩) hgb _,hg9,hx9⟩
           case measure => rw [hgp,hgq]; omega
         ·by_cases h123 : c = 123
          ·subst h123;cases op with
           | nil =>
            have HQ:=hid (show exprS l x frm (l.length + 1 - (i + 1)) (i + 1) (123 :: []) 0 = E from HS6.out.symm);go_wp2_with fail;refine (ib_calls 123 _).mono ?_;rintro e w2 ⟨rfl,rfl⟩;go_wp2_with (at_builtin; refine wpList_append_own_at _ rfl (.tmp 79) (.tmp 81) 71 rfl b 5 ib (.int .u8 0) 1 1 Tryz.underlying71 hib hbz0 hbz1 hbz2 rfl (by decide) _ (0) (bytc ([]).reverse) rfl (hown1.alloc _) ⟨w1.heap.size,0,none⟩ 1 1 [.int .u8 123] rfl rfl (cell_one_new w1 _ _) (by simp [Value.oneCell']) (by unfold maxLen; omega) (by omega) (by simp; omega) ?_; intro v3 w3 hown3 hg3 _ hat3; have hgN:=(hg1.alloc (.cells #[.int .u8 123] 5)).grown hg3 (fun e => by have:=(hown1.lt g e.symm).1; omega); obtain ⟨t1,t2,t3⟩:=hgN.rules; unfold rdC at t1);have hxN:=(hx1.below ((Below.refl w1.heap.size w1).alloc (Nat.le_refl _) (.cells #[.int .u8 123] 5))).grown hg3 (fun k e => by have:=(hown1.lt k e).1; rw [HB.out]; exact this);have hownN : w3.ownsRow b 5 1 v3 (123 :: []).length (bytc (123 :: []).reverse):=(by rw [bytc_rev]; exact hown3);have hg9:=(hgN).set_ 1 (.int .i64 ((i:Int) + 1));have hx9:=(hxN).set (p:=⟨g,1,none⟩) rfl (.int .i64 ((i:Int) + 1));have hgp:=posOf_of (i:=i) hg0;have hgq : posOf ((w3).setCell ⟨g,1,none⟩ (.int .i64 ((i:Int) + 1))) g = i + 1:=posOf_of (i:=i + 1) hg9;go_roundw
            case rel => exact ⟨i + 1,123 :: [],0,by omega,hid (by have:=HOPL.out; (try simp only [List.length_cons,List.length_nil] at this ⊢); omega),hid (by have:=HFI.out; omega),by first | rfl | go_num,HQ,own_setX (hownN) (p:=⟨g,1,none⟩) hgb _,hg9,hx9⟩
            case measure => rw [hgp,hgq]; omega
           | cons hh tt =>
            have hopl : tt.length + 1 ≤ i:=HOPL.out;rw [show (hh :: tt).length = tt.length + 1 from rfl];have hq0 : ((tt.length:Int) + 1 == 0) = false:=(by rw [beq_eq_false_iff_ne]; omega);have HQ:=hid (show exprS l x frm (l.length + 1 - (i + 1)) (i + 1) (123 :: (hh :: tt)) 0 = E from HS6.out.symm);go_wp2_with fail;refine (ib_calls 123 _).mono ?_;rintro e w2 ⟨rfl,rfl⟩;go_wp2_with (at_builtin; refine wpList_append_own_at _ rfl (.tmp 79) (.tmp 81) 71 rfl b 5 ib (.int .u8 0) 1 1 Tryz.underlying71 hib hbz0 hbz1 hbz2 rfl (by decide) _ (tt.length + 1) (bytc ((hh :: tt)).reverse) rfl (hown1.alloc _) ⟨w1.heap.size,0,none⟩ 1 1 [.int .u8 123] rfl rfl (cell_one_new w1 _ _) (by simp [Value.oneCell']) (by unfold maxLen; omega) (by omega) (by simp; omega) ?_; intro v3 w3 hown3 hg3 _ hat3; have hgN:=(hg1.alloc (.cells #[.int .u8 123] 5)).grown hg3 (fun e => by have:=(hown1.lt g e.symm).1; omega); obtain ⟨t1,t2,t3⟩:=hgN.rules; unfold rdC at t1);have hxN:=(hx1.below ((Below.refl w1.heap.size w1).alloc (Nat.le_refl _) (.cells #[.int .u8 123] 5))).grown hg3 (fun k e => by have:=(hown1.lt k e).1; rw [HB.out]; exact this);have hownN : w3.ownsRow b 5 1 v3 (123 :: (hh :: tt)).length (bytc (123 :: (hh :: tt)).reverse):=(by rw [bytc_rev]; exact hown3);have hg9:=(hgN).set_ 1 (.int .i64 ((i:Int) + 1));have hx9:=(hxN).set (p:=⟨g,1,none⟩) rfl (.int .i64 ((i:Int) + 1));have hgp:=posOf_of (i:=i) hg0;have hgq : posOf ((w3).setCell ⟨g,1,none⟩ (.int .i64 ((i:Int) + 1))) g = i + 1:=posOf_of (i:=i + 1) hg9;go_roundw
            case rel => exact ⟨i + 1,123 :: (hh :: tt),0,by omega,hid (by have:=HOPL.out; (try simp only [List.length_cons,List.length_nil] at this ⊢); omega),hid (by have:=HFI.out; omega),by first | rfl | go_num,HQ,own_setX (hownN) (p:=⟨g,1,none⟩) hgb _,hg9,hx9⟩
            case measure => rw [hgp,hgq]; omega
          ·by_cases h41 : c = 41
           ·subst h41;cases op with
            | nil =>
             have HQ:=hid (show E = .error i from HS6.out);go_wp2_with fail;refine (ib_calls 41 _).mono ?_;rintro e w2 ⟨rfl,rfl⟩;go_wp2_with fail;refine (ib_close 41 0 rfl _).mono ?_;rintro e w2 ⟨rfl,rfl⟩;go_wp2_with fail;refine (lfail_any _ _ _).mono ?_;rintro e w2 ⟨rfl,hb2⟩;have hx2:=hx1.below hb2;have HRR:=hid (show R = .error _ from by rw [HT.out,HQ.out]; rfl);go_wp2_with fail;exact ⟨rfl,by rw [HRR.out]; rfl,(fun r hr => by rw [HRR.out] at hr; cases hr),hx2⟩
            | cons hh tt =>
             have hown1r:=hown1;rw [bytc_rev] at hown1r;obtain ⟨gg,cap,e0,hpop,hle1,hle2⟩:=own_pop (n:=tt.length) (by rw [bytc_len]; simp) hown1r;injection e0 with e0 e1 e2;subst e0 e2;obtain ⟨b0,o0,e0,hb0,hc0⟩:=(Row.of_own hown1).at_ (k:=tt.length) (by rw [bytc_rev,List.length_append,bytc_len]; simp);injection e0 with e0;injection e0 with e1 e2 e3;subst e1 e2;have hcc : w1.cell? ⟨gg,0 + tt.length,none⟩ = some (.int .u8 (hh.toNat:Int)):=hc0 tt.length _ (by rw [bytc_rev,List.getElem?_append_right (by rw [bytc_len]; simp),bytc_len]; simp);rw [Nat.zero_add] at hcc;have hopl : tt.length + 1 ≤ i:=HOPL.out;rw [show (hh :: tt).length = tt.length + 1 from rfl];have n1 : IntKind.i64.wrap ((tt.length:Int) + 1 - 1) = (tt.length:Int):=(by rw [show (tt.length:Int) + 1 - 1 = (tt.length:Int) by omega]; exact IntWalk.i64_in _ (by omega));have n2 : IntKind.i64.wrap (tt.length:Int) = (tt.length:Int):=IntWalk.i64_in _ (by omega);have hq0 : ((tt.length:Int) + 1 == 0) = false:=(by rw [beq_eq_false_iff_ne]; omega);clear hc0 e3
             by_cases hO : hh = 40
             ·subst hO;have HQ:=hid (show exprS l x frm (l.length + 1 - (i + 1)) (i + 1) tt 0 = E from HS6.out.symm);go_wp2_with fail;refine (ib_calls 41 _).mono ?_;rintro e w2 ⟨rfl,rfl⟩;go_wp2_with fail;refine (ib_close 41 0 rfl _).mono ?_;rintro e w2 ⟨rfl,rfl⟩;go_wp2_with fail;refine (ib_calls 40 _).mono ?_;rintro e w2 ⟨rfl,rfl⟩;go_wp2_with fail;refine (ib_close 41 0 rfl _).mono ?_;rintro e w2 ⟨rfl,rfl⟩;go_wp2_with fail;have hg9:=(hg1).set_ 1 (.int .i64 ((i:Int) + 1));have hx9:=(hx1).set (p:=⟨g,1,none⟩) rfl (.int .i64 ((i:Int) + 1));have hgp:=posOf_of (i:=i) hg0;have hgq : posOf ((w1).setCell ⟨g,1,none⟩ (.int .i64 ((i:Int) + 1))) g = i + 1:=posOf_of (i:=i + 1) hg9;go_roundw
              case rel => exact ⟨i + 1,tt,0,by omega,hid (by have:=HOPL.out; (try simp only [List.length_cons,List.length_nil] at this ⊢); omega),hid (by have:=HFI.out; omega),by first | rfl | go_num,HQ,own_setX (hpop) (p:=⟨g,1,none⟩) hgb _,hg9,hx9⟩
              case measure => rw [hgp,hgq]; omega
             ·have HQ:=hid (show E = .error i from by rw [HS6.out]; simp [bracket,hO]);have HNE:=hid (ib_ne0 hh hO);have HIC:=hid (fun W => ib_calls hh W);obtain ⟨jj,hjj⟩ : ∃ jj : Int,(if hh = 40 then 0 else if hh = 91 then 1 else if hh = 123 then 2 else -1) = jj:=⟨_,rfl⟩;rw [hjj] at HNE HIC;have hj1 : (jj == 0) = false:=(by rw [beq_eq_false_iff_ne]; exact HNE.out);have hj2 : (jj != 0) = true:=(by rw [bne,hj1]; rfl);clear hjj;go_wp2_with fail;refine (ib_calls 41 _).mono ?_;rintro e w2 ⟨rfl,rfl⟩;go_wp2_with fail;refine (ib_close 41 0 rfl _).mono ?_;rintro e w2 ⟨rfl,rfl⟩;go_wp2_with fail;refine (HIC.out _).mono ?_;rintro e w2 ⟨rfl,rfl⟩;go_wp2_with fail;refine (ib_close 41 0 rfl _).mono ?_;rintro e w2 ⟨rfl,rfl⟩;go_wp2_with fail;refine (lfail_any _ _ _).mono ?_;rintro e w2 ⟨rfl,hb2⟩;have hx2:=hx1.below hb2;have HRR:=hid (show R = .error _ from by rw [HT.out,HQ.out]; rfl);go_wp2_with fail;exact ⟨rfl,by rw [HRR.out]; rfl,(fun r hr => by rw [HRR.out] at hr; cases hr),hx2⟩
           ·by_cases h93 : c = 93
            ·subst h93;cases op with
             | nil =>
              have HQ:=hid (show E = .error i from HS6.out);go_wp2_with fail;refine (ib_calls 93 _).mono ?_;rintro e w2 ⟨rfl,rfl⟩;go_wp2_with fail;refine (ib_close 93 1 rfl _).mono ?_;rintro e w2 ⟨rfl,rfl⟩;go_wp2_with fail;refine (lfail_any _ _ _).mono ?_;rintro e w2 ⟨rfl,hb2⟩;have hx2:=hx1.below hb2;have HRR:=hid (show R = .error _ from by rw [HT.out,HQ.out]; rfl);go_wp2_with fail;exact ⟨rfl,by rw [HRR.out]; rfl,(fun r hr => by rw [HRR.out] at hr; cases hr),hx2⟩
             | cons hh tt =>
              have hown1r:=hown1;rw [bytc_rev] at hown1r;obtain ⟨gg,cap,e0,hpop,hle1,hle2⟩:=own_pop (n:=tt.length) (by rw [bytc_len]; simp) hown1r;injection e0 with e0 e1 e2;subst e0 e2;obtain ⟨b0,o0,e0,hb0,hc0⟩:=(Row.of_own hown1).at_ (k:=tt.length) (by rw [bytc_rev,List.length_append,bytc_len]; simp);injection e0 with e0;injection e0 with e1 e2 e3;subst e1 e2;have hcc : w1.cell? ⟨gg,0 + tt.length,none⟩ = some (.int .u8 (hh.toNat:Int)):=hc0 tt.length _ (by rw [bytc_rev,List.getElem?_append_right (by rw [bytc_len]; simp),bytc_len]; simp);rw [Nat.zero_add] at hcc;have hopl : tt.length + 1 ≤ i:=HOPL.out;rw [show (hh :: tt).length = tt.length + 1 from rfl];have n1 : IntKind.i64.wrap ((tt.length:Int) + 1 - 1) = (tt.length:Int):=(by rw [show (tt.length:Int) + 1 - 1 = (tt.length:Int) by omega]; exact IntWalk.i64_in _ (by omega));have n2 : IntKind.i64.wrap (tt.length:Int) = (tt.length:Int):=IntWalk.i64_in _ (by omega);have hq0 : ((tt.length:Int) + 1 == 0) = false:=(by rw [beq_eq_false_iff_ne]; omega);clear hc0 e3
              by_cases hO : hh = 91
              ·subst hO;have HQ:=hid (show exprS l x frm (l.length + 1 - (i + 1)) (i + 1) tt 0 = E from HS6.out.symm);go_wp2_with fail;refine (ib_calls 93 _).mono ?_;rintro e w2 ⟨rfl,rfl⟩;go_wp2_with fail;refine (ib_close 93 1 rfl _).mono ?_;rintro e w2 ⟨rfl,rfl⟩;go_wp2_with fail;refine (ib_calls 91 _).mono ?_;rintro e w2 ⟨rfl,rfl⟩;go_wp2_with fail;refine (ib_close 93 1 rfl _).mono ?_;rintro e w2 ⟨rfl,rfl⟩;go_wp2_with fail;have hg9:=(hg1).set_ 1 (.int .i64 ((i:Int) + 1));have hx9:=(hx1).set (p:=⟨g,1,none⟩) rfl (.int .i64 ((i:Int) + 1));have hgp:=posOf_of (i:=i) hg0;have hgq : posOf ((w1).setCell ⟨g,1,none⟩ (.int .i64 ((i:Int) + 1))) g = i + 1:=posOf_of (i:=i + 1) hg9;go_roundw
               case rel => exact ⟨i + 1,tt,0,by omega,hid (by have:=HOPL.out; (try simp only [List.length_cons,List.length_nil] at this ⊢); omega),hid (by have:=HFI.out; omega),by first | rfl | go_num,HQ,own_setX (hpop) (p:=⟨g,1,none⟩) hgb _,hg9,hx9⟩
               case measure => rw [hgp,hgq]; omega
              ·have HQ:=hid (show E = .error i from by rw [HS6.out]; simp [bracket,hO]);have HNE:=hid (ib_ne1 hh hO);have HIC:=hid (fun W => ib_calls hh W);obtain ⟨jj,hjj⟩ : ∃ jj : Int,(if hh = 40 then 0 else if hh = 91 then 1 else if hh = 123 then 2 else -1) = jj:=⟨_,rfl⟩;rw [hjj] at HNE HIC;have hj1 : (jj == 1) = false:=(by rw [beq_eq_false_iff_ne]; exact HNE.out);have hj2 : (jj != 1) = true:=(by rw [bne,hj1]; rfl);clear hjj;go_wp2_with fail;refine (ib_calls 93 _).mono ?_;rintro e w2 ⟨rfl,rfl⟩;go_wp2_with fail;refine (ib_close 93 1 rfl _).mono ?_;rintro e w2 ⟨rfl,rfl⟩;go_wp2_with fail;refine (HIC.out _).mono ?_;rintro e w2 ⟨rfl,rfl⟩;go_wp2_with fail;refine (ib_close 93 1 rfl _).mono ?_;rintro e w2 ⟨rfl,rfl⟩;go_wp2_with fail;refine (lfail_any _ _ _).mono ?_;rintro e w2 ⟨rfl,hb2⟩;have hx2:=hx1.below hb2;have HRR:=hid (show R = .error _ from by rw [HT.out,HQ.out]; rfl);go_wp2_with fail;exact ⟨rfl,by rw [HRR.out]; rfl,(fun r hr => by rw [HRR.out] at hr; cases hr),hx2⟩
            ·by_cases h125 : c = 125
             ·subst h125;cases op with
              | nil => exact absurd ⟨rfl,.inr (.inr rfl)⟩ HTM.out
              | cons hh tt =>
               have hown1r:=hown1;rw [bytc_rev] at hown1r;obtain ⟨gg,cap,e0,hpop,hle1,hle2⟩:=own_pop (n:=tt.length) (by rw [bytc_len]; simp) hown1r;injection e0 with e0 e1 e2;subst e0 e2;obtain ⟨b0,o0,e0,hb0,hc0⟩:=(Row.of_own hown1).at_ (k:=tt.length) (by rw [bytc_rev,List.length_append,bytc_len]; simp);injection e0 with e0;injection e0 with e1 e2 e3;subst e1 e2;have hcc : w1.cell? ⟨gg,0 + tt.length,none⟩ = some (.int .u8 (hh.toNat:Int)):=hc0 tt.length _ (by rw [bytc_rev,List.getElem?_append_right (by rw [bytc_len]; simp),bytc_len]; simp);rw [Nat.zero_add] at hcc;have hopl : tt.length + 1 ≤ i:=HOPL.out;rw [show (hh :: tt).length = tt.length + 1 from rfl];have n1 : IntKind.i64.wrap ((tt.length:Int) + 1 - 1) = (tt.length:Int):=(by rw [show (tt.length:Int) + 1 - 1 = (tt.length:Int) by omega]; exact IntWalk.i64_in _ (by omega));have n2 : IntKind.i64.wrap (tt.length:Int) = (tt.length:Int):=IntWalk.i64_in _ (by omega);have hq0 : ((tt.length:Int) + 1 == 0) = false:=(by rw [beq_eq_false_iff_ne]; omega);clear hc0 e3
               by_cases hO : hh = 123
               ·subst hO;have HQ:=hid (show exprS l x frm (l.length + 1 - (i + 1)) (i + 1) tt 0 = E from HS6.out.symm);go_wp2_with fail;refine (ib_calls 125 _).mono ?_;rintro e w2 ⟨rfl,rfl⟩;go_wp2_with fail;refine (ib_close 125 2 rfl _).mono ?_;rintro e w2 ⟨rfl,rfl⟩;go_wp2_with fail;refine (ib_calls 123 _).mono ?_;rintro e w2 ⟨rfl,rfl⟩;go_wp2_with fail;refine (ib_close 125 2 rfl _).mono ?_;rintro e w2 ⟨rfl,rfl⟩;go_wp2_with fail;have hg9:=(hg1).set_ 1 (.int .i64 ((i:Int) + 1));have hx9:=(hx1).set (p:=⟨g,1,none⟩) rfl (.int .i64 ((i:Int) + 1));have hgp:=posOf_of (i:=i) hg0;have hgq : posOf ((w1).setCell ⟨g,1,none⟩ (.int .i64 ((i:Int) + 1))) g = i + 1:=posOf_of (i:=i + 1) hg9;go_roundw
                case rel => exact ⟨i + 1,tt,0,by omega,hid (by have:=HOPL.out; (try simp only [List.length_cons,List.length_nil] at this ⊢); omega),hid (by have:=HFI.out; omega),by first | rfl | go_num,HQ,own_setX (hpop) (p:=⟨g,1,none⟩) hgb _,hg9,hx9⟩
                case measure => rw [hgp,hgq]; omega
               ·have HQ:=hid (show E = .error i from by rw [HS6.out]; simp [bracket,hO]);have HNE:=hid (ib_ne2 hh hO);have HIC:=hid (fun W => ib_calls hh W);obtain ⟨jj,hjj⟩ : ∃ jj : Int,(if hh = 40 then 0 else if hh = 91 then 1 else if hh = 123 then 2 else -1) = jj:=⟨_,rfl⟩;rw [hjj] at HNE HIC;have hj1 : (jj == 2) = false:=(by rw [beq_eq_false_iff_ne]; exact HNE.out);have hj2 : (jj != 2) = true:=(by rw [bne,hj1]; rfl);clear hjj;go_wp2_with fail;refine (ib_calls 125 _).mono ?_;rintro e w2 ⟨rfl,rfl⟩;go_wp2_with fail;refine (ib_close 125 2 rfl _).mono ?_;rintro e w2 ⟨rfl,rfl⟩;go_wp2_with fail;refine (HIC.out _).mono ?_;rintro e w2 ⟨rfl,rfl⟩;go_wp2_with fail;refine (ib_close 125 2 rfl _).mono ?_;rintro e w2 ⟨rfl,rfl⟩;go_wp2_with fail;refine (lfail_any _ _ _).mono ?_;rintro e w2 ⟨rfl,hb2⟩;have hx2:=hx1.below hb2;have HRR:=hid (show R = .error _ from by rw [HT.out,HQ.out]; rfl);go_wp2_with fail;exact ⟨rfl,by rw [HRR.out]; rfl,(fun r hr => by rw [HRR.out] at hr; cases hr),hx2⟩
             ·have hbn:=brk_none op c h40 h91 h123 h41 h93 h125;have HQ:=hid (show exprS l x frm (l.length + 1 - (i + 1)) (i + 1) op 0 = E from by rw [HS6.out,hbn]);have hin:=ib_none c h41 h93 h125;have HI1:=hid (fun W => ib_calls c W);rw [if_neg h40,if_neg h91,if_neg h123] at HI1;have HI2:=hid (fun W => ib_close c (-1) hin W);clear hbn hin h40 h91 h123 h41 h93 h125 HTM;cases op with
              | nil =>
               rcases hq9 with h9 | ⟨h9a,h9b,h9c⟩
               ·simp at h9
               ·go_wp2_with fail;refine (HI1.out _).mono ?_;rintro e w2 ⟨rfl,rfl⟩;go_wp2_with fail;refine (HI2.out _).mono ?_;rintro e w2 ⟨rfl,rfl⟩;go_wp2_with fail;have hg9:=(hg1).set_ 1 (.int .i64 ((i:Int) + 1));have hx9:=(hx1).set (p:=⟨g,1,none⟩) rfl (.int .i64 ((i:Int) + 1));have hgp:=posOf_of (i:=i) hg0;have hgq : posOf ((w1).setCell ⟨g,1,none⟩ (.int .i64 ((i:Int) + 1))) g = i + 1:=posOf_of (i:=i + 1) hg9;go_roundw
                case rel => exact ⟨i + 1,[],0,by omega,hid (by have:=HOPL.out; (try simp only [List.length_cons,List.length_nil] at this ⊢); omega),hid (by have:=HFI.out; omega),by first | rfl | go_num,HQ,own_setX (hown1) (p:=⟨g,1,none⟩) hgb _,hg9,hx9⟩
                case measure => rw [hgp,hgq]; omega
              | cons hh tt =>
               have hopl : tt.length + 1 ≤ i:=HOPL.out;rw [show (hh :: tt).length = tt.length + 1 from rfl];have hq0 : ((tt.length:Int) + 1 == 0) = false:=(by rw [beq_eq_false_iff_ne]; omega);clear hq9;go_wp2_with fail;refine (HI1.out _).mono ?_;rintro e w2 ⟨rfl,rfl⟩;go_wp2_with fail;refine (HI2.out _).mono ?_;rintro e w2 ⟨rfl,rfl⟩;go_wp2_with fail;have hg9:=(hg1).set_ 1 (.int .i64 ((i:Int) + 1));have hx9:=(hx1).set (p:=⟨g,1,none⟩) rfl (.int .i64 ((i:Int) + 1));have hgp:=posOf_of (i:=i) hg0;have hgq : posOf ((w1).setCell ⟨g,1,none⟩ (.int .i64 ((i:Int) + 1))) g = i + 1:=posOf_of (i:=i + 1) hg9;go_roundw
               case rel => exact ⟨i + 1,(hh :: tt),0,by omega,hid (by have:=HOPL.out; (try simp only [List.length_cons,List.length_nil] at this ⊢); omega),hid (by have:=HFI.out; omega),by first | rfl | go_num,HQ,own_setX (hown1) (p:=⟨g,1,none⟩) hgb _,hg9,hx9⟩
               case measure => rw [hgp,hgq]; omega
    ·have b0' : ((ins.toNat:Int) == 0) = false:=u8_ne (d:=0) hins;have b0 : ((ins.toNat:Int) != 0) = true:=by rw [bne,b0']; rfl
     by_cases hci : c = ins
     ·subst hci;have HQ:=hid (HS3.out.trans ((if_pos hins).trans (by rw [if_pos rfl]))).symm;go_wp2_with fail;have hg9:=(hg1).set_ 1 (.int .i64 ((i:Int) + 1));have hx9:=(hx1).set (p:=⟨g,1,none⟩) rfl (.int .i64 ((i:Int) + 1));have hgp:=posOf_of (i:=i) hg0;have hgq : posOf ((w1).setCell ⟨g,1,none⟩ (.int .i64 ((i:Int) + 1))) g = i + 1:=posOf_of (i:=i + 1) hg9;go_roundw
      case rel => exact ⟨i + 1,op,0,by omega,hid (by have:=HOPL.out; (try simp only [List.length_cons,List.length_nil] at this ⊢); omega),hid (by have:=HFI.out; omega),by first | rfl | go_num,HQ,own_setX (hown1) (p:=⟨g,1,none⟩) hgb _,hg9,hx9⟩
      case measure => rw [hgp,hgq]; omega
     ·have bci : ((c.toNat:Int) == (ins.toNat:Int)) = false:=u8_ne hci;have HQ:=hid (HS3.out.trans ((if_pos hins).trans (by rw [if_neg hci]))).symm;go_wp2_with fail;have hg9:=(hg1).set_ 1 (.int .i64 ((i:Int) + 1));have hx9:=(hx1).set (p:=⟨g,1,none⟩) rfl (.int .i64 ((i:Int) + 1));have hgp:=posOf_of (i:=i) hg0;have hgq : posOf ((w1).setCell ⟨g,1,none⟩ (.int .i64 ((i:Int) + 1))) g = i + 1:=posOf_of (i:=i + 1) hg9;go_roundw
      case rel => exact ⟨i + 1,op,ins,by omega,hid (by have:=HOPL.out; (try simp only [List.length_cons,List.length_nil] at this ⊢); omega),hid (by have:=HFI.out; omega),by first | rfl | go_num,HQ,own_setX (hown1) (p:=⟨g,1,none⟩) hgb _,hg9,hx9⟩
      case measure => rw [hgp,hgq]; omega
end Go.Proofs.YtonehlkiackhcaaGreatDoor
