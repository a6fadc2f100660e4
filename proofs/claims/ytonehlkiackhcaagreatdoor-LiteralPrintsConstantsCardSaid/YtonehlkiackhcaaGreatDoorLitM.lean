/- The literals: a field of a formatted string. Nothing is claimed here. -/
import Derived.Test.YtonehlkiackhcaaGreatDoorLitK
set_option linter.unusedVariables false
set_option linter.unusedSimpArgs false
set_option maxRecDepth 100000
set_option maxHeartbeats 16000000
namespace Go.Proofs.YtonehlkiackhcaaGreatDoor
open Go.RowKit Go.Lib
structure Prt where
 field : Bool
 text : List UInt8
 conv : Int
 spec : List UInt8
 deriving DecidableEq
def prtc (p : Prt) : List Value:=[.bool p.field,.string ⟨p.text.toArray⟩,.int .i64 p.conv,.string ⟨p.spec.toArray⟩]
def specS (l : List UInt8) (x : Sht) (frm:Nat) : Nat → Nat → Except Nat Nat
 | 0,_ => .error frm
 | f + 1,k => match plainS l x frm k with
  | .error j => .error j
  | .ok c => if c = 125 then .ok k else if c = 123∨c = 34∨c = 39 then .error k else specS l x frm f (k + 1)
def convS (l : List UInt8) (x : Sht) (frm i:Nat) : Except Nat (Int × Nat) :=
 if at0 l i = 33 then match plainS l x frm (i + 1) with
  | .error j => .error j
  | .ok c => if c ≠ 114∧c ≠ 115 then .error (i + 1) else match plainS l x frm (i + 2) with
   | .error j => .error j
   | .ok d => if d ≠ 58∧d ≠ 125 then .error (i + 2) else .ok ((c.toNat:Int),i + 2)
 else .ok (0,i)
def tailR (l : List UInt8) (t : List UInt8) (c:Int) (a:Nat) : Except Nat Nat → Except Nat (Prt × Nat)
 | .error k => .error k
 | .ok k => .ok (⟨true,t,c,cutL l a k⟩,k + 1)
def tailS (l : List UInt8) (x : Sht) (frm:Nat) (t : List UInt8) (c:Int) (j:Nat) : Except Nat (Prt × Nat) :=
 if at0 l j = 58 then tailR l t c (j + 1) (specS l x frm (l.length + 1 - (j + 1)) (j + 1))
 else .ok (⟨true,t,c,[]⟩,j + 1)
def fieldS (l : List UInt8) (x : Sht) (frm:Nat) : Except Nat (Prt × Nat):=match exprT l x frm with
 | .error j => .error j
 | .ok (t,i) => match convS l x frm i with
  | .error j => .error j
  | .ok (c,j) => tailS l x frm t c j
theorem Blk.setRow {w : World} {g t : Nat} {cs : Array Value} (h : Blk w g t cs) (cs' : Array Value) : Blk (w.setRow g cs') g t cs':=by
 unfold Blk at h ⊢;unfold World.setRow;simp [Array.getElem?_modify,h]
theorem Blk.farRow {w : World} {g g' t : Nat} {cs : Array Value} (h : Blk w g t cs) (hne : g ≠ g') (cs' : Array Value) : Blk (w.setRow g' cs') g t cs:=by
 unfold Blk at h ⊢;unfold World.setRow;simp [Array.getElem?_modify,Ne.symm hne,h]
theorem BX.setRow {w w' : World} {g g' : Nat} (h : BX g w w') (hge : w.heap.size ≤ g') (cs' : Array Value) : BX g w (w'.setRow g' cs') :=
 ⟨h.os,h.tape,h.output,by simpa [World.setRow] using h.size,fun k hk hne => by
  have h1 : (w'.setRow g' cs').heap[k]? = w'.heap[k]?:=by
   unfold World.setRow;simp only [Array.getElem?_modify];rw [if_neg (by omega)]
  rw [h1,h.block k hk hne]⟩
theorem specS_at {l : List UInt8} {x : Sht} {frm k : Nat} (hi : k ≤ l.length) : specS l x frm (l.length + 1 - k) k = match plainS l x frm k with
  | .error j => .error j
  | .ok c => if c = 125 then .ok k else if c = 123∨c = 34∨c = 39 then .error k else specS l x frm (l.length + 1 - (k + 1)) (k + 1):=by
 rw [show l.length + 1 - k = (l.length + 1 - (k + 1)) + 1 by omega];rfl
theorem BX.setFar {w w' : World} {g : Nat} (h : BX g w w') {p : Addr} (hge : w.heap.size ≤ p.block) (u : Value) : BX g w (w'.setCell p u) :=
 ⟨h.os,h.tape,h.output,by simpa [World.setCell] using h.size,fun k hk hne => (Below.heap_setCell w' p u k (by omega)).trans (h.block k hk hne)⟩
theorem exprS_end {l : List UInt8} {x : Sht} {frm : Nat} : ∀ (f i:Nat) (op : List UInt8) (ins : UInt8) (k:Nat),exprS l x frm f i op ins = .ok k → i ≤ k∧k < x.lim∧(at0 l k = 33∨at0 l k = 58∨at0 l k = 125)
 | 0,_,_,_,_,h => by unfold exprS at h; cases h
 | f + 1,i,op,ins,k,h => by
  unfold exprS at h;cases hp : plainS l x frm i with
  | error j => rw [hp] at h; cases h
  | ok c =>
   rw [hp] at h;simp only at h;obtain ⟨h1,h2,_⟩:=plainS_ok hp;split at h
   ·cases h
   ·split at h
    ·have:=exprS_end f (i + 1) _ _ k h;exact ⟨by omega,this.2⟩
    ·split at h
     ·have:=exprS_end f (i + 1) _ _ k h;exact ⟨by omega,this.2⟩
     ·split at h
      ·rename_i h5;injection h with h;subst h;rw [← h2] at h5;exact ⟨Nat.le_refl _,h1,h5.2⟩
      ·split at h
       ·cases h
       ·have:=exprS_end f (i + 1) _ _ k h;exact ⟨by omega,this.2⟩
theorem exprT_end {l : List UInt8} {x : Sht} {frm : Nat} {t : List UInt8} {k : Nat} (h : exprT l x frm = .ok (t,k)) : frm + 1 ≤ k∧k < x.lim∧(at0 l k = 33∨at0 l k = 58∨at0 l k = 125)∧t = cutL l (frm + 1) k:=by
 unfold exprT at h;cases he : exprS l x frm (l.length + 1 - (frm + 1)) (frm + 1) [] 0 with
 | error j => rw [he] at h; cases h
 | ok i =>
  rw [he] at h;have h1:=exprS_end _ _ _ _ _ he;unfold exprR at h;simp only at h;split at h
  ·cases h
  ·injection h with h;injection h with h2 h3;subst h3;exact ⟨h1.1,h1.2.1,h1.2.2,h2.symm⟩
theorem field_any {w : World} {g : Nat} {l : List UInt8} {x : Sht} (frm:Nat) (h : Blk w g 70 (rdC l (frm + 1) x)) (hl : l.length ≤ 16000) (hx : x.lim ≤ l.length) (hf : frm < l.length) :
  Calls Tryz.prog 58 #[.pointer (some ⟨g,0,none⟩),.int .i64 (frm:Int)] w fun e w' => Thr (fieldS l x frm) (fun r => .agg (prtc r.1).toArray) e∧RdOk w' g l x (fieldS l x frm)∧BX g w w':=by
 have hgl:=h.lt;have hi0 : l.length < 16001:=by omega
 have hEX:=fun W hW => expression_any (w:=W) (g:=g) (x:=x) frm hW hl hx hf;obtain ⟨R,hR⟩ : ∃ R,fieldS l x frm = R:=⟨_,rfl⟩;rw [hR];have HR0:=hid hR;have hP0:=Blk.new w 91 #[.bool false,.string ⟨#[]⟩,.int .i64 0,.string ⟨#[]⟩];have h0:=h.alloc (.cells #[.bool false,.string ⟨#[]⟩,.int .i64 0,.string ⟨#[]⟩] 91);have hx0:=BX.of g ((Below.refl w.heap.size w).alloc (Nat.le_refl _) (.cells #[.bool false,.string ⟨#[]⟩,.int .i64 0,.string ⟨#[]⟩] 91));have HEX:=hid hEX;clear hEX hR;go_enter Tryz.func58,Tryz.ntmps58;go_wp2_with fail;obtain ⟨w0,hw0⟩ : ∃ w0,w.alloc (.cells #[.bool false,.string ⟨#[]⟩,.int .i64 0,.string ⟨#[]⟩] 91) = w0:=⟨_,rfl⟩;obtain ⟨p,hp⟩ : ∃ p,w.heap.size = p:=⟨_,rfl⟩;rw [hw0] at h0 hx0 hP0 ⊢;rw [hp] at hP0 hgl ⊢;have hpw : w.heap.size ≤ p:=by omega
 refine (HEX.out _ h0).mono ?_;rintro e w1 ⟨hthr,hrd,hx1'⟩;have hx1:=hx0.trans hx1';have hP1:=hx1'.blk hP0 (by omega);clear hw0 HEX h0 hP0 hx0 hx1' h;obtain ⟨E,hE⟩ : ∃ E,exprT l x frm = E:=⟨_,rfl⟩;have hR:=HR0.out;unfold fieldS at hR;rw [hE] at hthr hrd hR;rcases E with j | ⟨t,i⟩
 ·simp only [Thr] at hthr;subst hthr;have HRR:=hid (show R = .error j from hR.symm);clear hR;go_wp2_with fail;exact ⟨rfl,by rw [HRR.out]; rfl,.err HRR.out,hx1⟩
 ·simp only [Thr] at hthr;subst hthr;have hg1:=hrd _ rfl;obtain ⟨hi1,hi2,hi3,ht⟩:=exprT_end hE;clear ht;have HR1:=hid (show R = match convS l x frm i with
   | .error j => .error j
   | .ok (c,j) => tailS l x frm t c j from hR.symm)
  clear hR hrd hE HR0;have hQ:=Blk.new w1 91 #[.bool true,.string ⟨t.toArray⟩,.int .i64 0,.string ⟨#[]⟩];have hqp : p < w1.heap.size:=hP1.lt;have hpg : p ≠ g:=(by omega);have hqg : w1.heap.size ≠ g:=(by omega);have hpq : p ≠ w1.heap.size:=(by omega);have hqw : w.heap.size ≤ w1.heap.size:=(by omega);go_wp2_with fail;have hg2:=hg1.alloc (.cells #[.bool true,.string ⟨t.toArray⟩,.int .i64 0,.string ⟨#[]⟩] 91);have hP2:=hP1.alloc (.cells #[.bool true,.string ⟨t.toArray⟩,.int .i64 0,.string ⟨#[]⟩] 91);have hx2:=hx1.below ((Below.refl w1.heap.size w1).alloc (Nat.le_refl _) (.cells #[.bool true,.string ⟨t.toArray⟩,.int .i64 0,.string ⟨#[]⟩] 91));obtain ⟨wt,hwt⟩ : ∃ wt,w1.alloc (.cells #[.bool true,.string ⟨t.toArray⟩,.int .i64 0,.string ⟨#[]⟩] 91) = wt:=⟨_,rfl⟩;rw [hwt] at hg2 hP2 hx2 hQ ⊢;obtain ⟨q,hq⟩ : ∃ q,w1.heap.size = q:=⟨_,rfl⟩;rw [hq] at hQ hqg hpq hqp hqw ⊢;clear hwt hq hg1 hP1 hx1
  by_cases h33 : at0 l i = 33
  ·have hix:=run_idx l i (by omega) (i:Int) rfl;rw [h33] at hix;obtain ⟨u1,u2,u3⟩:=hg2.rules;unfold rdC at u1;go_quiet (fail);generalize hW : World.drewN (wt) _ = w3;have hbw : Below (wt).heap.size (wt) w3:=(by rw [← hW]; exact below_drewN (Below.refl _ _) _);have hg3:=hg2.belowS hbw;have hQ3:=hQ.belowS hbw;have hP3:=hP2.belowS hbw;have hx3:=hx2.below hbw;clear hW hbw u1 u2 u3 hg2 hQ hP2 hx2 hix hi3;have hg4 : Blk (w3.setCell ⟨g,1,none⟩ (.int .i64 ((i:Int) + 1))) g 70 (rdC l (i + 1) x):=hg3.set_ 1 (.int .i64 ((i:Int) + 1));have hQ4:=hQ3.far (p:=⟨g,1,none⟩) hqg (.int .i64 ((i:Int) + 1));have hP4:=hP3.far (p:=⟨g,1,none⟩) hpg (.int .i64 ((i:Int) + 1));have hx4:=hx3.set (p:=⟨g,1,none⟩) rfl (.int .i64 ((i:Int) + 1));obtain ⟨u1,u2,u3⟩:=hg3.rules;unfold rdC at u1;have HPL:=hid (plain_any hg4 frm hl hx);obtain ⟨P,hP⟩ : ∃ P,plainS l x frm (i + 1) = P:=⟨_,rfl⟩;rw [hP] at HPL;have HPP:=hid hP;clear hP;go_wp2_with fail;refine HPL.out.mono ?_;rintro e w4 ⟨hthr,hb4⟩;clear HPL u1 u2 u3 hg3 hQ3 hP3 hx3
   replace hg4:=hg4.belowS hb4
   replace hQ4:=hQ4.belowS hb4
   replace hP4:=hP4.belowS hb4
   replace hx4:=hx4.below hb4
   clear hb4;rcases P with jj | c
   ·simp only [Thr] at hthr;subst hthr;have HRR:=hid (show R = .error jj from by rw [HR1.out]; unfold convS; rw [if_pos h33,HPP.out]);go_wp2_with fail;exact ⟨rfl,by rw [HRR.out]; rfl,.err HRR.out,hx4⟩
   ·simp only [Thr] at hthr;subst hthr
    by_cases c114 : c = 114
    ·subst c114
     -- the conversion is one of the two letters
     have hQ5 : Blk (w4.setCell ⟨q,2,none⟩ (.int .i64 114)) q 91 (prtc ⟨true,t,114,[]⟩).toArray:=hQ4.set_ 2 (.int .i64 114);have hg5:=hg4.far (p:=⟨q,2,none⟩) hqg.symm (.int .i64 114);have hP5:=hP4.far (p:=⟨q,2,none⟩) hpq (.int .i64 114);have hx5:=hx4.setFar (p:=⟨q,2,none⟩) hqw (.int .i64 114);have hCV : ∀ W : World,(convert 5 3 (.int .u8 114)).run Tryz.prog W = .ok (.int .i64 114) W:=fun W => by kernel_rfl
     have hg6 : Blk ((w4.setCell ⟨q,2,none⟩ (.int .i64 114)).setCell ⟨g,1,none⟩ (.int .i64 ((i:Int) + 1 + 1))) g 70 (rdC l (i + 2) x):=hg5.set_ 1 (.int .i64 ((i:Int) + 1 + 1));have hQ6:=hQ5.far (p:=⟨g,1,none⟩) hqg (.int .i64 ((i:Int) + 1 + 1));have hP6:=hP5.far (p:=⟨g,1,none⟩) hpg (.int .i64 ((i:Int) + 1 + 1));have hx6:=hx5.set (p:=⟨g,1,none⟩) rfl (.int .i64 ((i:Int) + 1 + 1));obtain ⟨s1,s2,s3⟩:=hQ4.rules;obtain ⟨r1,r2,r3⟩:=hg5.rules;unfold rdC at r1;have HPL:=hid (plain_any hg6 frm hl hx);obtain ⟨P,hP⟩ : ∃ P,plainS l x frm (i + 2) = P:=⟨_,rfl⟩;rw [hP] at HPL;have HPP2:=hid hP;clear hP;go_wp2_with fail;refine HPL.out.mono ?_;rintro e w7 ⟨hthr,hb7⟩;clear HPL r1 r2 r3 s1 s2 s3 hg5 hQ5 hP5 hx5 hg4 hQ4 hP4 hx4;have hgt:=hg6.belowS hb7;have hQt:=hQ6.belowS hb7;have hPt:=hP6.belowS hb7;have hxt:=hx6.below hb7;clear hb7 hg6 hQ6 hP6 hx6;rcases P with jj | d
     ·simp only [Thr] at hthr;subst hthr;have HRR:=hid (show R = .error jj from by rw [HR1.out]; unfold convS; rw [if_pos h33,HPP.out]; simp only; rw [if_neg (by decide),HPP2.out]);go_wp2_with fail;exact ⟨rfl,by rw [HRR.out]; rfl,.err HRR.out,hxt⟩
     ·simp only [Thr] at hthr;subst hthr;obtain ⟨hjl,hdd,_⟩:=plainS_ok HPP2.out
      by_cases d58 : d = 58
      ·subst d58;have HRT:=hid (show R = tailS l x frm t 114 (i + 2) from by rw [HR1.out]; unfold convS; rw [if_pos h33,HPP.out]; simp only; rw [if_neg (by decide),HPP2.out]; rfl);have h58 : at0 l (i + 2) = 58:=hdd;clear hdd HR1 HPP HPP2;obtain ⟨j,hj⟩ : ∃ j,i + 2 = j:=⟨_,rfl⟩;rw [hj] at hgt HRT h58 hjl;clear hj;go_wp2_with fail;obtain ⟨E,hE⟩ : ∃ E,specS l x frm (l.length + 1 - (j + 1)) (j + 1) = E:=⟨_,rfl⟩;have HRE:=hid (show R = tailR l t 114 (j + 1) E from by rw [HRT.out]; unfold tailS; rw [if_pos h58,hE]);have HE0:=hid hE;have hix:=run_idx l (j) (by omega) ((j:Nat):Int) rfl;rw [h58] at hix;obtain ⟨u1,u2,u3⟩:=hgt.rules;unfold rdC at u1;go_quiet (fail);generalize hW : World.drewN (w7) _ = w6;have hbw : Below (w7).heap.size (w7) w6:=(by rw [← hW]; exact below_drewN (Below.refl _ _) _);have hg6:=hgt.belowS hbw;have hQ6:=hQt.belowS hbw;have hP6:=hPt.belowS hbw;have hx6:=hxt.below hbw;clear hW hbw u1 u2 u3 hgt hQt hPt hxt hix HRT hE h58;have hg7 : Blk (w6.setCell ⟨g,1,none⟩ (.int .i64 (((j:Nat):Int) + 1))) g 70 (rdC l (j + 1) x):=hg6.set_ 1 (.int .i64 (((j:Nat):Int) + 1));have hQ7:=hQ6.far (p:=⟨g,1,none⟩) hqg (.int .i64 (((j:Nat):Int) + 1));have hP7:=hP6.far (p:=⟨g,1,none⟩) hpg (.int .i64 (((j:Nat):Int) + 1));have hx7:=hx6.set (p:=⟨g,1,none⟩) rfl (.int .i64 (((j:Nat):Int) + 1));obtain ⟨r1,r2,r3⟩:=hg6.rules;unfold rdC at r1;obtain ⟨v1,v2,v3⟩:=hg7.rules;unfold rdC at v1;have HPL:=hid (plain_any hg7 frm hl hx);obtain ⟨P,hP⟩ : ∃ P,plainS l x frm (j + 1) = P:=⟨_,rfl⟩;rw [hP] at HPL;have HPP:=hid hP;clear hP;go_wp2_with fail;refine HPL.out.mono ?_;rintro e w8 ⟨hthr,hb8⟩;clear HPL r1 r2 r3 v1 v2 v3 hg6 hQ6 hP6 hx6;have hg8:=hg7.belowS hb8;have hQ8:=hQ7.belowS hb8;have hP8:=hP7.belowS hb8;have hx8:=hx7.below hb8;clear hb8 hg7 hQ7 hP7 hx7;rcases P with jj | c
       ·simp only [Thr] at hthr;subst hthr;have HRR:=hid (show R = .error jj from by
         have h1:=specS_at (x:=x) (frm:=frm) (k:=j + 1) (show j + 1 ≤ l.length by omega);rw [HE0.out,HPP.out] at h1;rw [HRE.out,h1]; rfl)
        go_wp2_with fail;exact ⟨rfl,by rw [HRR.out]; rfl,.err HRR.out,hx8⟩
       ·simp only [Thr] at hthr;subst hthr;go_wp2_with fail
        go_loopw [9] (fun v wr => ∃ (k:Nat) (c : UInt8),v = .int .u8 (c.toNat:Int)∧j + 1 ≤ k∧k < x.lim∧Hid (plainS l x frm k = .ok c)∧Hid (specS l x frm (l.length + 1 - k) k = E)∧Blk wr g 70 (rdC l k x)∧Blk wr q 91 (prtc ⟨true,t,114,[]⟩).toArray∧Blk wr p 91 #[.bool false,.string ⟨#[]⟩,.int .i64 0,.string ⟨#[]⟩]∧BX g w wr) (fun _ wr => l.length + 1 - posOf wr g)
        case atStart => exact ⟨j + 1,c,rfl,Nat.le_refl _,(plainS_ok HPP.out).1,HPP,HE0,hg8,hQ8,hP8,hx8⟩
        case round =>
         clear hg8 hQ8 hP8 hx8 HPP HE0;obtain ⟨k,c,rfl,hk1,hk2,HPK,HEK,hgr,hQr,hPr,hxr⟩:=hrel;have hsp:=specS_at (x:=x) (frm:=frm) (k:=k) (show k ≤ l.length by omega);rw [HEK.out,HPK.out] at hsp;simp only at hsp;obtain ⟨u1,u2,u3⟩:=hgr.rules;unfold rdC at u1
         by_cases h125 : c = 125
         ·subst h125;have HRR:=hid (show R = .ok (⟨true,t,114,cutL l (j + 1) k⟩,k + 1) from by rw [HRE.out,hsp,if_pos rfl]; rfl);have hsub:=run_sub l (j + 1) k hk1 (by omega) (((j:Nat):Int) + 1) (k:Int) rfl rfl;obtain ⟨S,hS⟩ : ∃ S,cutL l (j + 1) k = S:=⟨_,rfl⟩;rw [show (l.drop (j + 1)).take (k - (j + 1)) = S from hS] at hsub;rw [hS] at HRR;clear hsp hS HRE HEK HPK;have hg6:=(hgr.far (p:=⟨q,3,none⟩) hqg.symm (.string ⟨S.toArray⟩)).drew;have hQ6 : Blk (wr.setCell ⟨q,3,none⟩ (.string ⟨S.toArray⟩)).drew q 91 (prtc ⟨true,t,114,S⟩).toArray:=(hQr.set_ 3 (.string ⟨S.toArray⟩)).drew;have hP6:=(hPr.far (p:=⟨q,3,none⟩) hpq (.string ⟨S.toArray⟩)).drew;have hx6:=(hxr.setFar (p:=⟨q,3,none⟩) hqw (.string ⟨S.toArray⟩)).below (Below.refl _ _).drew;obtain ⟨s1,s2,s3⟩:=hQr.rules;go_wp2_with fail;go_still_tail 11,(by kernel_rfl)
          repeat still_step
          clear u1 u2 u3 s1 s2 s3 hsub;obtain ⟨s1,s2,s3⟩:=hQr.rules
          -- the place is moved behind the brace, and the part is handed back
          have hg7:=hg6.set_ 1 (.int .i64 ((k:Int) + 1));have hQ7:=hQ6.far (p:=⟨g,1,none⟩) hqg (.int .i64 ((k:Int) + 1));have hP7:=hP6.far (p:=⟨g,1,none⟩) hpg (.int .i64 ((k:Int) + 1));have hx7:=hx6.set (p:=⟨g,1,none⟩) rfl (.int .i64 ((k:Int) + 1));obtain ⟨r1,r2,r3⟩:=hg6.rules;unfold rdC at r1;go_wp2_with (first | refine wpList_load_row rfl 91 (.tmp 5) rfl q rfl 91 (prtc ⟨true,t,114,S⟩).toArray (0,0) _ hQ7 Tryz.underlying91 rfl (by kernel_rfl) ?_ | refine wpList_store_row rfl 91 (.tmp 4) (.tmp 141) rfl p (prtc ⟨true,t,114,S⟩).toArray rfl rfl 91 #[.bool false,.string ⟨#[]⟩,.int .i64 0,.string ⟨#[]⟩] hP7 (by kernel_rfl) rfl (by simp [Value.oneCell',prtc]) ?_);exact ret_blk rfl rfl (hP7.setRow (prtc ⟨true,t,114,S⟩).toArray) _ Tryz.underlying91 rfl (by kernel_rfl) rfl ⟨by rw [HRR.out]; rfl,.ok HRR.out (hg7.farRow hpg.symm _),hx7.setRow hpw _⟩
         ·have b125 : ((c.toNat:Int) == 125) = false:=u8_ne (d:=125) h125;have b125' : ((c.toNat:Int) != 125) = true:=by rw [bne,b125]; rfl
          by_cases hbad : c = 123∨c = 34∨c = 39
          ·have HRR:=hid (show R = .error k from by rw [HRE.out,hsp,if_neg h125,if_pos hbad]; rfl);clear hsp;rcases hbad with rfl | rfl | rfl
           ·go_wp2_with fail;refine (lfail_any _ _ _).mono ?_;rintro e w9 ⟨rfl,hb9⟩;have hx9:=(hxr).below hb9;go_wp2_with fail;exact ⟨rfl,by rw [HRR.out]; rfl,.err HRR.out,hx9⟩
           ·go_wp2_with fail;refine (lfail_any _ _ _).mono ?_;rintro e w9 ⟨rfl,hb9⟩;have hx9:=(hxr).below hb9;go_wp2_with fail;exact ⟨rfl,by rw [HRR.out]; rfl,.err HRR.out,hx9⟩
           ·go_wp2_with fail;refine (lfail_any _ _ _).mono ?_;rintro e w9 ⟨rfl,hb9⟩;have hx9:=(hxr).below hb9;go_wp2_with fail;exact ⟨rfl,by rw [HRR.out]; rfl,.err HRR.out,hx9⟩
          ·have HE1:=hid (show specS l x frm (l.length + 1 - (k + 1)) (k + 1) = E from by rw [hsp,if_neg h125,if_neg hbad]);simp only [not_or] at hbad;have b123 : ((c.toNat:Int) == 123) = false:=u8_ne (d:=123) hbad.1;have b34 : ((c.toNat:Int) == 34) = false:=u8_ne (d:=34) hbad.2.1;have b39 : ((c.toNat:Int) == 39) = false:=u8_ne (d:=39) hbad.2.2;clear hsp hbad HEK HPK;have hg7 : Blk (wr.setCell ⟨g,1,none⟩ (.int .i64 ((k:Int) + 1))) g 70 (rdC l (k + 1) x):=hgr.set_ 1 (.int .i64 ((k:Int) + 1));have hQ7:=hQr.far (p:=⟨g,1,none⟩) hqg (.int .i64 ((k:Int) + 1));have hP7:=hPr.far (p:=⟨g,1,none⟩) hpg (.int .i64 ((k:Int) + 1));have hx7:=hxr.set (p:=⟨g,1,none⟩) rfl (.int .i64 ((k:Int) + 1));have HPL:=hid (plain_any hg7 frm hl hx);obtain ⟨P,hP⟩ : ∃ P,plainS l x frm (k + 1) = P:=⟨_,rfl⟩;rw [hP] at HPL;have HPP:=hid hP;clear hP;go_wp2_with fail;refine HPL.out.mono ?_;rintro e w8 ⟨hthr,hb8⟩;have hg8:=hg7.belowS hb8;have hQ8:=hQ7.belowS hb8;have hP8:=hP7.belowS hb8;have hx8:=hx7.below hb8;have hp0:=posOf_of (i:=k) hgr;have hp8:=posOf_of (i:=k + 1) hg8;clear HPL hb8 hg7 hQ7 hP7 hx7;rcases P with jj | c'
           ·simp only [Thr] at hthr;subst hthr;have HRR:=hid (show R = .error jj from by
             have h1:=specS_at (x:=x) (frm:=frm) (k:=k + 1) (show k + 1 ≤ l.length by omega);rw [HE1.out,HPP.out] at h1;rw [HRE.out,h1]; rfl)
            go_wp2_with fail;exact ⟨rfl,by rw [HRR.out]; rfl,.err HRR.out,hx8⟩
           ·simp only [Thr] at hthr;subst hthr;go_wp2_with fail;go_roundw
            case rel => exact ⟨k + 1,c',rfl,by omega,(plainS_ok HPP.out).1,HPP,HE1,hg8,hQ8,hP8,hx8⟩
            case measure => rw [hp0,hp8]; omega
      ·by_cases d125 : d = 125
       ·subst d125;have HRT:=hid (show R = tailS l x frm t 114 (i + 2) from by rw [HR1.out]; unfold convS; rw [if_pos h33,HPP.out]; simp only; rw [if_neg (by decide),HPP2.out]; rfl);have h58 : at0 l (i + 2) = 125:=hdd;clear hdd HR1 HPP HPP2 d58;obtain ⟨j,hj⟩ : ∃ j,i + 2 = j:=⟨_,rfl⟩;rw [hj] at hgt HRT h58 hjl;clear hj;go_wp2_with fail;have HRR:=hid (show R = .ok (⟨true,t,114,[]⟩,j + 1) from by rw [HRT.out]; unfold tailS; rw [if_neg (by rw [h58]; decide)]);have hix:=run_idx l (j) (by omega) ((j:Nat):Int) rfl;rw [h58] at hix;obtain ⟨u1,u2,u3⟩:=hgt.rules;unfold rdC at u1;go_quiet (fail);generalize hW : World.drewN (w7) _ = w6;have hbw : Below (w7).heap.size (w7) w6:=(by rw [← hW]; exact below_drewN (Below.refl _ _) _);have hg6:=hgt.belowS hbw;have hQ6:=hQt.belowS hbw;have hP6:=hPt.belowS hbw;have hx6:=hxt.below hbw;clear hW hbw u1 u2 u3 hgt hQt hPt hxt hix
        -- the place is moved behind the brace, and the part is handed back
        have hg7:=hg6.set_ 1 (.int .i64 ((j:Int) + 1));have hQ7:=hQ6.far (p:=⟨g,1,none⟩) hqg (.int .i64 ((j:Int) + 1));have hP7:=hP6.far (p:=⟨g,1,none⟩) hpg (.int .i64 ((j:Int) + 1));have hx7:=hx6.set (p:=⟨g,1,none⟩) rfl (.int .i64 ((j:Int) + 1));obtain ⟨r1,r2,r3⟩:=hg6.rules;unfold rdC at r1;go_wp2_with (first | refine wpList_load_row rfl 91 (.tmp 5) rfl q rfl 91 (prtc ⟨true,t,114,[]⟩).toArray (0,0) _ hQ7 Tryz.underlying91 rfl (by kernel_rfl) ?_ | refine wpList_store_row rfl 91 (.tmp 4) (.tmp 141) rfl p (prtc ⟨true,t,114,[]⟩).toArray rfl rfl 91 #[.bool false,.string ⟨#[]⟩,.int .i64 0,.string ⟨#[]⟩] hP7 (by kernel_rfl) rfl (by simp [Value.oneCell',prtc]) ?_);exact ret_blk rfl rfl (hP7.setRow (prtc ⟨true,t,114,[]⟩).toArray) _ Tryz.underlying91 rfl (by kernel_rfl) rfl ⟨by rw [HRR.out]; rfl,.ok HRR.out (hg7.farRow hpg.symm _),hx7.setRow hpw _⟩
       ·have HRR:=hid (show R = .error (i + 2) from by rw [HR1.out]; unfold convS; rw [if_pos h33,HPP.out]; simp only; rw [if_neg (by decide),HPP2.out]; simp only; rw [if_pos ⟨d58,d125⟩]);have b58 : ((d.toNat:Int) == 58) = false:=u8_ne (d:=58) d58;have b58' : ((d.toNat:Int) != 58) = true:=(by rw [bne,b58]; rfl);have b125 : ((d.toNat:Int) == 125) = false:=u8_ne (d:=125) d125;have b125' : ((d.toNat:Int) != 125) = true:=(by rw [bne,b125]; rfl);clear d58 d125 hdd HR1 HPP HPP2;obtain ⟨r1,r2,r3⟩:=hgt.rules;unfold rdC at r1;go_wp2_with fail;refine (lfail_any _ _ _).mono ?_;rintro e w9 ⟨rfl,hb9⟩;have hx9:=(hxt).below hb9;go_wp2_with fail;exact ⟨rfl,by rw [HRR.out]; rfl,.err HRR.out,hx9⟩
    ·by_cases c115 : c = 115
     ·subst c115;clear c114
      -- the conversion is one of the two letters
      have hQ5 : Blk (w4.setCell ⟨q,2,none⟩ (.int .i64 115)) q 91 (prtc ⟨true,t,115,[]⟩).toArray:=hQ4.set_ 2 (.int .i64 115);have hg5:=hg4.far (p:=⟨q,2,none⟩) hqg.symm (.int .i64 115);have hP5:=hP4.far (p:=⟨q,2,none⟩) hpq (.int .i64 115);have hx5:=hx4.setFar (p:=⟨q,2,none⟩) hqw (.int .i64 115);have hCV : ∀ W : World,(convert 5 3 (.int .u8 115)).run Tryz.prog W = .ok (.int .i64 115) W:=fun W => by kernel_rfl
      have hg6 : Blk ((w4.setCell ⟨q,2,none⟩ (.int .i64 115)).setCell ⟨g,1,none⟩ (.int .i64 ((i:Int) + 1 + 1))) g 70 (rdC l (i + 2) x):=hg5.set_ 1 (.int .i64 ((i:Int) + 1 + 1));have hQ6:=hQ5.far (p:=⟨g,1,none⟩) hqg (.int .i64 ((i:Int) + 1 + 1));have hP6:=hP5.far (p:=⟨g,1,none⟩) hpg (.int .i64 ((i:Int) + 1 + 1));have hx6:=hx5.set (p:=⟨g,1,none⟩) rfl (.int .i64 ((i:Int) + 1 + 1));obtain ⟨s1,s2,s3⟩:=hQ4.rules;obtain ⟨r1,r2,r3⟩:=hg5.rules;unfold rdC at r1;have HPL:=hid (plain_any hg6 frm hl hx);obtain ⟨P,hP⟩ : ∃ P,plainS l x frm (i + 2) = P:=⟨_,rfl⟩;rw [hP] at HPL;have HPP2:=hid hP;clear hP;go_wp2_with fail;refine HPL.out.mono ?_;rintro e w7 ⟨hthr,hb7⟩;clear HPL r1 r2 r3 s1 s2 s3 hg5 hQ5 hP5 hx5 hg4 hQ4 hP4 hx4;have hgt:=hg6.belowS hb7;have hQt:=hQ6.belowS hb7;have hPt:=hP6.belowS hb7;have hxt:=hx6.below hb7;clear hb7 hg6 hQ6 hP6 hx6;rcases P with jj | d
      ·simp only [Thr] at hthr;subst hthr;have HRR:=hid (show R = .error jj from by rw [HR1.out]; unfold convS; rw [if_pos h33,HPP.out]; simp only; rw [if_neg (by decide),HPP2.out]);go_wp2_with fail;exact ⟨rfl,by rw [HRR.out]; rfl,.err HRR.out,hxt⟩
      ·simp only [Thr] at hthr;subst hthr;obtain ⟨hjl,hdd,_⟩:=plainS_ok HPP2.out
       by_cases d58 : d = 58
       ·subst d58;have HRT:=hid (show R = tailS l x frm t 115 (i + 2) from by rw [HR1.out]; unfold convS; rw [if_pos h33,HPP.out]; simp only; rw [if_neg (by decide),HPP2.out]; rfl);have h58 : at0 l (i + 2) = 58:=hdd;clear hdd HR1 HPP HPP2;obtain ⟨j,hj⟩ : ∃ j,i + 2 = j:=⟨_,rfl⟩;rw [hj] at hgt HRT h58 hjl;clear hj;go_wp2_with fail;obtain ⟨E,hE⟩ : ∃ E,specS l x frm (l.length + 1 - (j + 1)) (j + 1) = E:=⟨_,rfl⟩;have HRE:=hid (show R = tailR l t 115 (j + 1) E from by rw [HRT.out]; unfold tailS; rw [if_pos h58,hE]);have HE0:=hid hE;have hix:=run_idx l (j) (by omega) ((j:Nat):Int) rfl;rw [h58] at hix;obtain ⟨u1,u2,u3⟩:=hgt.rules;unfold rdC at u1;go_quiet (fail);generalize hW : World.drewN (w7) _ = w6;have hbw : Below (w7).heap.size (w7) w6:=(by rw [← hW]; exact below_drewN (Below.refl _ _) _);have hg6:=hgt.belowS hbw;have hQ6:=hQt.belowS hbw;have hP6:=hPt.belowS hbw;have hx6:=hxt.below hbw;clear hW hbw u1 u2 u3 hgt hQt hPt hxt hix HRT hE h58;have hg7 : Blk (w6.setCell ⟨g,1,none⟩ (.int .i64 (((j:Nat):Int) + 1))) g 70 (rdC l (j + 1) x):=hg6.set_ 1 (.int .i64 (((j:Nat):Int) + 1));have hQ7:=hQ6.far (p:=⟨g,1,none⟩) hqg (.int .i64 (((j:Nat):Int) + 1));have hP7:=hP6.far (p:=⟨g,1,none⟩) hpg (.int .i64 (((j:Nat):Int) + 1));have hx7:=hx6.set (p:=⟨g,1,none⟩) rfl (.int .i64 (((j:Nat):Int) + 1));obtain ⟨r1,r2,r3⟩:=hg6.rules;unfold rdC at r1;obtain ⟨v1,v2,v3⟩:=hg7.rules;unfold rdC at v1;have HPL:=hid (plain_any hg7 frm hl hx);obtain ⟨P,hP⟩ : ∃ P,plainS l x frm (j + 1) = P:=⟨_,rfl⟩;rw [hP] at HPL;have HPP:=hid hP;clear hP;go_wp2_with fail;refine HPL.out.mono ?_;rintro e w8 ⟨hthr,hb8⟩;clear HPL r1 r2 r3 v1 v2 v3 hg6 hQ6 hP6 hx6;have hg8:=hg7.belowS hb8;have hQ8:=hQ7.belowS hb8;have hP8:=hP7.belowS hb8;have hx8:=hx7.below hb8;clear hb8 hg7 hQ7 hP7 hx7;rcases P with jj | c
        ·simp only [Thr] at hthr;subst hthr;have HRR:=hid (show R = .error jj from by
          have h1:=specS_at (x:=x) (frm:=frm) (k:=j + 1) (show j + 1 ≤ l.length by omega);rw [HE0.out,HPP.out] at h1;rw [HRE.out,h1]; rfl)
         go_wp2_with fail;exact ⟨rfl,by rw [HRR.out]; rfl,.err HRR.out,hx8⟩
        ·simp only [Thr] at hthr;subst hthr;go_wp2_with fail
         go_loopw [9] (fun v wr => ∃ (k:Nat) (c : UInt8),v = .int .u8 (c.toNat:Int)∧j + 1 ≤ k∧k < x.lim∧Hid (plainS l x frm k = .ok c)∧Hid (specS l x frm (l.length + 1 - k) k = E)∧Blk wr g 70 (rdC l k x)∧Blk wr q 91 (prtc ⟨true,t,115,[]⟩).toArray∧Blk wr p 91 #[.bool false,.string ⟨#[]⟩,.int .i64 0,.string ⟨#[]⟩]∧BX g w wr) (fun _ wr => l.length + 1 - posOf wr g)
         case atStart => exact ⟨j + 1,c,rfl,Nat.le_refl _,(plainS_ok HPP.out).1,HPP,HE0,hg8,hQ8,hP8,hx8⟩
         case round =>
          clear hg8 hQ8 hP8 hx8 HPP HE0;obtain ⟨k,c,rfl,hk1,hk2,HPK,HEK,hgr,hQr,hPr,hxr⟩:=hrel;have hsp:=specS_at (x:=x) (frm:=frm) (k:=k) (show k ≤ l.length by omega);rw [HEK.out,HPK.out] at hsp;simp only at hsp;obtain ⟨u1,u2,u3⟩:=hgr.rules;unfold rdC at u1
          by_cases h125 : c = 125
          ·subst h125;have HRR:=hid (show R = .ok (⟨true,t,115,cutL l (j + 1) k⟩,k + 1) from by rw [HRE.out,hsp,if_pos rfl]; rfl);have hsub:=run_sub l (j + 1) k hk1 (by omega) (((j:Nat):Int) + 1) (k:Int) rfl rfl;obtain ⟨S,hS⟩ : ∃ S,cutL l (j + 1) k = S:=⟨_,rfl⟩;rw [show (l.drop (j + 1)).take (k - (j + 1)) = S from hS] at hsub;rw [hS] at HRR;clear hsp hS HRE HEK HPK;have hg6:=(hgr.far (p:=⟨q,3,none⟩) hqg.symm (.string ⟨S.toArray⟩)).drew;have hQ6 : Blk (wr.setCell ⟨q,3,none⟩ (.string ⟨S.toArray⟩)).drew q 91 (prtc ⟨true,t,115,S⟩).toArray:=(hQr.set_ 3 (.string ⟨S.toArray⟩)).drew;have hP6:=(hPr.far (p:=⟨q,3,none⟩) hpq (.string ⟨S.toArray⟩)).drew;have hx6:=(hxr.setFar (p:=⟨q,3,none⟩) hqw (.string ⟨S.toArray⟩)).below (Below.refl _ _).drew;obtain ⟨s1,s2,s3⟩:=hQr.rules;go_wp2_with fail;go_still_tail 11,(by kernel_rfl)
           repeat still_step
           clear u1 u2 u3 s1 s2 s3 hsub;obtain ⟨s1,s2,s3⟩:=hQr.rules
           -- the place is moved behind the brace, and the part is handed back
           have hg7:=hg6.set_ 1 (.int .i64 ((k:Int) + 1));have hQ7:=hQ6.far (p:=⟨g,1,none⟩) hqg (.int .i64 ((k:Int) + 1));have hP7:=hP6.far (p:=⟨g,1,none⟩) hpg (.int .i64 ((k:Int) + 1));have hx7:=hx6.set (p:=⟨g,1,none⟩) rfl (.int .i64 ((k:Int) + 1));obtain ⟨r1,r2,r3⟩:=hg6.rules;unfold rdC at r1;go_wp2_with (first | refine wpList_load_row rfl 91 (.tmp 5) rfl q rfl 91 (prtc ⟨true,t,115,S⟩).toArray (0,0) _ hQ7 Tryz.underlying91 rfl (by kernel_rfl) ?_ | refine wpList_store_row rfl 91 (.tmp 4) (.tmp 141) rfl p (prtc ⟨true,t,115,S⟩).toArray rfl rfl 91 #[.bool false,.string ⟨#[]⟩,.int .i64 0,.string ⟨#[]⟩] hP7 (by kernel_rfl) rfl (by simp [Value.oneCell',prtc]) ?_);exact ret_blk rfl rfl (hP7.setRow (prtc ⟨true,t,115,S⟩).toArray) _ Tryz.underlying91 rfl (by kernel_rfl) rfl ⟨by rw [HRR.out]; rfl,.ok HRR.out (hg7.farRow hpg.symm _),hx7.setRow hpw _⟩
          ·have b125 : ((c.toNat:Int) == 125) = false:=u8_ne (d:=125) h125;have b125' : ((c.toNat:Int) != 125) = true:=by rw [bne,b125]; rfl
           by_cases hbad : c = 123∨c = 34∨c = 39
           ·have HRR:=hid (show R = .error k from by rw [HRE.out,hsp,if_neg h125,if_pos hbad]; rfl);clear hsp;rcases hbad with rfl | rfl | rfl
            ·go_wp2_with fail;refine (lfail_any _ _ _).mono ?_;rintro e w9 ⟨rfl,hb9⟩;have hx9:=(hxr).below hb9;go_wp2_with fail;exact ⟨rfl,by rw [HRR.out]; rfl,.err HRR.out,hx9⟩
            ·go_wp2_with fail;refine (lfail_any _ _ _).mono ?_;rintro e w9 ⟨rfl,hb9⟩;have hx9:=(hxr).below hb9;go_wp2_with fail;exact ⟨rfl,by rw [HRR.out]; rfl,.err HRR.out,hx9⟩
            ·go_wp2_with fail;refine (lfail_any _ _ _).mono ?_;rintro e w9 ⟨rfl,hb9⟩;have hx9:=(hxr).below hb9;go_wp2_with fail;exact ⟨rfl,by rw [HRR.out]; rfl,.err HRR.out,hx9⟩
           ·have HE1:=hid (show specS l x frm (l.length + 1 - (k + 1)) (k + 1) = E from by rw [hsp,if_neg h125,if_neg hbad]);simp only [not_or] at hbad;have b123 : ((c.toNat:Int) == 123) = false:=u8_ne (d:=123) hbad.1;have b34 : ((c.toNat:Int) == 34) = false:=u8_ne (d:=34) hbad.2.1;have b39 : ((c.toNat:Int) == 39) = false:=u8_ne (d:=39) hbad.2.2;clear hsp hbad HEK HPK;have hg7 : Blk (wr.setCell ⟨g,1,none⟩ (.int .i64 ((k:Int) + 1))) g 70 (rdC l (k + 1) x):=hgr.set_ 1 (.int .i64 ((k:Int) + 1));have hQ7:=hQr.far (p:=⟨g,1,none⟩) hqg (.int .i64 ((k:Int) + 1));have hP7:=hPr.far (p:=⟨g,1,none⟩) hpg (.int .i64 ((k:Int) + 1));have hx7:=hxr.set (p:=⟨g,1,none⟩) rfl (.int .i64 ((k:Int) + 1));have HPL:=hid (plain_any hg7 frm hl hx);obtain ⟨P,hP⟩ : ∃ P,plainS l x frm (k + 1) = P:=⟨_,rfl⟩;rw [hP] at HPL;have HPP:=hid hP;clear hP;go_wp2_with fail;refine HPL.out.mono ?_;rintro e w8 ⟨hthr,hb8⟩;have hg8:=hg7.belowS hb8;have hQ8:=hQ7.belowS hb8;have hP8:=hP7.belowS hb8;have hx8:=hx7.below hb8;have hp0:=posOf_of (i:=k) hgr;have hp8:=posOf_of (i:=k + 1) hg8;clear HPL hb8 hg7 hQ7 hP7 hx7;rcases P with jj | c'
            ·simp only [Thr] at hthr;subst hthr;have HRR:=hid (show R = .error jj from by
              have h1:=specS_at (x:=x) (frm:=frm) (k:=k + 1) (show k + 1 ≤ l.length by omega);rw [HE1.out,HPP.out] at h1;rw [HRE.out,h1]; rfl)
             go_wp2_with fail;exact ⟨rfl,by rw [HRR.out]; rfl,.err HRR.out,hx8⟩
            ·simp only [Thr] at hthr;subst hthr;go_wp2_with fail;go_roundw
             case rel => exact ⟨k + 1,c',rfl,by omega,(plainS_ok HPP.out).1,HPP,HE1,hg8,hQ8,hP8,hx8⟩
             case measure => rw [hp0,hp8]; omega
       ·by_cases d125 : d = 125
        ·subst d125;have HRT:=hid (show R = tailS l x frm t 115 (i + 2) from by rw [HR1.out]; unfold convS; rw [if_pos h33,HPP.out]; simp only; rw [if_neg (by decide),HPP2.out]; rfl);have h58 : at0 l (i + 2) = 125:=hdd;clear hdd HR1 HPP HPP2 d58;obtain ⟨j,hj⟩ : ∃ j,i + 2 = j:=⟨_,rfl⟩;rw [hj] at hgt HRT h58 hjl;clear hj;go_wp2_with fail;have HRR:=hid (show R = .ok (⟨true,t,115,[]⟩,j + 1) from by rw [HRT.out]; unfold tailS; rw [if_neg (by rw [h58]; decide)]);have hix:=run_idx l (j) (by omega) ((j:Nat):Int) rfl;rw [h58] at hix;obtain ⟨u1,u2,u3⟩:=hgt.rules;unfold rdC at u1;go_quiet (fail);generalize hW : World.drewN (w7) _ = w6;have hbw : Below (w7).heap.size (w7) w6:=(by rw [← hW]; exact below_drewN (Below.refl _ _) _);have hg6:=hgt.belowS hbw;have hQ6:=hQt.belowS hbw;have hP6:=hPt.belowS hbw;have hx6:=hxt.below hbw;clear hW hbw u1 u2 u3 hgt hQt hPt hxt hix
         -- the place is moved behind the brace, and the part is handed back
         have hg7:=hg6.set_ 1 (.int .i64 ((j:Int) + 1));have hQ7:=hQ6.far (p:=⟨g,1,none⟩) hqg (.int .i64 ((j:Int) + 1));have hP7:=hP6.far (p:=⟨g,1,none⟩) hpg (.int .i64 ((j:Int) + 1));have hx7:=hx6.set (p:=⟨g,1,none⟩) rfl (.int .i64 ((j:Int) + 1));obtain ⟨r1,r2,r3⟩:=hg6.rules;unfold rdC at r1;go_wp2_with (first | refine wpList_load_row rfl 91 (.tmp 5) rfl q rfl 91 (prtc ⟨true,t,115,[]⟩).toArray (0,0) _ hQ7 Tryz.underlying91 rfl (by kernel_rfl) ?_ | refine wpList_store_row rfl 91 (.tmp 4) (.tmp 141) rfl p (prtc ⟨true,t,115,[]⟩).toArray rfl rfl 91 #[.bool false,.string ⟨#[]⟩,.int .i64 0,.string ⟨#[]⟩] hP7 (by kernel_rfl) rfl (by simp [Value.oneCell',prtc]) ?_);exact ret_blk rfl rfl (hP7.setRow (prtc ⟨true,t,115,[]⟩).toArray) _ Tryz.underlying91 rfl (by kernel_rfl) rfl ⟨by rw [HRR.out]; rfl,.ok HRR.out (hg7.farRow hpg.symm _),hx7.setRow hpw _⟩
        ·have HRR:=hid (show R = .error (i + 2) from by rw [HR1.out]; unfold convS; rw [if_pos h33,HPP.out]; simp only; rw [if_neg (by decide),HPP2.out]; simp only; rw [if_pos ⟨d58,d125⟩]);have b58 : ((d.toNat:Int) == 58) = false:=u8_ne (d:=58) d58;have b58' : ((d.toNat:Int) != 58) = true:=(by rw [bne,b58]; rfl);have b125 : ((d.toNat:Int) == 125) = false:=u8_ne (d:=125) d125;have b125' : ((d.toNat:Int) != 125) = true:=(by rw [bne,b125]; rfl);clear d58 d125 hdd HR1 HPP HPP2;obtain ⟨r1,r2,r3⟩:=hgt.rules;unfold rdC at r1;go_wp2_with fail;refine (lfail_any _ _ _).mono ?_;rintro e w9 ⟨rfl,hb9⟩;have hx9:=(hxt).below hb9;go_wp2_with fail;exact ⟨rfl,by rw [HRR.out]; rfl,.err HRR.out,hx9⟩
     ·have HRR:=hid (show R = .error (i + 1) from by rw [HR1.out]; unfold convS; rw [if_pos h33,HPP.out]; simp only; rw [if_pos ⟨c114,c115⟩]);have b114 : ((c.toNat:Int) == 114) = false:=u8_ne (d:=114) c114;have b114' : ((c.toNat:Int) != 114) = true:=(by rw [bne,b114]; rfl);have b115 : ((c.toNat:Int) == 115) = false:=u8_ne (d:=115) c115;have b115' : ((c.toNat:Int) != 115) = true:=(by rw [bne,b115]; rfl);clear c114 c115 HR1 HPP;obtain ⟨u1,u2,u3⟩:=hg4.rules;unfold rdC at u1;go_wp2_with fail;refine (lfail_any _ _ _).mono ?_;rintro e w9 ⟨rfl,hb9⟩;have hx9:=(hx4).below hb9;go_wp2_with fail;exact ⟨rfl,by rw [HRR.out]; rfl,.err HRR.out,hx9⟩
  ·have HRT:=hid (show R = tailS l x frm t 0 i from by rw [HR1.out]; unfold convS; rw [if_neg h33]);have hix:=run_idx l i (by omega) (i:Int) rfl;have b33 : (((at0 l i).toNat:Int) == 33) = false:=u8_ne (d:=33) h33;have h58:=hi3.resolve_left h33;obtain ⟨u1,u2,u3⟩:=hg2.rules;unfold rdC at u1;go_quiet (fail);go_wp2_with fail;generalize hW : World.drewN (wt) _ = w3;have hbw : Below (wt).heap.size (wt) w3:=(by rw [← hW]; exact below_drewN (Below.refl _ _) _);have hgt:=hg2.belowS hbw;have hQt:=hQ.belowS hbw;have hPt:=hP2.belowS hbw;have hxt:=hx2.below hbw;clear hW hbw u1 u2 u3 hg2 hQ hP2 hx2 hix HR1 b33 hi3 h33;have hjl : i < x.lim:=hi2;rcases h58 with h58 | h58
   ·obtain ⟨E,hE⟩ : ∃ E,specS l x frm (l.length + 1 - (i + 1)) (i + 1) = E:=⟨_,rfl⟩;have HRE:=hid (show R = tailR l t 0 (i + 1) E from by rw [HRT.out]; unfold tailS; rw [if_pos h58,hE]);have HE0:=hid hE;have hix:=run_idx l (i) (by omega) ((i:Nat):Int) rfl;rw [h58] at hix;obtain ⟨u1,u2,u3⟩:=hgt.rules;unfold rdC at u1;go_quiet (fail);generalize hW : World.drewN (w3) _ = w6;have hbw : Below (w3).heap.size (w3) w6:=(by rw [← hW]; exact below_drewN (Below.refl _ _) _);have hg6:=hgt.belowS hbw;have hQ6:=hQt.belowS hbw;have hP6:=hPt.belowS hbw;have hx6:=hxt.below hbw;clear hW hbw u1 u2 u3 hgt hQt hPt hxt hix HRT hE h58;have hg7 : Blk (w6.setCell ⟨g,1,none⟩ (.int .i64 (((i:Nat):Int) + 1))) g 70 (rdC l (i + 1) x):=hg6.set_ 1 (.int .i64 (((i:Nat):Int) + 1));have hQ7:=hQ6.far (p:=⟨g,1,none⟩) hqg (.int .i64 (((i:Nat):Int) + 1));have hP7:=hP6.far (p:=⟨g,1,none⟩) hpg (.int .i64 (((i:Nat):Int) + 1));have hx7:=hx6.set (p:=⟨g,1,none⟩) rfl (.int .i64 (((i:Nat):Int) + 1));obtain ⟨r1,r2,r3⟩:=hg6.rules;unfold rdC at r1;obtain ⟨v1,v2,v3⟩:=hg7.rules;unfold rdC at v1;have HPL:=hid (plain_any hg7 frm hl hx);obtain ⟨P,hP⟩ : ∃ P,plainS l x frm (i + 1) = P:=⟨_,rfl⟩;rw [hP] at HPL;have HPP:=hid hP;clear hP;go_wp2_with fail;refine HPL.out.mono ?_;rintro e w8 ⟨hthr,hb8⟩;clear HPL r1 r2 r3 v1 v2 v3 hg6 hQ6 hP6 hx6;have hg8:=hg7.belowS hb8;have hQ8:=hQ7.belowS hb8;have hP8:=hP7.belowS hb8;have hx8:=hx7.below hb8;clear hb8 hg7 hQ7 hP7 hx7;rcases P with jj | c
    ·simp only [Thr] at hthr;subst hthr;have HRR:=hid (show R = .error jj from by
      have h1:=specS_at (x:=x) (frm:=frm) (k:=i + 1) (show i + 1 ≤ l.length by omega);rw [HE0.out,HPP.out] at h1;rw [HRE.out,h1]; rfl)
     go_wp2_with fail;exact ⟨rfl,by rw [HRR.out]; rfl,.err HRR.out,hx8⟩
    ·simp only [Thr] at hthr;subst hthr;go_wp2_with fail
     go_loopw [9] (fun v wr => ∃ (k:Nat) (c : UInt8),v = .int .u8 (c.toNat:Int)∧i + 1 ≤ k∧k < x.lim∧Hid (plainS l x frm k = .ok c)∧Hid (specS l x frm (l.length + 1 - k) k = E)∧Blk wr g 70 (rdC l k x)∧Blk wr q 91 (prtc ⟨true,t,0,[]⟩).toArray∧Blk wr p 91 #[.bool false,.string ⟨#[]⟩,.int .i64 0,.string ⟨#[]⟩]∧BX g w wr) (fun _ wr => l.length + 1 - posOf wr g)
     case atStart => exact ⟨i + 1,c,rfl,Nat.le_refl _,(plainS_ok HPP.out).1,HPP,HE0,hg8,hQ8,hP8,hx8⟩
     case round =>
      clear hg8 hQ8 hP8 hx8 HPP HE0;obtain ⟨k,c,rfl,hk1,hk2,HPK,HEK,hgr,hQr,hPr,hxr⟩:=hrel;have hsp:=specS_at (x:=x) (frm:=frm) (k:=k) (show k ≤ l.length by omega);rw [HEK.out,HPK.out] at hsp;simp only at hsp;obtain ⟨u1,u2,u3⟩:=hgr.rules;unfold rdC at u1
      by_cases h125 : c = 125
      ·subst h125;have HRR:=hid (show R = .ok (⟨true,t,0,cutL l (i + 1) k⟩,k + 1) from by rw [HRE.out,hsp,if_pos rfl]; rfl);have hsub:=run_sub l (i + 1) k hk1 (by omega) (((i:Nat):Int) + 1) (k:Int) rfl rfl;obtain ⟨S,hS⟩ : ∃ S,cutL l (i + 1) k = S:=⟨_,rfl⟩;rw [show (l.drop (i + 1)).take (k - (i + 1)) = S from hS] at hsub;rw [hS] at HRR;clear hsp hS HRE HEK HPK;have hg6:=(hgr.far (p:=⟨q,3,none⟩) hqg.symm (.string ⟨S.toArray⟩)).drew;have hQ6 : Blk (wr.setCell ⟨q,3,none⟩ (.string ⟨S.toArray⟩)).drew q 91 (prtc ⟨true,t,0,S⟩).toArray:=(hQr.set_ 3 (.string ⟨S.toArray⟩)).drew;have hP6:=(hPr.far (p:=⟨q,3,none⟩) hpq (.string ⟨S.toArray⟩)).drew;have hx6:=(hxr.setFar (p:=⟨q,3,none⟩) hqw (.string ⟨S.toArray⟩)).below (Below.refl _ _).drew;obtain ⟨s1,s2,s3⟩:=hQr.rules;go_wp2_with fail;go_still_tail 11,(by kernel_rfl)
       repeat still_step
       clear u1 u2 u3 s1 s2 s3 hsub;obtain ⟨s1,s2,s3⟩:=hQr.rules
       -- the place is moved behind the brace, and the part is handed back
       have hg7:=hg6.set_ 1 (.int .i64 ((k:Int) + 1));have hQ7:=hQ6.far (p:=⟨g,1,none⟩) hqg (.int .i64 ((k:Int) + 1));have hP7:=hP6.far (p:=⟨g,1,none⟩) hpg (.int .i64 ((k:Int) + 1));have hx7:=hx6.set (p:=⟨g,1,none⟩) rfl (.int .i64 ((k:Int) + 1));obtain ⟨r1,r2,r3⟩:=hg6.rules;unfold rdC at r1;go_wp2_with (first | refine wpList_load_row rfl 91 (.tmp 5) rfl q rfl 91 (prtc ⟨true,t,0,S⟩).toArray (0,0) _ hQ7 Tryz.underlying91 rfl (by kernel_rfl) ?_ | refine wpList_store_row rfl 91 (.tmp 4) (.tmp 141) rfl p (prtc ⟨true,t,0,S⟩).toArray rfl rfl 91 #[.bool false,.string ⟨#[]⟩,.int .i64 0,.string ⟨#[]⟩] hP7 (by kernel_rfl) rfl (by simp [Value.oneCell',prtc]) ?_);exact ret_blk rfl rfl (hP7.setRow (prtc ⟨true,t,0,S⟩).toArray) _ Tryz.underlying91 rfl (by kernel_rfl) rfl ⟨by rw [HRR.out]; rfl,.ok HRR.out (hg7.farRow hpg.symm _),hx7.setRow hpw _⟩
      ·have b125 : ((c.toNat:Int) == 125) = false:=u8_ne (d:=125) h125;have b125' : ((c.toNat:Int) != 125) = true:=by rw [bne,b125]; rfl
       by_cases hbad : c = 123∨c = 34∨c = 39
       ·have HRR:=hid (show R = .error k from by rw [HRE.out,hsp,if_neg h125,if_pos hbad]; rfl);clear hsp;rcases hbad with rfl | rfl | rfl
        ·go_wp2_with fail;refine (lfail_any _ _ _).mono ?_;rintro e w9 ⟨rfl,hb9⟩;have hx9:=(hxr).below hb9;go_wp2_with fail;exact ⟨rfl,by rw [HRR.out]; rfl,.err HRR.out,hx9⟩
        ·go_wp2_with fail;refine (lfail_any _ _ _).mono ?_;rintro e w9 ⟨rfl,hb9⟩;have hx9:=(hxr).below hb9;go_wp2_with fail;exact ⟨rfl,by rw [HRR.out]; rfl,.err HRR.out,hx9⟩
        ·go_wp2_with fail;refine (lfail_any _ _ _).mono ?_;rintro e w9 ⟨rfl,hb9⟩;have hx9:=(hxr).below hb9;go_wp2_with fail;exact ⟨rfl,by rw [HRR.out]; rfl,.err HRR.out,hx9⟩
       ·have HE1:=hid (show specS l x frm (l.length + 1 - (k + 1)) (k + 1) = E from by rw [hsp,if_neg h125,if_neg hbad]);simp only [not_or] at hbad;have b123 : ((c.toNat:Int) == 123) = false:=u8_ne (d:=123) hbad.1;have b34 : ((c.toNat:Int) == 34) = false:=u8_ne (d:=34) hbad.2.1;have b39 : ((c.toNat:Int) == 39) = false:=u8_ne (d:=39) hbad.2.2;clear hsp hbad HEK HPK;have hg7 : Blk (wr.setCell ⟨g,1,none⟩ (.int .i64 ((k:Int) + 1))) g 70 (rdC l (k + 1) x):=hgr.set_ 1 (.int .i64 ((k:Int) + 1));have hQ7:=hQr.far (p:=⟨g,1,none⟩) hqg (.int .i64 ((k:Int) + 1));have hP7:=hPr.far (p:=⟨g,1,none⟩) hpg (.int .i64 ((k:Int) + 1));have hx7:=hxr.set (p:=⟨g,1,none⟩) rfl (.int .i64 ((k:Int) + 1));have HPL:=hid (plain_any hg7 frm hl hx);obtain ⟨P,hP⟩ : ∃ P,plainS l x frm (k + 1) = P:=⟨_,rfl⟩;rw [hP] at HPL;have HPP:=hid hP;clear hP;go_wp2_with fail;refine HPL.out.mono ?_;rintro e w8 ⟨hthr,hb8⟩;have hg8:=hg7.belowS hb8;have hQ8:=hQ7.belowS hb8;have hP8:=hP7.belowS hb8;have hx8:=hx7.below hb8;have hp0:=posOf_of (i:=k) hgr;have hp8:=posOf_of (i:=k + 1) hg8;clear HPL hb8 hg7 hQ7 hP7 hx7;rcases P with jj | c'
        ·simp only [Thr] at hthr;subst hthr;have HRR:=hid (show R = .error jj from by
          have h1:=specS_at (x:=x) (frm:=frm) (k:=k + 1) (show k + 1 ≤ l.length by omega);rw [HE1.out,HPP.out] at h1;rw [HRE.out,h1]; rfl)
         go_wp2_with fail;exact ⟨rfl,by rw [HRR.out]; rfl,.err HRR.out,hx8⟩
        ·simp only [Thr] at hthr;subst hthr;go_wp2_with fail;go_roundw
         case rel => exact ⟨k + 1,c',rfl,by omega,(plainS_ok HPP.out).1,HPP,HE1,hg8,hQ8,hP8,hx8⟩
         case measure => rw [hp0,hp8]; omega
   ·have HRR:=hid (show R = .ok (⟨true,t,0,[]⟩,i + 1) from by rw [HRT.out]; unfold tailS; rw [if_neg (by rw [h58]; decide)]);have hix:=run_idx l (i) (by omega) ((i:Nat):Int) rfl;rw [h58] at hix;obtain ⟨u1,u2,u3⟩:=hgt.rules;unfold rdC at u1;go_quiet (fail);generalize hW : World.drewN (w3) _ = w6;have hbw : Below (w3).heap.size (w3) w6:=(by rw [← hW]; exact below_drewN (Below.refl _ _) _);have hg6:=hgt.belowS hbw;have hQ6:=hQt.belowS hbw;have hP6:=hPt.belowS hbw;have hx6:=hxt.below hbw;clear hW hbw u1 u2 u3 hgt hQt hPt hxt hix
    -- the place is moved behind the brace, and the part is handed back
    have hg7:=hg6.set_ 1 (.int .i64 ((i:Int) + 1));have hQ7:=hQ6.far (p:=⟨g,1,none⟩) hqg (.int .i64 ((i:Int) + 1));have hP7:=hP6.far (p:=⟨g,1,none⟩) hpg (.int .i64 ((i:Int) + 1));have hx7:=hx6.set (p:=⟨g,1,none⟩) rfl (.int .i64 ((i:Int) + 1));obtain ⟨r1,r2,r3⟩:=hg6.rules;unfold rdC at r1;go_wp2_with (first | refine wpList_load_row rfl 91 (.tmp 5) rfl q rfl 91 (prtc ⟨true,t,0,[]⟩).toArray (0,0) _ hQ7 Tryz.underlying91 rfl (by kernel_rfl) ?_ | refine wpList_store_row rfl 91 (.tmp 4) (.tmp 141) rfl p (prtc ⟨true,t,0,[]⟩).toArray rfl rfl 91 #[.bool false,.string ⟨#[]⟩,.int .i64 0,.string ⟨#[]⟩] hP7 (by kernel_rfl) rfl (by simp [Value.oneCell',prtc]) ?_);exact ret_blk rfl rfl (hP7.setRow (prtc ⟨true,t,0,[]⟩).toArray) _ Tryz.underlying91 rfl (by kernel_rfl) rfl ⟨by rw [HRR.out]; rfl,.ok HRR.out (hg7.farRow hpg.symm _),hx7.setRow hpw _⟩
end Go.Proofs.YtonehlkiackhcaaGreatDoor
