/- The scanner's function number: the token or the fault. Nothing is claimed here. -/
import Derived.Test.YtonehlkiackhcaaGreatDoorScanF
set_option linter.unusedVariables false
set_option linter.unusedSimpArgs false
set_option maxRecDepth 100000
set_option maxHeartbeats 16000000
namespace Go.Proofs.YtonehlkiackhcaaGreatDoor
open Go.RowKit Go.Shelf Go.Lib Go.Maps
theorem at0_pos {l : List UInt8} {k : Nat} (h : at0 l k ≠ 0) : k < l.length:=by
 rcases Nat.lt_or_ge k l.length with h1 | h1
 ·exact h1
 ·exact absurd (at0_ge l k h1) h
theorem span_none (p : UInt8 → Bool) (l : List UInt8) (k:Nat) (hp : p (at0 l k) = false) : span p (l.drop k) = 0:=by
 rcases Nat.lt_or_ge k l.length with h1 | h1
 ·rw [span_at p l k h1,hp]; rfl
 ·exact span_end p l k h1
theorem span_some (p : UInt8 → Bool) (h0 : p 0 = false) (l : List UInt8) (k:Nat) (hp : p (at0 l k) = true) : span p (l.drop k) ≠ 0:=by
 have : k < l.length:=at0_pos (by intro e; rw [e,h0] at hp; exact absurd hp (by decide));rw [span_at p l k this,if_pos hp];omega
def NumC (l : List UInt8) (at_ n:Nat) : Prop :=
 lexNum (l.drop at_) = numTail (l.drop at_) n∧at_ + n ≤ l.length∧lineAt l (at_ + n) = lineAt l at_∧bol l (at_ + n) = bol l at_
def isRad (l : List UInt8) (at_:Nat) : Bool:=at0 l at_ == 48 && (at0 l (at_ + 1) == 120 || at0 l (at_ + 1) == 98)
def radixAt (l : List UInt8) (at_:Nat) : UInt8 → Bool:=if at0 l (at_ + 1) = 120 then isHex else isBin
theorem radixAt_0 (l : List UInt8) (at_:Nat) : radixAt l at_ 0 = false∧radixAt l at_ 10 = false:=by unfold radixAt; split <;> decide
theorem two_line {l : List UInt8} {at_ : Nat} (hr : isRad l at_ = true) : at_ + 2 ≤ l.length∧lineAt l (at_ + 2) = lineAt l at_∧bol l (at_ + 2) = bol l at_:=by
 unfold isRad at hr;simp only [Bool.and_eq_true,Bool.or_eq_true,beq_iff_eq] at hr;have k1 : at0 l (at_ + 1) ≠ 0:=by rcases hr.2 with e | e <;> rw [e] <;> decide
 have k2 : at0 l (at_ + 1) ≠ 10:=by rcases hr.2 with e | e <;> rw [e] <;> decide
 have:=at0_pos k1;have l1:=line_same l at_ (by omega) (by rw [hr.1]; decide);have b1:=bol_same l at_ (by omega) (by rw [hr.1]; decide);have l2:=line_same l (at_ + 1) this k2;have b2:=bol_same l (at_ + 1) this k2;exact ⟨this,by rw [← l1,← l2],by rw [← b1,← b2]⟩
theorem num_rad {l : List UInt8} {at_ : Nat} (hr : isRad l at_ = true) (ha : at_ ≤ l.length) :
  (radixAt l at_ (at0 l (at_ + 2)) = false → lexNum (l.drop at_) = .error (1,2)) ∧
  (radixAt l at_ (at0 l (at_ + 2)) = true → NumC l at_ (2 + span (radixAt l at_) (l.drop (at_ + 2)))):=by
 obtain ⟨t1,t2,t3⟩:=two_line hr;have hr':=hr;unfold isRad at hr';simp only [Bool.and_eq_true,Bool.or_eq_true,beq_iff_eq] at hr';have hx : lexNum (l.drop at_) = if span (radixAt l at_) (l.drop (at_ + 2)) = 0 then .error (1,2) else numTail (l.drop at_) (2 + span (radixAt l at_) (l.drop (at_ + 2))):=by
  unfold lexNum;rw [at0_drop,at0_drop,Nat.add_zero,if_pos hr',List.drop_drop,show radix (l.drop at_) = radixAt l at_ from by unfold radix radixAt; rw [at0_drop]]
 refine ⟨fun h => ?_,fun h => ?_⟩
 ·rw [hx,if_pos (span_none _ _ _ h)]
 ·have h2:=span_line (radixAt l at_) (radixAt_0 l at_).2 l (at_ + 2) _ t1 (Nat.le_refl _);have h3:=span_drop_le (radixAt l at_) l (at_ + 2) t1;unfold NumC;rw [hx,if_neg (span_some _ (radixAt_0 l at_).1 _ _ h),← Nat.add_assoc];exact ⟨rfl,h3,by rw [h2.1,t2],by rw [h2.2,t3]⟩
def intAt (l : List UInt8) (at_:Nat) : Nat:=if at0 l at_ = 48 then at_ + 1 else at_ + 1 + span isDig (l.drop (at_ + 1))
theorem int_line {l : List UInt8} {at_ : Nat} (hd : isDig (at0 l at_) = true) : at_ + 1 ≤ intAt l at_∧intAt l at_ ≤ l.length∧lineAt l (intAt l at_) = lineAt l at_∧bol l (intAt l at_) = bol l at_:=by
 have h1 : at_ < l.length:=at0_pos (by intro e; rw [e] at hd; exact absurd hd (by decide));have h2 : at0 l at_ ≠ 10:=by intro e; rw [e] at hd; exact absurd hd (by decide)
 have l1:=line_same l at_ h1 h2;have b1:=bol_same l at_ h1 h2;unfold intAt;split
 ·exact ⟨by omega,h1,l1,b1⟩
 ·have h4:=span_line isDig (by decide) l (at_ + 1) _ h1 (Nat.le_refl _);have h5:=span_drop_le isDig l (at_ + 1) h1;exact ⟨by omega,h5,by rw [h4.1,l1],by rw [h4.2,b1]⟩
theorem num_dec {l : List UInt8} {at_ : Nat} (hr : isRad l at_ = false) (hd : isDig (at0 l at_) = true) :
  (at0 l (intAt l at_) = 46 → isDig (at0 l (intAt l at_ + 1)) = true → NumC l at_ (intAt l at_ + 1 + span isDig (l.drop (intAt l at_ + 1)) - at_)) ∧
  (¬ (at0 l (intAt l at_) = 46∧isDig (at0 l (intAt l at_ + 1)) = true) → NumC l at_ (intAt l at_ - at_)):=by
 obtain ⟨t0,t1,t2,t3⟩:=int_line hd;have hr' : ¬ (at0 l at_ = 48∧(at0 l (at_ + 1) = 120∨at0 l (at_ + 1) = 98)):=by
  intro h;have : isRad l at_ = true:=(by unfold isRad; simpa using h);rw [hr] at this;exact absurd this (by decide)
 have hi : intLen (l.drop at_) = intAt l at_ - at_:=by
  unfold intLen intAt;rw [at0_drop,Nat.add_zero,List.drop_drop];split <;> omega
 have e1 : at_ + (intAt l at_ - at_) = intAt l at_:=by omega
 have hx : lexNum (l.drop at_) = numTail (l.drop at_) (if at0 l (intAt l at_) = 46∧isDig (at0 l (intAt l at_ + 1)) = true then intAt l at_ - at_ + 1 + span isDig (l.drop (intAt l at_ + 1)) else intAt l at_ - at_):=by
  unfold lexNum;rw [at0_drop,at0_drop,Nat.add_zero,if_neg hr'];unfold numLen;rw [at0_drop,at0_drop,List.drop_drop,hi,e1,show at_ + (intAt l at_ - at_ + 1) = intAt l at_ + 1 by omega]
 refine ⟨fun h1 h2 => ?_,fun h => ?_⟩
 ·have g1 : intAt l at_ < l.length:=at0_pos (by rw [h1]; decide);have l1:=line_same l _ g1 (by rw [h1]; decide);have b1:=bol_same l _ g1 (by rw [h1]; decide);have h4:=span_line isDig (by decide) l (intAt l at_ + 1) _ g1 (Nat.le_refl _);have h5:=span_drop_le isDig l (intAt l at_ + 1) g1;unfold NumC;rw [hx,if_pos ⟨h1,h2⟩,show at_ + (intAt l at_ + 1 + span isDig (l.drop (intAt l at_ + 1)) - at_) = intAt l at_ + 1 + span isDig (l.drop (intAt l at_ + 1)) by omega];exact ⟨by congr 1; omega,h5,by rw [h4.1,l1,t2],by rw [h4.2,b1,t3]⟩
 ·unfold NumC;rw [hx,if_neg h,e1];exact ⟨rfl,t1,t2,t3⟩
def NumCut (a : World) (B g:Nat) (l : List UInt8) (at_:Nat) (ind : List Nat) (op : List UInt8) (ts : List Tok) (vi vo vt : Value) (m:Nat) (vs : Value) (w' : World) : Prop :=
 ∃ n,NumC l at_ n∧Sc w' B g l (at_ + n) ind op ts vi vo vt m vs∧Below B a w'
theorem number_any {a w : World} {B g : Nat} {l : List UInt8} {at_ : Nat} {ind : List Nat} {op : List UInt8} {ts : List Tok} {vi vo vt : Value} {m : Nat} {vs : Value} (h : Sc w B g l at_ ind op ts vi vo vt m vs) (hl : l.length ≤ 16000) (ha : at_ ≤ l.length) (hb : Below B a w) (hts : ts.length ≤ 1000000) (hd : isDig (at0 l at_) = true) :
  Calls Tryz.prog 156 #[.pointer (some ⟨g,0,none⟩)] w (LexPost a B g l at_ ind op ts vi vo m vs (lexNum (l.drop at_))):=by
 have HD:=hid hd;have HH:=hid h;have h0:=h;unfold Sc scCells at h0;obtain ⟨q1,q2,q3⟩:=h0.blk.rules;clear h h0 hd;go_enter Tryz.func156,Tryz.ntmps156
 go_upto_region 2 with fail
 go_cut [22] (fun s22 wx => s22 = .bool (isRad l at_)∧Sc wx B g l at_ ind op ts vi vo vt m vs∧Below B a wx)
 case first =>
  clear q1 q2 q3;go_wp2_with fail;refine (peek0S HH.out hl ha hb).mono ?_;rintro e w1 ⟨rfl,hs1,hb1⟩;have HS1:=hid hs1;clear hs1
  by_cases h0 : at0 l at_ = 48
  ·have hc0:=eqb_t 48 48 rfl h0;have H0:=hid h0;clear h0;go_wp2_with fail;refine (peek1S HS1.out hl ha hb1).mono ?_;rintro e w2 ⟨rfl,hs2,hb2⟩;have HS2:=hid hs2;clear hs2
   by_cases h1 : at0 l (at_ + 1) = 120
   ·have hc1:=eqb_t 120 120 rfl h1;have HR:=hid (show isRad l at_ = true by unfold isRad; rw [H0.out,h1]; rfl);clear h1;go_wp2_with fail;go_meet;exact ⟨by rw [HR.out],HS2.out,hb2⟩
   ·have hc1:=eqb_f 120 120 rfl h1;have H1:=hid h1;clear h1;go_wp2_with fail;refine (peek1S HS2.out hl ha hb2).mono ?_;rintro e w3 ⟨rfl,hs3,hb3⟩;have HS3:=hid hs3;clear hs3
    by_cases h2 : at0 l (at_ + 1) = 98
    ·have hc2:=eqb_t 98 98 rfl h2;have HR:=hid (show isRad l at_ = true by unfold isRad; rw [H0.out,h2]; rfl);clear h2;go_wp2_with fail;go_meet;exact ⟨by rw [HR.out],HS3.out,hb3⟩
    ·have hc2:=eqb_f 98 98 rfl h2;have HR:=hid (show isRad l at_ = false by unfold isRad; rw [H0.out]; simp only [beq_self_eq_true,Bool.true_and,Bool.or_eq_false_iff,beq_eq_false_iff_ne]; exact ⟨H1.out,h2⟩);clear h2;go_wp2_with fail;go_meet;exact ⟨by rw [HR.out],HS3.out,hb3⟩
  ·have hc0:=eqb_f 48 48 rfl h0;have HR:=hid (show isRad l at_ = false by unfold isRad; rw [beq_eq_false_iff_ne.2 h0,Bool.false_and]);clear h0;go_wp2_with fail;go_meet;exact ⟨by rw [HR.out],HS1.out,hb1⟩
 case rest =>
  obtain ⟨rfl,hsc,hbc⟩:=hcut;have HC:=hid hsc;clear q1 q2 q3 hsc HH hb
  go_upto_if 22 with fail
  go_cut [3] (fun _ wx => NumCut a B g l at_ ind op ts vi vo vt m vs wx)
  case first =>
   cases hrad : isRad l at_
   ·have hR:=num_dec hrad HD.out;have HR:=hid hR;obtain ⟨t0,t1,t2,t3⟩:=int_line HD.out;have HT2:=hid t2;have HT3:=hid t3;clear hR hrad t2 t3;have hlt0 : at_ < l.length:=(by omega);go_wp2_with fail;refine (peek0S HC.out hl ha hbc).mono ?_;rintro e w1 ⟨rfl,hs1,hb1⟩;have HS1:=hid hs1;have hs1':=hs1;unfold Sc scCells at hs1';have hge1:=hs1'.ge;obtain ⟨q1,q2,q3⟩:=hs1'.blk.rules;have hn10 : at0 l at_ ≠ 10:=(by have:=HD.out; intro e; rw [e] at this; exact absurd this (by decide));have hL:=line_same l at_ hlt0 hn10;have hB:=bol_same l at_ hlt0 hn10;have HS2 : Hid (Sc (w1.setCell ⟨g,1,none⟩ (.int .i64 ((at_:Int) + 1))) B g l (at_ + 1) ind op ts vi vo vt m vs):=hid (by
     unfold Sc scCells;rw [hL,hB];exact hs1'.set 1 (.int .i64 ((at_:Int) + 1)))
    have hb2:=hb1.setCell (p:=⟨g,1,none⟩) hge1 (.int .i64 ((at_:Int) + 1));clear hL hB hs1 hs1' hn10
    by_cases h0 : at0 l at_ = 48
    ·have hc0:=eqb_t 48 48 rfl h0;have hint : intAt l at_ = at_ + 1:=(by unfold intAt; rw [if_pos h0]);rw [← hint] at HS2;have HS3:=HS2;have hb3:=hb2;clear h0 hint;go_wp2_with fail;refine (peek0S HS3.out hl t1 hb3).mono ?_;rintro e w4 ⟨rfl,hs4,hb4⟩;have HS4:=hid hs4;clear hs4
     by_cases hp : at0 l (intAt l at_) = 46
     ·have hc2:=eqb_t 46 46 rfl hp;have HP:=hid hp;clear hp;go_wp2_with fail;refine (peek1S HS4.out hl t1 hb4).mono ?_;rintro e w5 ⟨rfl,hs5,hb5⟩;have HS5:=hid hs5;clear hs5;go_wp2_with fail;refine (digit_any _ _).mono ?_;rintro e w6 ⟨rfl,rfl⟩
      by_cases hq : isDig (at0 l (intAt l at_ + 1)) = true
      ·have HN:=hid (HR.out.1 HP.out hq);have hs5':=HS5.out;unfold Sc scCells at hs5';have hge5:=hs5'.ge;obtain ⟨q1,q2,q3⟩:=hs5'.blk.rules;have hlt:=at0_pos (l:=l) (k:=intAt l at_) (by rw [HP.out]; decide);have hL:=line_same l (intAt l at_) hlt (by rw [HP.out]; decide);have hB:=bol_same l (intAt l at_) hlt (by rw [HP.out]; decide);have HS6 : Hid (Sc (w5.setCell ⟨g,1,none⟩ (.int .i64 ((intAt l at_:Int) + 1))) B g l (intAt l at_ + 1) ind op ts vi vo vt m vs):=hid (by
        unfold Sc scCells;rw [hL,hB];exact hs5'.set 1 (.int .i64 ((intAt l at_:Int) + 1)))
       have hb6:=hb5.setCell (p:=⟨g,1,none⟩) hge5 (.int .i64 ((intAt l at_:Int) + 1));rw [hq];clear hq hL hB hs5';go_wp2_with fail;refine (while_dig HS6.out hl hlt hb6).mono ?_;rintro e w7 ⟨rfl,hs7,hb7⟩;go_wp2_with fail;go_meet;refine ⟨_,HN.out,?_,hb7⟩;rw [show at_ + (intAt l at_ + 1 + span isDig (l.drop (intAt l at_ + 1)) - at_) = intAt l at_ + 1 + span isDig (l.drop (intAt l at_ + 1)) by omega];exact hs7
      ·have HN:=hid (HR.out.2 (fun h => hq h.2));have hq' : isDig (at0 l (intAt l at_ + 1)) = false:=(by simpa using hq);rw [hq'];clear hq hq';go_wp2_with fail;go_meet;refine ⟨_,HN.out,?_,hb5⟩;rw [show at_ + (intAt l at_ - at_) = intAt l at_ by omega];exact HS5.out
     ·have hc2:=eqb_f 46 46 rfl hp;have HN:=hid (HR.out.2 (fun h => hp h.1));clear hp;go_wp2_with fail;go_meet;refine ⟨_,HN.out,?_,hb4⟩;rw [show at_ + (intAt l at_ - at_) = intAt l at_ by omega];exact HS4.out
    ·have hc0:=eqb_f 48 48 rfl h0;have hint : intAt l at_ = at_ + 1 + span isDig (l.drop (at_ + 1)):=(by unfold intAt; rw [if_neg h0]);have HI:=hid hint;clear h0 hint;go_wp2_with fail;refine (while_dig HS2.out hl hlt0 hb2).mono ?_;rintro e w3 ⟨rfl,hs3,hb3⟩;rw [← HI.out] at hs3;have HS3:=hid hs3;clear hs3;go_wp2_with fail;refine (peek0S HS3.out hl t1 hb3).mono ?_;rintro e w4 ⟨rfl,hs4,hb4⟩;have HS4:=hid hs4;clear hs4
     by_cases hp : at0 l (intAt l at_) = 46
     ·have hc2:=eqb_t 46 46 rfl hp;have HP:=hid hp;clear hp;go_wp2_with fail;refine (peek1S HS4.out hl t1 hb4).mono ?_;rintro e w5 ⟨rfl,hs5,hb5⟩;have HS5:=hid hs5;clear hs5;go_wp2_with fail;refine (digit_any _ _).mono ?_;rintro e w6 ⟨rfl,rfl⟩
      by_cases hq : isDig (at0 l (intAt l at_ + 1)) = true
      ·have HN:=hid (HR.out.1 HP.out hq);have hs5':=HS5.out;unfold Sc scCells at hs5';have hge5:=hs5'.ge;obtain ⟨q1,q2,q3⟩:=hs5'.blk.rules;have hlt:=at0_pos (l:=l) (k:=intAt l at_) (by rw [HP.out]; decide);have hL:=line_same l (intAt l at_) hlt (by rw [HP.out]; decide);have hB:=bol_same l (intAt l at_) hlt (by rw [HP.out]; decide);have HS6 : Hid (Sc (w5.setCell ⟨g,1,none⟩ (.int .i64 ((intAt l at_:Int) + 1))) B g l (intAt l at_ + 1) ind op ts vi vo vt m vs):=hid (by
        unfold Sc scCells;rw [hL,hB];exact hs5'.set 1 (.int .i64 ((intAt l at_:Int) + 1)))
       have hb6:=hb5.setCell (p:=⟨g,1,none⟩) hge5 (.int .i64 ((intAt l at_:Int) + 1));rw [hq];clear hq hL hB hs5';go_wp2_with fail;refine (while_dig HS6.out hl hlt hb6).mono ?_;rintro e w7 ⟨rfl,hs7,hb7⟩;go_wp2_with fail;go_meet;refine ⟨_,HN.out,?_,hb7⟩;rw [show at_ + (intAt l at_ + 1 + span isDig (l.drop (intAt l at_ + 1)) - at_) = intAt l at_ + 1 + span isDig (l.drop (intAt l at_ + 1)) by omega];exact hs7
      ·have HN:=hid (HR.out.2 (fun h => hq h.2));have hq' : isDig (at0 l (intAt l at_ + 1)) = false:=(by simpa using hq);rw [hq'];clear hq hq';go_wp2_with fail;go_meet;refine ⟨_,HN.out,?_,hb5⟩;rw [show at_ + (intAt l at_ - at_) = intAt l at_ by omega];exact HS5.out
     ·have hc2:=eqb_f 46 46 rfl hp;have HN:=hid (HR.out.2 (fun h => hp h.1));clear hp;go_wp2_with fail;go_meet;refine ⟨_,HN.out,?_,hb4⟩;rw [show at_ + (intAt l at_ - at_) = intAt l at_ by omega];exact HS4.out
   ·have hr:=num_rad hrad ha;obtain ⟨ht2,t2,t3⟩:=two_line hrad;have HRAD:=hid hrad;have hs1':=HC.out;unfold Sc scCells at hs1';have hge1:=hs1'.ge;obtain ⟨q1,q2,q3⟩:=hs1'.blk.rules;have HS2 : ∀ w1,Sc w1 B g l at_ ind op ts vi vo vt m vs → Hid (Sc (w1.setCell ⟨g,1,none⟩ (.int .i64 ((at_:Int) + 2))) B g l (at_ + 2) ind op ts vi vo vt m vs):=fun w1 h => hid (by
     unfold Sc scCells at h ⊢;rw [t2,t3];exact h.set 1 (.int .i64 ((at_:Int) + 2)))
    clear hs1' hrad t2 t3
    by_cases h1 : at0 l (at_ + 1) = 120
    ·have hc1:=eqb_t 120 120 rfl h1;have HP:=hid (show radixAt l at_ = isHex by unfold radixAt; rw [if_pos h1]);clear h1;go_wp2_with fail;refine (peek1S HC.out hl ha hbc).mono ?_;rintro e w1 ⟨rfl,hs1,hb1⟩;have HS3:=HS2 w1 hs1;have hb3:=hb1.setCell (p:=⟨g,1,none⟩) hge1 (.int .i64 ((at_:Int) + 2));unfold Sc scCells at hs1;obtain ⟨q1,q2,q3⟩:=hs1.blk.rules;clear HS2 hs1;rw [show radixAt l at_ = isHex from HP.out] at hr
     by_cases hq : isHex (at0 l (at_ + 2)) = true
     ·have HN:=hid (hr.2 hq);have HQ:=hid hq;clear hr hq;go_wp2_with fail;refine (peek0S HS3.out hl ht2 hb3).mono ?_;rintro e w4 ⟨rfl,hs4,hb4⟩;have HS4:=hid hs4;clear hs4;go_wp2_with fail;refine (number2_any _ _).mono ?_;rintro e w5 ⟨rfl,rfl⟩;rw [HQ.out];go_wp2_with fail;refine (while_hex HS4.out hl ht2 hb4).mono ?_;rintro e w6 ⟨rfl,hs6,hb6⟩;go_wp2_with fail;go_meet;refine ⟨_,HN.out,?_,hb6⟩;rw [← Nat.add_assoc];exact hs6
     ·have hq' : isHex (at0 l (at_ + 2)) = false:=(by simpa using hq);have HN:=hid (hr.1 hq');have HQ:=hid hq';clear hr hq hq';go_wp2_with fail;refine (peek0S HS3.out hl ht2 hb3).mono ?_;rintro e w4 ⟨rfl,hs4,hb4⟩;have HS4:=hid hs4;have hs4':=hs4;unfold Sc scCells at hs4';obtain ⟨q1,q2,q3⟩:=hs4'.blk.rules;clear hs4 hs4';go_wp2_with fail;refine (number2_any _ _).mono ?_;rintro e w5 ⟨rfl,rfl⟩;rw [HQ.out];go_wp2_with fail;refine (fail_any _ _ _ _).mono ?_;rintro e w8 ⟨rfl,rfl⟩;go_wp2_with fail;exact ⟨rfl,LexPost.err HN.out _ (by omega) rfl hb4⟩
    ·have hc1:=eqb_f 120 120 rfl h1;have HP:=hid (show radixAt l at_ = isBin by unfold radixAt; rw [if_neg h1]);clear h1;go_wp2_with fail;refine (peek1S HC.out hl ha hbc).mono ?_;rintro e w1 ⟨rfl,hs1,hb1⟩;have HS3:=HS2 w1 hs1;have hb3:=hb1.setCell (p:=⟨g,1,none⟩) hge1 (.int .i64 ((at_:Int) + 2));unfold Sc scCells at hs1;obtain ⟨q1,q2,q3⟩:=hs1.blk.rules;clear HS2 hs1;rw [show radixAt l at_ = isBin from HP.out] at hr
     by_cases hq : isBin (at0 l (at_ + 2)) = true
     ·have HN:=hid (hr.2 hq);have HQ:=hid hq;clear hr hq;go_wp2_with fail;refine (peek0S HS3.out hl ht2 hb3).mono ?_;rintro e w4 ⟨rfl,hs4,hb4⟩;have HS4:=hid hs4;clear hs4;go_wp2_with fail;refine (number1_any _ _).mono ?_;rintro e w5 ⟨rfl,rfl⟩;rw [HQ.out];go_wp2_with fail;refine (while_bin HS4.out hl ht2 hb4).mono ?_;rintro e w6 ⟨rfl,hs6,hb6⟩;go_wp2_with fail;go_meet;refine ⟨_,HN.out,?_,hb6⟩;rw [← Nat.add_assoc];exact hs6
     ·have hq' : isBin (at0 l (at_ + 2)) = false:=(by simpa using hq);have HN:=hid (hr.1 hq');have HQ:=hid hq';clear hr hq hq';go_wp2_with fail;refine (peek0S HS3.out hl ht2 hb3).mono ?_;rintro e w4 ⟨rfl,hs4,hb4⟩;have HS4:=hid hs4;have hs4':=hs4;unfold Sc scCells at hs4';obtain ⟨q1,q2,q3⟩:=hs4'.blk.rules;clear hs4 hs4';go_wp2_with fail;refine (number1_any _ _).mono ?_;rintro e w5 ⟨rfl,rfl⟩;rw [HQ.out];go_wp2_with fail;refine (fail_any _ _ _ _).mono ?_;rintro e w8 ⟨rfl,rfl⟩;go_wp2_with fail;exact ⟨rfl,LexPost.err HN.out _ (by omega) rfl hb4⟩
  case rest =>
   obtain ⟨n,hN,hs1,hb1⟩:=hcut;obtain ⟨n1,n2,n3,n4⟩:=hN;unfold numTail at n1;rw [at0_drop] at n1;have HS1:=hid hs1;have N1:=hid n1;have N3:=hid n3;have N4:=hid n4;have hsub:=run_sub l at_ (at_ + n) (by omega) n2 (at_:Int) ((at_:Int) + (n:Int)) rfl (by omega);rw [show at_ + n - at_ = n by omega] at hsub;have HSUB:=hid hsub;clear hs1 n1 n3 n4 hsub HC hbc;go_wp2_with fail;refine (peek0S HS1.out hl n2 hb1).mono ?_;rintro e w2 ⟨rfl,hs2,hb2⟩;have HS2:=hid hs2;unfold Sc scCells at hs2;obtain ⟨q1,q2,q3⟩:=hs2.blk.rules;clear hs2;go_wp2_with fail;refine (letter_any _ _).mono ?_;rintro e w3 ⟨rfl,rfl⟩;cases hL : isLet (at0 l (at_ + n))
   ·have HL:=hid hL;clear hL;go_wp2_with fail;refine (digit_any _ _).mono ?_;rintro e w4 ⟨rfl,rfl⟩;cases hG : isDig (at0 l (at_ + n))
    ·have hw : isWrd (at0 l (at_ + n)) = false:=(by unfold isWrd; rw [HL.out,hG]; rfl);clear hG
     by_cases h6 : 600 < n
     ·have d6 : decide ((600:Int) < (n:Int)) = true:=decide_eq_true (by omega);have HR:=hid (show lexNum (l.drop at_) = .error (3,0) by rw [N1.out,hw,if_neg (by decide),if_pos h6]);go_wp2_with fail;refine (fail_any _ _ _ _).mono ?_;rintro e w8 ⟨rfl,rfl⟩;go_wp2_with fail;exact ⟨rfl,LexPost.err HR.out _ (by omega) rfl hb2⟩
     ·have d6 : decide ((600:Int) < (n:Int)) = false:=decide_eq_false (by omega);have HR:=hid (show lexNum (l.drop at_) = .ok (6,n) by rw [N1.out,hw,if_neg (by decide),if_neg h6]);clear hw;have hsub:=HSUB.out;go_wp2_with fail;go_still_tail 12,(by kernel_rfl);have HS3 : Hid (Sc w2.drew B g l (at_ + n) ind op ts vi vo vt m vs):=hid (ScR.drewN HS2.out 1);have hb3:=below_drewN hb2 1;change Below B a w2.drew at hb3;change wpList _ _ _ _ _ w2.drew;generalize w2.drew = wd at HS3 hb3 ⊢;clear q1 q2 q3 hsub;go_wp2_with fail;refine (add_any HS3.out hl hts hb3 _ _ _ (by omega) N3.out N4.out).mono ?_;rintro e w4 ⟨vt4,rfl,hs4,hb4⟩;have HS4:=hid hs4;clear hs4;go_wp2_with fail;go_end0;exact LexPost.ok HR.out rfl HS4.out hb4
    ·have HR:=hid (show lexNum (l.drop at_) = .error (1,n) by rw [N1.out,if_pos (by unfold isWrd; rw [hG,Bool.or_true])]);go_wp2_with fail;refine (fail_any _ _ _ _).mono ?_;rintro e w8 ⟨rfl,rfl⟩;go_wp2_with fail;exact ⟨rfl,LexPost.err HR.out _ (by omega) rfl hb2⟩
   ·have HR:=hid (show lexNum (l.drop at_) = .error (1,n) by rw [N1.out,if_pos (by unfold isWrd; rw [hL,Bool.true_or])]);go_wp2_with fail;refine (fail_any _ _ _ _).mono ?_;rintro e w8 ⟨rfl,rfl⟩;go_wp2_with fail;exact ⟨rfl,LexPost.err HR.out _ (by omega) rfl hb2⟩
end Go.Proofs.YtonehlkiackhcaaGreatDoor
