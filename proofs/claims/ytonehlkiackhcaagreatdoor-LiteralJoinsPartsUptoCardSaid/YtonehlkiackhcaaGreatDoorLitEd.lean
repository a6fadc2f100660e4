/- The literals: where a specification and an expression of a field end, as the reference finds it. Nothing is claimed here. -/
import Derived.Test.YtonehlkiackhcaaGreatDoorRefBr
set_option linter.unusedVariables false
set_option linter.unusedSimpArgs false
set_option maxRecDepth 100000
set_option maxHeartbeats 16000000
namespace Go.Proofs.YtonehlkiackhcaaGreatDoor
open Go.RowKit Go.Lib Go.Sort
def EndPost (w : World) (lim frm:Nat) (R : Except Nat Nat) (e : Ending) (w' : World) : Prop :=
 Below w.heap.size w w'∧match R with
 | .ok j => e = .returned (.tuple #[.int .i64 (j:Int),.bool true])∧j < lim
 | .error k => ∃ j : Nat,e = .returned (.tuple #[.int .i64 (j:Int),.bool false])∧(if lim ≤ j then frm else j) = k∧j ≤ 20000
theorem plainS_in {l : List UInt8} {x : Sht} {frm i : Nat} (h : i < x.lim) : plainS l x frm i = if at0 l i = 92∨at0 l i = 10∨at0 l i = x.quo then .error i else .ok (at0 l i):=by
 unfold plainS;rw [if_neg (by omega)]
theorem plainS_out {l : List UInt8} {x : Sht} {frm i : Nat} (h : x.lim ≤ i) : plainS l x frm i = .error frm:=by
 unfold plainS;rw [if_pos h]
theorem ctn_at (s : List UInt8) (c : UInt8) (b : Bool) (h : decide (0 ≤ Lib.indexByte s c) = b) (W : World) : Calls Tryz.prog 130 #[.string ⟨s.toArray⟩,.string ⟨#[c]⟩] W fun e w' => e = .returned (.bool b)∧W = w' :=
 (Tryz.strings_Contains_one ⟨s.toArray⟩ c W).mono fun _ _ h' => ⟨by rw [h'.1,← h],h'.2.symm⟩
theorem run_one (l : List UInt8) (k:Nat) (h : k < l.length) (x y:Int) (hx : x = (k:Int)) (hy : y = (k:Int) + 1) (W : World) :
  (Instr.slice 9 (.string ⟨l.toArray⟩) (some (.int .i64 x)) (some (.int .i64 y)) none).run Tryz.prog W = .ok (.string ⟨#[at0 l k]⟩) W:=by
 have:=run_sub l k (k + 1) (by omega) (by omega) x y hx (by rw [hy]; omega) W;rw [this,show k + 1 - k = 1 by omega,drop_at l k h];rfl
theorem spec_bad (c : UInt8) (h : c = 92∨c = 10∨c = 123∨c = 39∨c = 34) : decide (0 ≤ Lib.indexByte [92,10,123,39,34] c) = true:=by
 rcases h with rfl | rfl | rfl | rfl | rfl <;> decide
theorem ib_not (s : List UInt8) (c : UInt8) (h : c ∉ s) : Lib.indexByte s c = -1:=by
 induction s with
 | nil => rfl
 | cons b s ih =>
  unfold Lib.indexByte;rw [if_neg (by rw [beq_iff_eq]; rintro rfl; exact h (by simp)),ih (fun e => h (by simp [e]))];rfl
theorem spec_good (c : UInt8) (h : ¬ (c = 92∨c = 10∨c = 123∨c = 39∨c = 34)) : decide (0 ≤ Lib.indexByte [92,10,123,39,34] c) = false:=by
 rw [ib_not _ _ (by simpa using h)];decide
theorem plainEnd_any (l : List UInt8) (x : Sht) (frm i:Nat) (w : World) (hq : x.quo = 34∨x.quo = 39) (hi : i ≤ x.lim) (hx : x.lim < l.length) (hl : l.length ≤ 16000) :
  Calls Tryz.prog 98 #[.string ⟨l.toArray⟩,.int .i64 (i:Int),.agg (shtC x)] w (EndPost w x.lim frm (specS l x frm (l.length + 1 - i) i)):=by
 obtain ⟨R,hR⟩ : ∃ R,specS l x frm (l.length + 1 - i) i = R:=⟨_,rfl⟩;rw [hR];have HR:=hid hR;have HAT:=hid (fun k (hk : k ≤ l.length) => specS_at (l:=l) (x:=x) (frm:=frm) hk);have HPI:=hid (fun k (hk : k < x.lim) => plainS_in (l:=l) (frm:=frm) hk);have HPO:=hid (fun k (hk : x.lim ≤ k) => plainS_out (l:=l) (frm:=frm) hk);have HQ:=hid hq;clear hR hq;have hba0 : Below w.heap.size w (w.alloc (.cells (shtC x) 85)):=(Below.refl _ w).alloc (Nat.le_refl _) _;unfold shtC at hba0 ⊢;go_enter Tryz.func98,Tryz.ntmps98;go_wp2_with fail
 go_loop [1] (fun v => ∃ k : Nat,k ≤ x.lim∧v = .int .i64 (k:Int)∧Hid (specS l x frm (l.length + 1 - k) k = R)) (fun v => x.lim - (RowKit.intOf v).toNat)
 case atStart => exact ⟨i,hi,rfl,HR⟩
 case round =>
  obtain ⟨k,hk,rfl,HK⟩:=hrel
  by_cases hlt : k < x.lim
  ·have hix:=run_idx l k (by omega) (k:Int) rfl;have hone:=run_one l k (by omega) (k:Int) ((k:Int) + 1) rfl rfl;have hat:=HAT.out k (by omega);rw [HK.out,HPI.out k hlt] at hat;have HC:=hid (fun b h W => ctn_at [92,10,123,39,34] (at0 l k) b h W);obtain ⟨c,hc⟩ : ∃ c,at0 l k = c:=⟨_,rfl⟩;rw [hc] at hat hix hone HC;clear hc;have hqb : c = x.quo → c = 34∨c = 39:=fun e => by rw [e]; exact HQ.out
   by_cases h125 : c = 125
   ·have hqn : c ≠ x.quo:=fun e => by rw [h125] at hqb e; exact absurd (hqb e) (by decide)
    have HRR : Hid (R = .ok k):=hid (by rw [hat,if_neg (by rw [h125] at hqn ⊢; rintro (h | h | h); exact absurd h (by decide); exact absurd h (by decide); exact hqn h)]; simp only; rw [if_pos h125]);have b1 : ((c.toNat:Int) != 125) = false:=(by rw [h125]; rfl);have hd : decide ((k:Int) < (x.lim:Int)) = true:=decide_eq_true (by omega);have hd2 : decide (k < x.lim) = true:=decide_eq_true (by omega);clear hat HC hqb hqn h125;go_wp2_with fail;go_quiet (fail);go_wp2_with fail;go_ret2;refine ⟨?_,?_⟩
    ·exact below_drewN hba0 _
    ·rw [HRR.out];exact ⟨rfl,hlt⟩
   ·have b1' : ((c.toNat:Int) == 125) = false:=u8_ne (d:=125) h125;have b1 : ((c.toNat:Int) != 125) = true:=by rw [bne,b1']; rfl
    by_cases hbad : c = 92∨c = 10∨c = 123∨c = 39∨c = 34
    ·have HRR : Hid (R = .error k):=hid (by
      rw [hat]
      by_cases h1 : c = 92∨c = 10∨c = x.quo
      ·rw [if_pos h1]
      ·rw [if_neg h1];simp only;rw [if_neg h125,if_pos (by
        rcases hbad with h | h | h | h | h
        ·exact absurd (.inl h) h1
        ·exact absurd (.inr (.inl h)) h1
        ·exact .inl h
        ·exact .inr (.inr h)
        ·exact .inr (.inl h))])
     have HCC:=hid (HC.out true (spec_bad c hbad));clear hat HC hqb hbad h125;go_wp2_with fail;refine (HCC.out _).mono ?_;rintro e w1 ⟨rfl,rfl⟩;go_wp2_with fail;go_ret2;refine ⟨hba0,?_⟩;rw [HRR.out];exact ⟨k,rfl,by rw [if_neg (by omega)],by omega⟩
    ·have HK2 : Hid (specS l x frm (l.length + 1 - (k + 1)) (k + 1) = R):=hid (by
      rw [hat,if_neg (by
       rintro (h | h | h)
       ·exact hbad (.inl h)
       ·exact hbad (.inr (.inl h))
       ·rcases hqb h with h | h
        ·exact hbad (.inr (.inr (.inr (.inr h))))
        ·exact hbad (.inr (.inr (.inr (.inl h)))))]
      simp only;rw [if_neg h125,if_neg (by
       rintro (h | h | h)
       ·exact hbad (.inr (.inr (.inl h)))
       ·exact hbad (.inr (.inr (.inr (.inr h))))
       ·exact hbad (.inr (.inr (.inr (.inl h)))))])
     have HCC:=hid (HC.out false (spec_good c hbad));clear hat HC hqb hbad h125;go_wp2_with fail;refine (HCC.out _).mono ?_;rintro e w1 ⟨rfl,rfl⟩;go_wp2_with fail
     go_round
     case rel => exact ⟨k + 1,by omega,by go_num,HK2⟩
     case measure => simp [RowKit.intOf]; omega
  ·have hat:=HAT.out k (by omega);rw [HK.out,HPO.out k (by omega)] at hat;have HRR : Hid (R = .error frm):=hid hat;have hd : decide ((k:Int) < (x.lim:Int)) = false:=decide_eq_false (by omega);have hd2 : decide (k < x.lim) = false:=decide_eq_false (by omega);clear hat;go_wp2_with fail;go_quiet (fail);go_wp2_with fail;go_ret2;refine ⟨?_,?_⟩
   ·exact below_drewN hba0 _
   ·rw [HRR.out];exact ⟨k,rfl,by rw [if_pos (by omega)],by omega⟩
theorem run_quo_str (Q : UInt8) (hq : Q = 34∨Q = 39) (W : World) : (convert 21 9 (.int .i32 (Q.toNat:Int))).run Tryz.prog W = .ok (.string ⟨#[Q]⟩) W:=by
 rcases hq with rfl | rfl <;> kernel_rfl
theorem run_quo_add (Q : UInt8) (W : World) : (Op.stringOp .add ⟨#[92,10,35]⟩ ⟨#[Q]⟩).run Tryz.prog W = .ok (.string ⟨#[92,10,35,Q]⟩) W:=run_string_add_lists W [92,10,35] [Q] (by decide) (by simp)
theorem ib_mem (s : List UInt8) (c : UInt8) (h : c ∈ s) : 0 ≤ Lib.indexByte s c:=by
 induction s with
 | nil => cases h
 | cons b s ih =>
  unfold Lib.indexByte
  by_cases hb : b = c
  ·rw [if_pos (by simpa using hb)];exact Int.le_refl _
  ·rw [if_neg (by simpa using hb)];have:=ih (by rcases List.mem_cons.1 h with h | h; exact absurd h.symm hb; exact h);rw [if_neg (by rw [beq_iff_eq]; omega)];omega
theorem ctn_mem (s : List UInt8) (c : UInt8) (b : Bool) (h : (c ∈ s) ↔ b = true) (W : World) : Calls Tryz.prog 130 #[.string ⟨s.toArray⟩,.string ⟨#[c]⟩] W fun e w' => e = .returned (.bool b)∧W = w' :=
 ctn_at s c b (by
  by_cases hm : c ∈ s
  ·rw [h.1 hm]; exact decide_eq_true (ib_mem s c hm)
  ·rw [ib_not s c hm];have : b = false:=(by rw [← Bool.not_eq_true]; exact fun e => hm (h.2 e));rw [this];decide) W
theorem exprS_out {l : List UInt8} {x : Sht} {frm i : Nat} {op : List UInt8} {ins : UInt8} (hi : i ≤ l.length) (h : x.lim ≤ i) : exprS l x frm (l.length + 1 - i) i op ins = .error frm:=by
 rw [exprS_at hi,plainS_out h]
theorem exprS_bad {l : List UInt8} {x : Sht} {frm i : Nat} {op : List UInt8} {ins : UInt8} (hi : i ≤ l.length) (h : i < x.lim) (hb : at0 l i ∈ [92,10,35,x.quo]) : exprS l x frm (l.length + 1 - i) i op ins = .error i:=by
 rw [exprS_at hi,plainS_in h]
 by_cases h1 : at0 l i = 92∨at0 l i = 10∨at0 l i = x.quo
 ·rw [if_pos h1]
 ·rw [if_neg h1];simp only;rw [if_pos];simp only [List.mem_cons,List.not_mem_nil,or_false] at hb;rcases hb with h | h | h | h
  ·exact absurd (.inl h) h1
  ·exact absurd (.inr (.inl h)) h1
  ·exact h
  ·exact absurd (.inr (.inr h)) h1
theorem exprS_good {l : List UInt8} {x : Sht} {frm i : Nat} {op : List UInt8} {ins : UInt8} (hi : i ≤ l.length) (h : i < x.lim) (hb : at0 l i ∉ [92,10,35,x.quo]) : exprS l x frm (l.length + 1 - i) i op ins =
  if ins ≠ 0 then exprS l x frm (l.length + 1 - (i + 1)) (i + 1) op (if at0 l i = ins then 0 else ins)
  else if at0 l i = 34∨at0 l i = 39 then exprS l x frm (l.length + 1 - (i + 1)) (i + 1) op (at0 l i)
  else if op = []∧(at0 l i = 33∨at0 l i = 58∨at0 l i = 125) then .ok i
  else match bracket op [at0 l i] with
   | none => .error i
   | some op' => exprS l x frm (l.length + 1 - (i + 1)) (i + 1) op' 0:=by
 simp only [List.mem_cons,List.not_mem_nil,or_false] at hb;rw [exprS_at hi,plainS_in h,if_neg (by rintro (h | h | h); exact hb (.inl h); exact hb (.inr (.inl h)); exact hb (.inr (.inr (.inr h))))];simp only;rw [if_neg (fun h => hb (.inr (.inr (.inl h))))];rfl
def FeS (l : List UInt8) (x : Sht) (frm:Nat) (R : Except Nat Nat) (k:Nat) (op : List UInt8) (ins : UInt8) : Prop:=exprS l x frm (l.length + 1 - k) k op ins = R
theorem fieldEnd_any (l : List UInt8) (x : Sht) (frm i:Nat) (w : World) (hq : x.quo = 34∨x.quo = 39) (hi : i ≤ x.lim) (hx : x.lim < l.length) (hl : l.length ≤ 16000) :
  Calls Tryz.prog 96 #[.string ⟨l.toArray⟩,.int .i64 (i:Int),.agg (shtC x)] w (EndPost w x.lim frm (exprS l x frm (l.length + 1 - i) i [] 0)):=by
 obtain ⟨R,hR⟩ : ∃ R,exprS l x frm (l.length + 1 - i) i [] 0 = R:=⟨_,rfl⟩;rw [hR];have HR : Hid (FeS l x frm R i [] 0):=hid hR;have hB0:=Blk.new w 85 (shtC x);have hba0 : Below w.heap.size w (w.alloc (.cells (shtC x) 85)):=(Below.refl _ w).alloc (Nat.le_refl _) _;have HOUT:=hid (fun k op ins (h1 : k ≤ l.length) (h2 : x.lim ≤ k) => exprS_out (l:=l) (x:=x) (frm:=frm) (op:=op) (ins:=ins) h1 h2);have HBAD:=hid (fun k op ins (h1 : k ≤ l.length) (h2 : k < x.lim) hb => exprS_bad (l:=l) (x:=x) (frm:=frm) (op:=op) (ins:=ins) h1 h2 hb);have HGOOD:=hid (fun k op ins (h1 : k ≤ l.length) (h2 : k < x.lim) hb => exprS_good (l:=l) (x:=x) (frm:=frm) (op:=op) (ins:=ins) h1 h2 hb);have hqs:=fun W => run_quo_str x.quo hq W;have hqa:=fun W => run_quo_add x.quo W;have hqb : (x.quo.toNat:Int) ≤ 255:=by have:=x.quo.toNat_lt; omega
 have HQ:=hid hq;clear hR hq;unfold shtC at hB0 hba0 ⊢;obtain ⟨Q,hQ⟩ : ∃ Q,x.quo = Q:=⟨_,rfl⟩;rw [hQ] at hB0 hba0 HBAD HGOOD hqs hqa hqb HQ ⊢;obtain ⟨lim,hlim⟩ : ∃ m,x.lim = m:=⟨_,rfl⟩;rw [hlim] at hB0 hba0 HBAD HGOOD HOUT hi hx ⊢;obtain ⟨g,hg⟩ : ∃ g,w.heap.size = g:=⟨_,rfl⟩;have HG:=hid hg;clear hQ hlim;go_enter Tryz.func96,Tryz.ntmps96;go_wp2_with fail;rw [hg] at hB0 hba0;clear hg
 go_loopw [1,8] (fun v q wr => ∃ (k:Nat) (op : List UInt8),k ≤ lim∧op.length ≤ k∧v = .int .i64 (k:Int)∧q = opStr op∧Hid (OpOk op)∧Hid (FeS l x frm R k op 0)∧Blk wr g 85 #[.int .u8 (x.pre.toNat:Int),.int .u8 (Q.toNat:Int),.int .i64 (x.frm:Int),.int .i64 (lim:Int)]∧Below g w wr) (fun v _ _ => lim - (RowKit.intOf v).toNat)
 case atStart => exact ⟨i,[],hi,Nat.zero_le _,rfl,rfl,hid (fun y hy => by cases hy),HR,hB0,hba0⟩
 case round =>
  clear hB0 hba0;obtain ⟨k,op,hk,hopl,rfl,rfl,HOK,HK,hB,hb⟩:=hrel;obtain ⟨q1,q2,q3⟩:=hB.rules
  by_cases hlt : k < lim
  ·have hone:=run_one l k (by omega) (k:Int) ((k:Int) + 1) rfl rfl;have hbadS:=HBAD.out k op 0 (by omega) hlt;have hgoodS:=HGOOD.out k op 0 (by omega) hlt;rw [show exprS l x frm (l.length + 1 - k) k op 0 = R from HK.out] at hbadS hgoodS;obtain ⟨c,hc⟩ : ∃ c,at0 l k = c:=⟨_,rfl⟩;rw [hc] at hone hbadS hgoodS;clear hc
   by_cases hbad : c ∈ [92,10,35,Q]
   ·have HRR : Hid (R = .error k):=hid (hbadS hbad);have HC:=hid (fun W => ctn_mem [92,10,35,Q] c true (by simpa using hbad) W);clear hbadS hgoodS hbad;go_wp2_with fail;refine (HC.out _).mono ?_;rintro e w1 ⟨rfl,rfl⟩;go_wp2_with fail;go_ret2;refine ⟨by rw [HG.out]; exact hb,?_⟩;rw [HRR.out];exact ⟨k,rfl,by rw [if_neg (by omega)],by omega⟩
   ·have hgood:=hgoodS hbad;have HC:=hid (fun W => ctn_mem [92,10,35,Q] c false (by simpa using hbad) W);rw [if_neg (by decide)] at hgood;clear hbadS hgoodS
    by_cases hqc : c = 34∨c = 39
    ·rw [if_pos hqc] at hgood;have HK1 : Hid (FeS l x frm R (k + 1) op c):=hid hgood.symm;have HNB:=hid hbad;clear hgood HK;rcases hqc with rfl | rfl
     ·have hlp : k + 1 ≤ lim:=(by omega);go_wp2_with fail;refine (HC.out _).mono ?_;rintro e w1 ⟨rfl,rfl⟩;go_wp2_with fail;obtain ⟨wo,hwo⟩ : ∃ wo : World,wo = wr:=⟨_,rfl⟩;have HWO:=hid hwo;clear hwo
      go_loopw [1] (fun v wz => ∃ m : Nat,k + 1 ≤ m∧m ≤ lim∧v = .int .i64 (m:Int)∧Hid (FeS l x frm R m op 34)∧Blk wz g 85 #[.int .u8 (x.pre.toNat:Int),.int .u8 (Q.toNat:Int),.int .i64 (x.frm:Int),.int .i64 (lim:Int)]∧Below g w wz) (fun v _ => lim - (RowKit.intOf v).toNat)
      case atStart => exact ⟨k + 1,Nat.le_refl _,hlp,by go_num,HK1,hB,hb⟩
      case round =>
       clear q1 q2 q3 hB hb hone HK1 HC hbad;obtain ⟨m,hm1,hm2,rfl,HM,hB,hb⟩:=hrel;obtain ⟨q1,q2,q3⟩:=hB.rules
       by_cases hml : m < lim
       ·have hone:=run_one l m (by omega) (m:Int) ((m:Int) + 1) rfl rfl;have hbadS:=HBAD.out m op 34 (by omega) hml;have hgoodS:=HGOOD.out m op 34 (by omega) hml;rw [show exprS l x frm (l.length + 1 - m) m op 34 = R from HM.out] at hbadS hgoodS;obtain ⟨d,hd⟩ : ∃ d,at0 l m = d:=⟨_,rfl⟩;rw [hd] at hone hbadS hgoodS;clear hd
        by_cases hdc : d = 34
        ·subst hdc;have HK2 : Hid (FeS l x frm R (m + 1) op 0):=hid (by
          have h:=hgoodS HNB.out;rw [if_pos (by decide),if_pos rfl] at h;exact h.symm)
         have hml2 : ((m:Int) == (lim:Int)) = false:=(by rw [beq_eq_false_iff_ne]; omega);clear hbadS hgoodS;go_wp2_with fail;go_roundw
         case rel => exact ⟨m + 1,op,by omega,by omega,by go_num,rfl,HOK,HK2,hB,hb⟩
         case measure => simp [RowKit.intOf]; omega
        ·have b1 : ([d] == [34]) = false:=(by simpa using hdc);have b2 : ([d] != [34]) = true:=by rw [bne,b1]; rfl
         by_cases hbd : d ∈ [92,10,35,Q]
         ·have HRR : Hid (R = .error m):=hid (hbadS hbd);have HC2:=hid (fun W => ctn_mem [92,10,35,Q] d true (by simpa using hbd) W);clear hbadS hgoodS hbd hdc;go_wp2_with fail;go_quiet ((go_at_call 130; exact quiet_left (HC2.out _)));go_wp2_with fail;go_ret2;refine ⟨by rw [HG.out]; exact below_drewN hb _,?_⟩;rw [HRR.out];exact ⟨m,rfl,by rw [if_neg (by omega)],by omega⟩
         ·have HK2 : Hid (FeS l x frm R (m + 1) op 34):=hid (by
           have h:=hgoodS hbd;rw [if_pos (by decide),if_neg hdc] at h;exact h.symm)
          have HC2:=hid (fun W => ctn_mem [92,10,35,Q] d false (by simpa using hbd) W);clear hbadS hgoodS hbd hdc;go_wp2_with fail;go_quiet ((go_at_call 130; exact quiet_left (HC2.out _)));go_wp2_with fail;go_roundw
          case rel => exact ⟨m + 1,by omega,by omega,by go_num,HK2,hB.drewN _,below_drewN hb _⟩
          case measure => simp [RowKit.intOf]; omega
       ·have hml0 : m = lim:=(by omega);subst hml0;have HRR : Hid (R = .error frm):=hid (by rw [← show exprS l x frm (l.length + 1 - m) m op 34 = R from HM.out]; exact HOUT.out m op 34 (by omega) (Nat.le_refl _));go_wp2_with fail;go_ret2;refine ⟨by rw [HG.out]; exact hb,?_⟩;rw [HRR.out];exact ⟨m,rfl,by rw [if_pos (Nat.le_refl _)],by omega⟩
     ·have hlp : k + 1 ≤ lim:=(by omega);go_wp2_with fail;refine (HC.out _).mono ?_;rintro e w1 ⟨rfl,rfl⟩;go_wp2_with fail;obtain ⟨wo,hwo⟩ : ∃ wo : World,wo = wr:=⟨_,rfl⟩;have HWO:=hid hwo;clear hwo
      go_loopw [1] (fun v wz => ∃ m : Nat,k + 1 ≤ m∧m ≤ lim∧v = .int .i64 (m:Int)∧Hid (FeS l x frm R m op 39)∧Blk wz g 85 #[.int .u8 (x.pre.toNat:Int),.int .u8 (Q.toNat:Int),.int .i64 (x.frm:Int),.int .i64 (lim:Int)]∧Below g w wz) (fun v _ => lim - (RowKit.intOf v).toNat)
      case atStart => exact ⟨k + 1,Nat.le_refl _,hlp,by go_num,HK1,hB,hb⟩
      case round =>
       clear q1 q2 q3 hB hb hone HK1 HC hbad;obtain ⟨m,hm1,hm2,rfl,HM,hB,hb⟩:=hrel;obtain ⟨q1,q2,q3⟩:=hB.rules
       by_cases hml : m < lim
       ·have hone:=run_one l m (by omega) (m:Int) ((m:Int) + 1) rfl rfl;have hbadS:=HBAD.out m op 39 (by omega) hml;have hgoodS:=HGOOD.out m op 39 (by omega) hml;rw [show exprS l x frm (l.length + 1 - m) m op 39 = R from HM.out] at hbadS hgoodS;obtain ⟨d,hd⟩ : ∃ d,at0 l m = d:=⟨_,rfl⟩;rw [hd] at hone hbadS hgoodS;clear hd
        by_cases hdc : d = 39
        ·subst hdc;have HK2 : Hid (FeS l x frm R (m + 1) op 0):=hid (by
          have h:=hgoodS HNB.out;rw [if_pos (by decide),if_pos rfl] at h;exact h.symm)
         have hml2 : ((m:Int) == (lim:Int)) = false:=(by rw [beq_eq_false_iff_ne]; omega);clear hbadS hgoodS;go_wp2_with fail;go_roundw
         case rel => exact ⟨m + 1,op,by omega,by omega,by go_num,rfl,HOK,HK2,hB,hb⟩
         case measure => simp [RowKit.intOf]; omega
        ·have b1 : ([d] == [39]) = false:=(by simpa using hdc);have b2 : ([d] != [39]) = true:=by rw [bne,b1]; rfl
         by_cases hbd : d ∈ [92,10,35,Q]
         ·have HRR : Hid (R = .error m):=hid (hbadS hbd);have HC2:=hid (fun W => ctn_mem [92,10,35,Q] d true (by simpa using hbd) W);clear hbadS hgoodS hbd hdc;go_wp2_with fail;go_quiet ((go_at_call 130; exact quiet_left (HC2.out _)));go_wp2_with fail;go_ret2;refine ⟨by rw [HG.out]; exact below_drewN hb _,?_⟩;rw [HRR.out];exact ⟨m,rfl,by rw [if_neg (by omega)],by omega⟩
         ·have HK2 : Hid (FeS l x frm R (m + 1) op 39):=hid (by
           have h:=hgoodS hbd;rw [if_pos (by decide),if_neg hdc] at h;exact h.symm)
          have HC2:=hid (fun W => ctn_mem [92,10,35,Q] d false (by simpa using hbd) W);clear hbadS hgoodS hbd hdc;go_wp2_with fail;go_quiet ((go_at_call 130; exact quiet_left (HC2.out _)));go_wp2_with fail;go_roundw
          case rel => exact ⟨m + 1,by omega,by omega,by go_num,HK2,hB.drewN _,below_drewN hb _⟩
          case measure => simp [RowKit.intOf]; omega
       ·have hml0 : m = lim:=(by omega);subst hml0;have HRR : Hid (R = .error frm):=hid (by rw [← show exprS l x frm (l.length + 1 - m) m op 39 = R from HM.out]; exact HOUT.out m op 39 (by omega) (Nat.le_refl _));go_wp2_with fail;go_ret2;refine ⟨by rw [HG.out]; exact hb,?_⟩;rw [HRR.out];exact ⟨m,rfl,by rw [if_pos (Nat.le_refl _)],by omega⟩
    ·have n39 : c ≠ 39:=fun h => hqc (.inr h);have n34 : c ≠ 34:=fun h => hqc (.inl h);have b39 : ([c] == [39]) = false:=(by simpa using n39);have b34 : ([c] == [34]) = false:=(by simpa using n34);rw [if_neg hqc] at hgood;clear hqc n39 n34 HK hbad;rcases op with _ | ⟨y,r⟩
     ·rw [show opStr [] = .string ⟨#[]⟩ from rfl]
      by_cases hend : c ∈ [33,58,125]
      ·have HRR : Hid (R = .ok k):=hid (by rw [hgood,if_pos ⟨rfl,by simpa using hend⟩]);have HE:=hid (fun W => ctn_mem [33,58,125] c true (by simpa using hend) W);clear hgood hend;go_wp2_with fail;refine (HC.out _).mono ?_;rintro e w1 ⟨rfl,rfl⟩;go_wp2_with fail;refine (HE.out _).mono ?_;rintro e w1 ⟨rfl,rfl⟩;go_wp2_with fail;go_ret2;refine ⟨by rw [HG.out]; exact hb,?_⟩;rw [HRR.out];exact ⟨rfl,hlt⟩
      ·rw [if_neg (fun h => hend (by simpa using h.2))] at hgood;have HE:=hid (fun W => ctn_mem [33,58,125] c false (by simpa using hend) W);have HBR:=hid (fun W => bracket_any [] [c] HOK.out (Nat.zero_le _) W);rw [show opStr [] = .string ⟨#[]⟩ from rfl] at HBR;clear hend;obtain ⟨N,hN⟩ : ∃ N,bracket [] [c] = N:=⟨_,rfl⟩;rw [hN] at hgood HBR;have HN:=hid hN;have HGD:=hid hgood;clear hN hgood;go_wp2_with fail;refine (HC.out _).mono ?_;rintro e w1 ⟨rfl,rfl⟩;go_wp2_with fail;refine (HE.out _).mono ?_;rintro e w1 ⟨rfl,rfl⟩;go_wp2_with fail;refine (HBR.out _).mono ?_;rintro e w2 ⟨rfl,hb2⟩;have hb3:=below_then hb hb2 (by have:=hb.size; rw [HG.out] at this; exact this);have hB2:=hB.belowS hb2;clear HBR HC q1 q2 q3 hb hB hb2;rcases N with _ | op'
       ·have HRR : Hid (R = .error k):=hid HGD.out;unfold brV;go_wp2_with fail;go_ret2;refine ⟨by rw [HG.out]; exact hb3,?_⟩;rw [HRR.out];exact ⟨k,rfl,by rw [if_neg (by omega)],by omega⟩
       ·have hlen:=bracket_len HN.out;unfold brV;go_wp2_with fail;go_roundw
        case rel => exact ⟨k + 1,op',by omega,by simp at hopl hlen ⊢; omega,by go_num,rfl,hid (HOK.out.step HN.out),hid HGD.out.symm,hB2,hb3⟩
        case measure => simp [RowKit.intOf]; omega
     ·obtain ⟨q,hqq⟩ : ∃ q,(y :: r).reverse = q:=⟨_,rfl⟩;have hos : opStr (y :: r) = .string ⟨q.toArray⟩:=(by unfold opStr; rw [hqq]);have hqe : q.isEmpty = false:=(by rw [← hqq]; simp);have hqe2 : (q == []) = false:=(by rw [← hqq]; simp);rw [if_neg (fun h => by cases h.1)] at hgood;have HBR:=hid (fun W => bracket_any (y :: r) [c] HOK.out (by omega) W);rw [hos] at HBR ⊢;obtain ⟨N,hN⟩ : ∃ N,bracket (y :: r) [c] = N:=⟨_,rfl⟩;rw [hN] at hgood HBR;have HN:=hid hN;have HGD:=hid hgood;clear hN hgood hqq hos;go_wp2_with fail;refine (HC.out _).mono ?_;rintro e w1 ⟨rfl,rfl⟩;go_wp2_with fail;refine (HBR.out _).mono ?_;rintro e w2 ⟨rfl,hb2⟩;have hb3:=below_then hb hb2 (by have:=hb.size; rw [HG.out] at this; exact this);have hB2:=hB.belowS hb2;clear HBR HC q1 q2 q3 hb hB hb2;rcases N with _ | op'
      ·have HRR : Hid (R = .error k):=hid HGD.out;unfold brV;go_wp2_with fail;go_ret2;refine ⟨by rw [HG.out]; exact hb3,?_⟩;rw [HRR.out];exact ⟨k,rfl,by rw [if_neg (by omega)],by omega⟩
      ·have hlen:=bracket_len HN.out;unfold brV;go_wp2_with fail;go_roundw
       case rel => exact ⟨k + 1,op',by omega,by simp at hopl hlen ⊢; omega,by go_num,rfl,hid (HOK.out.step HN.out),hid HGD.out.symm,hB2,hb3⟩
       case measure => simp [RowKit.intOf]; omega
  ·have HRR : Hid (R = .error frm):=hid (by rw [← show exprS l x frm (l.length + 1 - k) k op 0 = R from HK.out]; exact HOUT.out k op 0 (by omega) (by omega));go_wp2_with fail;go_ret2;refine ⟨by rw [HG.out]; exact hb,?_⟩;rw [HRR.out];exact ⟨k,rfl,by rw [if_pos (by omega)],by omega⟩
end Go.Proofs.YtonehlkiackhcaaGreatDoor
