/- The scanner's function scan: the tokens of the whole text, or the fault. Nothing is claimed here. -/
import Derived.Test.YtonehlkiackhcaaGreatDoorScanH
import Derived.Test.YtonehlkiackhcaaGreatDoorScanJ
set_option linter.unusedVariables false
set_option linter.unusedSimpArgs false
set_option maxRecDepth 100000
set_option maxHeartbeats 16000000
namespace Go.Proofs.YtonehlkiackhcaaGreatDoor
open Go.RowKit Go.Shelf Go.Lib Go.Maps Go.Sort
attribute [local go_sem] steady
def ScanPost (a : World) (B g:Nat) (l : List UInt8) (m:Nat) (vs : Value) (R : Except (Int × Int) (List Tok)) (e : Ending) (w' : World) : Prop :=
 match R with
 | .error (c,i) => e = .panicked [{ v:=probV c i,recovered:=false }]∧Below B a w'
 | .ok t => ∃ (at_:Nat) (ind : List Nat) (op : List UInt8) (vi vo vt : Value),e = .returned (.tuple #[])∧Sc w' B g l at_ ind op t vi vo vt m vs∧Below B a w'
theorem ScanPost.err {a : World} {B g : Nat} {l : List UInt8} {m : Nat} {vs : Value} {R : Except (Int × Int) (List Tok)} {e : Ending} {w' : World} {c i j : Int} (hR : R = .error (c,i)) (hj : j = i) (he : e = .panicked [{ v:=probV c j,recovered:=false }]) (hb : Below B a w') : ScanPost a B g l m vs R e w':=by
 subst hR hj;exact ⟨he,hb⟩
theorem ScanPost.ok {a : World} {B g : Nat} {l : List UInt8} {m : Nat} {vs : Value} {R : Except (Int × Int) (List Tok)} {e : Ending} {w' : World} {t : List Tok} {at_ : Nat} {ind : List Nat} {op : List UInt8} {vi vo vt : Value} (hR : R = .ok t) (he : e = .returned (.tuple #[])) (hs : Sc w' B g l at_ ind op t vi vo vt m vs) (hb : Below B a w') : ScanPost a B g l m vs R e w':=by
 subst hR;exact ⟨at_,ind,op,vi,vo,vt,he,hs,hb⟩
def SRel (a : World) (B g:Nat) (l : List UInt8) (m:Nat) (vs : Value) (R : Except (Int × Int) (List Tok)) (v : Value) (w' : World) : Prop :=
 ∃ (s : Scn) (f:Nat) (vi vo vt : Value),Sc w' B g l s.at_ s.ind s.op s.toks vi vo vt m vs∧Below B a w'∧SInv l s∧v = .bool s.fresh∧l.length < f + s.at_∧scanF l f s = R
def CRel (a : World) (B g:Nat) (l : List UInt8) (i x:Nat) (ind0 : List Nat) (T : List Tok) (vi vo : Value) (m:Nat) (vs : Value) (v : Value) (w' : World) : Prop :=
 ∃ (k:Nat) (vt : Value),k ≤ ind0.length∧v = .int .i64 (k:Int)∧Sc w' B g l i (x :: ind0) [] (T ++ List.replicate k (tokAt l 3 [] i)) vi vo vt m vs∧Below B a w'
theorem pre_calls (c : UInt8) (W : World) : Calls Tryz.prog 87 #[.string ⟨#[114,98,102]⟩,.int .u8 (c.toNat:Int)] W fun e w' => (∃ v : Int,e = .returned (.int .i64 v)∧(decide (0 ≤ v) = isPre c))∧W = w' :=
 (Tryz.strings_IndexByte ⟨#[114,98,102]⟩ (c.toNat:Int) W).mono fun _ _ h => ⟨⟨_,h.1,by
  rw [Int.toNat_natCast,show c.toNat.toUInt8 = c from by simp];unfold isPre
  by_cases h1 : c = 114
  ·subst h1; decide
  ·by_cases h2 : c = 98
   ·subst h2; decide
   ·by_cases h3 : c = 102
    ·subst h3; decide
    ·have e1 : ((114 : UInt8) == c) = false:=(by rw [beq_eq_false_iff_ne]; exact fun e => h1 e.symm);have e2 : ((98 : UInt8) == c) = false:=(by rw [beq_eq_false_iff_ne]; exact fun e => h2 e.symm);have e3 : ((102 : UInt8) == c) = false:=(by rw [beq_eq_false_iff_ne]; exact fun e => h3 e.symm);simp [Lib.indexByte,h1,h2,h3,e1,e2,e3]⟩,h.2.symm⟩
theorem scan_any {a w : World} {B g : Nat} {l : List UInt8} {vi vo vt : Value} {m : Nat} {vs : Value} (h : Sc w B g l 0 [0] [] [] vi vo vt m vs) (hl : l.length ≤ 16000) (hb : Below B a w) :
  Calls Tryz.prog 120 #[.pointer (some ⟨g,0,none⟩)] w (ScanPost a B g l m vs (scanF l (l.length + 1) ⟨0,[0],[],[],true⟩)):=by
 obtain ⟨R,hR⟩ : ∃ R,scanF l (l.length + 1) ⟨0,[0],[],[],true⟩ = R:=⟨_,rfl⟩;rw [hR];have HH:=hid h;have HRR0:=hid hR;clear h hR;go_enter Tryz.func120,Tryz.ntmps120;go_wp2_with fail
 go_loopw [2] (fun v wr => SRel a B g l m vs R v wr) (fun _ wr => l.length - atW g wr)
 case atStart => exact ⟨⟨0,[0],[],[],true⟩,l.length + 1,vi,vo,vt,HH.out,hb,⟨by simp,by simp,by simp,by simp,by simp⟩,rfl,by simp,HRR0.out⟩
 case round =>
  clear HH HRR0 hb;obtain ⟨⟨sat,sind,sop,stk,sfr⟩,f,vi,vo,vt,hs,hbr,hinv,rfl,hf,hRR⟩:=hrel;dsimp only at hs hf ⊢;have HI:=hid hinv;have HF:=hid hf;have HRR:=hid hRR;have HS:=hid hs;have hle : sat ≤ l.length:=hinv.le;obtain ⟨i,hi⟩ : ∃ i,sat + skipLen (l.drop sat) = i:=⟨_,rfl⟩;have hil : i ≤ l.length:=(by rw [← hi]; exact skip_le l sat hle);have hai : sat ≤ i:=(by omega);have HST:=hid (show stepS l ⟨sat,sind,sop,stk,sfr⟩ = stepB l ⟨sat,sind,sop,stk,sfr⟩ i from step_at hi);have HII:=hid hi;have hcnt : sind.length + stk.length ≤ 3 * sat + 1:=hinv.cnt;have hopn : sop.length ≤ sat:=hinv.opn;have hnei : sind ≠ []:=hinv.ne;have HBD:=hid hinv.bd;clear hinv hf hRR hs hi;go_wp2_with fail;refine (skip_any HS.out hl hle hbr).mono ?_;rintro e w1 ⟨rfl,hs1,hb1⟩;rw [HII.out] at hs1;have HS1:=hid hs1;clear hs1 hbr;go_wp2_with fail;refine (peek0S HS1.out hl hil hb1).mono ?_;rintro e w2 ⟨rfl,hs2,hb2⟩;have HS2:=hid hs2;unfold Sc scCells at hs2;obtain ⟨q1,q2,q3⟩:=hs2.blk.rules;clear hs2 HS1 hb1
  by_cases hend : l.length ≤ i
  ·have d1 : decide ((l.length:Int) ≤ (i:Int)) = true:=decide_eq_true (by omega);obtain ⟨x,ind0,rfl⟩ : ∃ x ind0,sind = x :: ind0:=by
    cases sind with
    | nil => exact absurd rfl hnei
    | cons x r => exact ⟨x,r,rfl⟩
   obtain ⟨Ao,co,rfl,_,_⟩:=own_form HS2.out.oo;obtain ⟨Ai,ci,rfl,_,_⟩:=own_form HS2.out.oi;rw [List.length_cons] at hcnt;go_wp2_with fail;go_quiet (fail);have HS3 : Hid (Sc (w2.drewN nq) B g l i (x :: ind0) sop stk (.slice Ai (ind0.length + 1) ci) (.slice Ao sop.length co) vt m vs):=hid (ScR.drewN HS2.out nq);have hb3:=below_drewN hb2 nq;generalize w2.drewN nq = w3 at HS3 hb3 ⊢;clear q1 q2 q3 HS2 hb2;have hs3:=HS3.out;unfold Sc scCells at hs3;obtain ⟨q1,q2,q3⟩:=hs3.blk.rules;clear hs3;cases sop with
   | cons c op =>
    have HFT:=hid (scan_fault HI.out.le HF.out HRR.out (show stepS l ⟨sat,x :: ind0,c :: op,stk,sfr⟩ = .fault 15 i by
     rw [HST.out];unfold stepB;rw [if_pos hend,if_pos (by simp)]))
    go_wp2_with fail;refine (fail_any _ _ _ _).mono ?_;rintro e w4 ⟨rfl,rfl⟩;go_wp2_with fail;exact ⟨rfl,ScanPost.err HFT.out rfl rfl hb3⟩
   | nil =>
    have HDN : Hid (R = .ok (closing l ⟨sat,x :: ind0,[],stk,sfr⟩ i)):=hid (scan_done HI.out.le HF.out HRR.out (show stepS l ⟨sat,x :: ind0,[],stk,sfr⟩ = .done (closing l ⟨sat,x :: ind0,[],stk,sfr⟩ i) by
     rw [HST.out];unfold stepB;rw [if_pos hend,if_neg (by simp)]))
    cases sfr with
    | true =>
     have HTT : Hid (closing l ⟨sat,x :: ind0,[],stk,true⟩ i = stk ++ List.replicate ind0.length (tokAt l 3 [] i) ++ [tokAt l 0 [] i]):=hid (by unfold closing; simp);go_wp2_with fail;have hts4 : stk.length ≤ 100000:=(by omega);obtain ⟨w4,hw4⟩ : ∃ w4,w4 = w3:=⟨_,rfl⟩;subst hw4
     go_loopw [46] (fun v wr => CRel a B g l i x ind0 stk (.slice Ai (ind0.length + 1) ci) (.slice Ao 0 co) m vs v wr) (fun v _ => ind0.length - (RowKit.intOf v).toNat)
     case atStart => exact ⟨0,vt,Nat.zero_le _,rfl,by simpa using HS3.out,hb3⟩
     case round =>
      clear q1 q2 q3;obtain ⟨k,vtc,hk,rfl,hsc,hbc⟩:=hrel;have HSc:=hid hsc;unfold Sc scCells at hsc;obtain ⟨q1,q2,q3⟩:=hsc.blk.rules;have htk : (stk ++ List.replicate k (tokAt l 3 [] i)).length ≤ 1000000:=(by rw [List.length_append,List.length_replicate]; omega);have HTK:=hid htk;clear hsc htk
      by_cases hlt : k < ind0.length
      ·have hkd : decide ((k:Int) < (ind0.length:Int)) = true:=decide_eq_true (by omega);go_wp2_with fail;refine (add_any HSc.out hl HTK.out hbc 3 [] i hil rfl rfl).mono ?_;rintro e w7 ⟨vt7,rfl,hs7,hb7⟩;have HS7:=hid hs7;clear hs7 q1 q2 q3;go_wp2_with fail;go_roundw
       case rel =>
        refine ⟨k + 1,vt7,by omega,by go_num,?_,hb7⟩;rw [List.replicate_succ',← List.append_assoc];exact HS7.out
       case measure => simp [RowKit.intOf]; omega
      ·have hkd : decide ((k:Int) < (ind0.length:Int)) = false:=decide_eq_false (by omega);have hke : k = ind0.length:=(by omega);have HKE:=hid hke;clear hke;go_wp2_with fail;refine (add_any HSc.out hl HTK.out hbc 0 [] i hil rfl rfl).mono ?_;rintro e w7 ⟨vt7,rfl,hs7,hb7⟩;have HS7:=hid hs7;clear hs7 q1 q2 q3;go_wp2_with fail;go_end0;refine ScanPost.ok (HDN.out.trans (congrArg Except.ok (HTT.out.trans ?_))) rfl HS7.out hb7;rw [HKE.out]
    | false =>
     have HTT : Hid (closing l ⟨sat,x :: ind0,[],stk,false⟩ i = stk ++ [tokAt l 1 [] i] ++ List.replicate ind0.length (tokAt l 3 [] i) ++ [tokAt l 0 [] i]):=hid (by unfold closing; simp);go_wp2_with fail;refine (add_any HS3.out hl (by omega) hb3 1 [] i hil rfl rfl).mono ?_;rintro e w4 ⟨vt4,rfl,hs4,hb4⟩;have HS4:=hid hs4;unfold Sc scCells at hs4;clear q1 q2 q3;obtain ⟨q1,q2,q3⟩:=hs4.blk.rules;clear hs4;have hts4 : (stk ++ [tokAt l 1 [] i]).length ≤ 100000:=(by rw [List.length_append,List.length_singleton]; omega);go_wp2_with fail
     go_loopw [46] (fun v wr => CRel a B g l i x ind0 (stk ++ [tokAt l 1 [] i]) (.slice Ai (ind0.length + 1) ci) (.slice Ao 0 co) m vs v wr) (fun v _ => ind0.length - (RowKit.intOf v).toNat)
     case atStart => exact ⟨0,vt4,Nat.zero_le _,rfl,by simpa using HS4.out,hb4⟩
     case round =>
      clear q1 q2 q3;obtain ⟨k,vtc,hk,rfl,hsc,hbc⟩:=hrel;have HSc:=hid hsc;unfold Sc scCells at hsc;obtain ⟨q1,q2,q3⟩:=hsc.blk.rules;have htk : ((stk ++ [tokAt l 1 [] i]) ++ List.replicate k (tokAt l 3 [] i)).length ≤ 1000000:=(by rw [List.length_append,List.length_replicate]; omega);have HTK:=hid htk;clear hsc htk
      by_cases hlt : k < ind0.length
      ·have hkd : decide ((k:Int) < (ind0.length:Int)) = true:=decide_eq_true (by omega);go_wp2_with fail;refine (add_any HSc.out hl HTK.out hbc 3 [] i hil rfl rfl).mono ?_;rintro e w7 ⟨vt7,rfl,hs7,hb7⟩;have HS7:=hid hs7;clear hs7 q1 q2 q3;go_wp2_with fail;go_roundw
       case rel =>
        refine ⟨k + 1,vt7,by omega,by go_num,?_,hb7⟩;rw [List.replicate_succ',← List.append_assoc];exact HS7.out
       case measure => simp [RowKit.intOf]; omega
      ·have hkd : decide ((k:Int) < (ind0.length:Int)) = false:=decide_eq_false (by omega);have hke : k = ind0.length:=(by omega);have HKE:=hid hke;clear hke;go_wp2_with fail;refine (add_any HSc.out hl HTK.out hbc 0 [] i hil rfl rfl).mono ?_;rintro e w7 ⟨vt7,rfl,hs7,hb7⟩;have HS7:=hid hs7;clear hs7 q1 q2 q3;go_wp2_with fail;go_end0;refine ScanPost.ok (HDN.out.trans (congrArg Except.ok (HTT.out.trans ?_))) rfl HS7.out hb7;rw [HKE.out]
  ·have d1 : decide ((l.length:Int) ≤ (i:Int)) = false:=decide_eq_false (by omega);go_wp2_with fail;go_quiet (fail);have HS3 : Hid (Sc (w2.drewN nq) B g l i sind sop stk vi vo vt m vs):=hid (ScR.drewN HS2.out nq);have hb3:=below_drewN hb2 nq;generalize w2.drewN nq = w3 at HS3 hb3 ⊢;clear q1 q2 q3 HS2 hb2
   by_cases h10 : at0 l i = 10
   ·as_aux_lemma =>
    have c10:=eqb_t 10 10 rfl h10;have H10:=hid h10;clear h10;cases sfr with
    | true =>
     have HMO:=hid (show stepS l ⟨sat,sind,sop,stk,true⟩ = .more ⟨i + 1,sind,sop,stk,true⟩ by
      rw [HST.out];unfold stepB;rw [if_neg hend,if_pos H10.out,if_neg (by simp)])
     go_wp2_with fail;refine (next_any HS3.out hl (by omega) H10.out hb3).mono ?_;rintro e w5 ⟨rfl,hs5,hb5⟩;have HS5:=hid hs5;clear hs5;go_wp2_with fail;go_roundw
     case rel =>
      have hstep:=step_inv hl HI.out HMO.out;obtain ⟨f2,hf2,hr2⟩:=scan_next HI.out.le HF.out HRR.out HMO.out hstep.2;exact ⟨_,f2,_,_,_,HS5.out,hb5,hstep.1,rfl,hf2,hr2⟩
     case measure =>
      have hstep:=step_inv hl HI.out HMO.out;have hlt:=hstep.2;have hle2:=hstep.1.le;dsimp only at hlt hle2;rw [ScR.atW HS.out rfl,ScR.atW HS5.out (n:=i + 1) rfl];omega
    | false =>
     obtain ⟨Ao,co,rfl,_,_⟩:=own_form HS3.out.oo;have hs3:=HS3.out;unfold Sc scCells at hs3;obtain ⟨q1,q2,q3⟩:=hs3.blk.rules;clear hs3;cases sop with
     | nil =>
      have HMO:=hid (show stepS l ⟨sat,sind,[],stk,false⟩ = .more ⟨i + 1,sind,[],stk ++ [tokAt l 1 [] i],true⟩ by
       rw [HST.out];unfold stepB;rw [if_neg hend,if_pos H10.out,if_pos ⟨rfl,rfl⟩])
      go_wp2_with fail;refine (add_any HS3.out hl (by omega) hb3 1 [] i hil rfl rfl).mono ?_;rintro e w4 ⟨vt4,rfl,hs4,hb4⟩;have HS4:=hid hs4;clear hs4 q1 q2 q3;go_wp2_with fail;refine (next_any HS4.out hl (by omega) H10.out hb4).mono ?_;rintro e w5 ⟨rfl,hs5,hb5⟩;have HS5:=hid hs5;clear hs5;go_wp2_with fail;go_roundw
      case rel =>
       have hstep:=step_inv hl HI.out HMO.out;obtain ⟨f2,hf2,hr2⟩:=scan_next HI.out.le HF.out HRR.out HMO.out hstep.2;exact ⟨_,f2,_,_,_,HS5.out,hb5,hstep.1,rfl,hf2,hr2⟩
      case measure =>
       have hstep:=step_inv hl HI.out HMO.out;have hlt:=hstep.2;have hle2:=hstep.1.le;dsimp only at hlt hle2;rw [ScR.atW HS.out rfl,ScR.atW HS5.out (n:=i + 1) rfl];omega
     | cons c op =>
      have HMO:=hid (show stepS l ⟨sat,sind,c :: op,stk,false⟩ = .more ⟨i + 1,sind,c :: op,stk,false⟩ by
       rw [HST.out];unfold stepB;rw [if_neg hend,if_pos H10.out,if_neg (by simp)])
      have hq0 : ((op.length:Int) + 1 == 0) = false:=(by rw [beq_eq_false_iff_ne]; omega);go_wp2_with fail;refine (next_any HS3.out hl (by omega) H10.out hb3).mono ?_;rintro e w5 ⟨rfl,hs5,hb5⟩;have HS5:=hid hs5;clear hs5 q1 q2 q3;go_wp2_with fail;go_roundw
      case rel =>
       have hstep:=step_inv hl HI.out HMO.out;obtain ⟨f2,hf2,hr2⟩:=scan_next HI.out.le HF.out HRR.out HMO.out hstep.2;exact ⟨_,f2,_,_,_,HS5.out,hb5,hstep.1,rfl,hf2,hr2⟩
      case measure =>
       have hstep:=step_inv hl HI.out HMO.out;have hlt:=hstep.2;have hle2:=hstep.1.le;dsimp only at hlt hle2;rw [ScR.atW HS.out rfl,ScR.atW HS5.out (n:=i + 1) rfl];omega
   ·have c10:=eqb_f 10 10 rfl h10;have H10:=hid h10;clear h10;cases sfr with
    | true =>
     go_wp2_with fail;refine (indent_any HS3.out hl hil hb3 (by omega) (by omega) hnei (fun y hy => by have:=HBD.out y hy; omega)).mono ?_;rintro e w5 hpost;cases hin : indent (width l i) sind with
     | none =>
      rw [hin] at hpost;obtain ⟨rfl,hb5⟩:=hpost;have HFT:=hid (scan_fault HI.out.le HF.out HRR.out (show stepS l ⟨sat,sind,sop,stk,true⟩ = .fault 17 i by
       rw [HST.out];unfold stepB;rw [if_neg hend,if_neg H10.out,if_pos rfl];simp only [hin]))
      clear hin;go_wp2_with fail;exact ⟨rfl,ScanPost.err HFT.out rfl rfl hb5⟩
     | some x =>
      obtain ⟨ind5,ks5⟩:=x;rw [hin] at hpost;obtain ⟨vi5,vt5,rfl,hs5,hb5⟩:=hpost;have HS5:=hid hs5;have HTK:=hid (show stepS l ⟨sat,sind,sop,stk,true⟩ = takeTok l i ⟨sat,ind5,sop,stk ++ ks5.map fun k => tokAt l k [] i,false⟩ by
       rw [HST.out];unfold stepB;rw [if_neg hend,if_neg H10.out,if_pos rfl];simp only [hin])
      have hks:=(indent_inv hin hnei HBD.out (by have:=width_le l i; omega)).2.2;have hts5 : (stk ++ ks5.map fun k => tokAt l k [] i).length ≤ 1000000:=(by rw [List.length_append,List.length_map]; omega);clear hin hs5 HS3 hb3 hks
      -- a token is scanned
      have HR0:=hid (at0_drop l i 0);have HR1:=hid (at0_drop l i 1);go_wp2_with fail;refine (peek0S HS5.out hl hil hb5).mono ?_;rintro e w4 ⟨rfl,hs4,hb4⟩;have HS4:=hid hs4;clear hs4
      by_cases hq : isQuo (at0 l i) = true
      ·as_aux_lemma =>
       have HLX:=hid (show lexTok (l.drop i) = lexStr 0 (l.drop i) by unfold lexTok; rw [at0_drop,Nat.add_zero,if_pos hq]);have HQ:=hid hq;have hc' : at0 l i = 34∨at0 l i = 39:=(by simpa [isQuo] using hq);clear hq;rcases hc' with h34 | h39
       ·have c1:=eqb_t 34 34 rfl h34;clear h34;go_wp2_with fail;refine (quote_any HS4.out hl hb4 hts5 0 (.inl rfl) HQ.out).mono ?_;rintro e w5 hpost;rw [← HLX.out] at hpost;cases hr : lexTok (l.drop i) with
        | error x =>
         obtain ⟨c5,k5⟩:=x;rw [hr] at hpost;obtain ⟨rfl,hb5⟩:=hpost;have HFT:=hid (scan_fault HI.out.le HF.out HRR.out (HTK.out.trans (take_err hr)));clear hr;go_wp2_with fail;exact ⟨rfl,ScanPost.err HFT.out rfl rfl hb5⟩
        | ok x =>
         obtain ⟨k5,n5⟩:=x;have HMO:=hid (HTK.out.trans (take_ok hr (lexStr_kind (HLX.out ▸ hr))));rw [hr] at hpost;obtain ⟨vt5,rfl,hs5,hb5⟩:=hpost;have HS5:=hid hs5;clear hr hs5;go_wp2_with fail;go_roundw
         case rel =>
          have hstep:=step_inv hl HI.out HMO.out;obtain ⟨f2,hf2,hr2⟩:=scan_next HI.out.le HF.out HRR.out HMO.out hstep.2;exact ⟨_,f2,_,_,_,HS5.out,hb5,hstep.1,rfl,hf2,hr2⟩
         case measure =>
          have hstep:=step_inv hl HI.out HMO.out;have hlt:=hstep.2;have hle2:=hstep.1.le;dsimp only at hlt hle2;rw [ScR.atW HS.out rfl,ScR.atW HS5.out (n:=i + n5) rfl];omega
       ·have c1:=eqb_f 34 34 rfl (show at0 l i ≠ 34 by rw [h39]; decide);have c2:=eqb_t 39 39 rfl h39;clear h39;go_wp2_with fail;refine (quote_any HS4.out hl hb4 hts5 0 (.inl rfl) HQ.out).mono ?_;rintro e w5 hpost;rw [← HLX.out] at hpost;cases hr : lexTok (l.drop i) with
        | error x =>
         obtain ⟨c5,k5⟩:=x;rw [hr] at hpost;obtain ⟨rfl,hb5⟩:=hpost;have HFT:=hid (scan_fault HI.out.le HF.out HRR.out (HTK.out.trans (take_err hr)));clear hr;go_wp2_with fail;exact ⟨rfl,ScanPost.err HFT.out rfl rfl hb5⟩
        | ok x =>
         obtain ⟨k5,n5⟩:=x;have HMO:=hid (HTK.out.trans (take_ok hr (lexStr_kind (HLX.out ▸ hr))));rw [hr] at hpost;obtain ⟨vt5,rfl,hs5,hb5⟩:=hpost;have HS5:=hid hs5;clear hr hs5;go_wp2_with fail;go_roundw
         case rel =>
          have hstep:=step_inv hl HI.out HMO.out;obtain ⟨f2,hf2,hr2⟩:=scan_next HI.out.le HF.out HRR.out HMO.out hstep.2;exact ⟨_,f2,_,_,_,HS5.out,hb5,hstep.1,rfl,hf2,hr2⟩
         case measure =>
          have hstep:=step_inv hl HI.out HMO.out;have hlt:=hstep.2;have hle2:=hstep.1.le;dsimp only at hlt hle2;rw [ScR.atW HS.out rfl,ScR.atW HS5.out (n:=i + n5) rfl];omega
      ·have hq' : isQuo (at0 l i) = false:=(by simpa using hq);have hq2 : at0 l i ≠ 34∧at0 l i ≠ 39:=(by simpa [isQuo] using hq);have c1:=eqb_f 34 34 rfl hq2.1;have c2:=eqb_f 39 39 rfl hq2.2;have HQ:=hid hq';clear hq hq' hq2;go_wp2_with fail;refine (pre_calls _ _).mono ?_;rintro e w5 ⟨⟨v5,rfl,hv5⟩,rfl⟩
       by_cases hp : isPre (at0 l i) = true
       ·have HP:=hid hp;rw [hp] at hv5;clear hp;go_wp2_with fail;refine (peek1S HS4.out hl hil hb4).mono ?_;rintro e w6 ⟨rfl,hs6,hb6⟩;have HS6:=hid hs6;clear hs6
        by_cases h34 : at0 l (i + 1) = 34
        ·as_aux_lemma =>
         have d34:=eqb_t 34 34 rfl h34;have HQ1:=hid (show isQuo (at0 l (i + 1)) = true by rw [h34]; decide);have HLX:=hid (show lexTok (l.drop i) = lexStr 1 (l.drop i) by unfold lexTok; rw [at0_drop,at0_drop,Nat.add_zero,if_neg (by rw [HQ.out]; decide),if_pos (by rw [HP.out,HQ1.out]; rfl)]);clear h34;go_wp2_with fail;refine (quote_any HS6.out hl hb6 hts5 1 (.inr ⟨rfl,HP.out⟩) HQ1.out).mono ?_;rintro e w5 hpost;rw [← HLX.out] at hpost;cases hr : lexTok (l.drop i) with
         | error x =>
          obtain ⟨c5,k5⟩:=x;rw [hr] at hpost;obtain ⟨rfl,hb5⟩:=hpost;have HFT:=hid (scan_fault HI.out.le HF.out HRR.out (HTK.out.trans (take_err hr)));clear hr;go_wp2_with fail;exact ⟨rfl,ScanPost.err HFT.out rfl rfl hb5⟩
         | ok x =>
          obtain ⟨k5,n5⟩:=x;have HMO:=hid (HTK.out.trans (take_ok hr (lexStr_kind (HLX.out ▸ hr))));rw [hr] at hpost;obtain ⟨vt5,rfl,hs5,hb5⟩:=hpost;have HS5:=hid hs5;clear hr hs5;go_wp2_with fail;go_roundw
          case rel =>
           have hstep:=step_inv hl HI.out HMO.out;obtain ⟨f2,hf2,hr2⟩:=scan_next HI.out.le HF.out HRR.out HMO.out hstep.2;exact ⟨_,f2,_,_,_,HS5.out,hb5,hstep.1,rfl,hf2,hr2⟩
          case measure =>
           have hstep:=step_inv hl HI.out HMO.out;have hlt:=hstep.2;have hle2:=hstep.1.le;dsimp only at hlt hle2;rw [ScR.atW HS.out rfl,ScR.atW HS5.out (n:=i + n5) rfl];omega
        ·have d34:=eqb_f 34 34 rfl h34;go_wp2_with fail;refine (peek1S HS6.out hl hil hb6).mono ?_;rintro e w7 ⟨rfl,hs7,hb7⟩;have HS7:=hid hs7;clear hs7
         by_cases h39 : at0 l (i + 1) = 39
         ·as_aux_lemma =>
          have d39:=eqb_t 39 39 rfl h39;have HQ1:=hid (show isQuo (at0 l (i + 1)) = true by rw [h39]; decide);have HLX:=hid (show lexTok (l.drop i) = lexStr 1 (l.drop i) by unfold lexTok; rw [at0_drop,at0_drop,Nat.add_zero,if_neg (by rw [HQ.out]; decide),if_pos (by rw [HP.out,HQ1.out]; rfl)]);clear h39 h34;go_wp2_with fail;refine (quote_any HS7.out hl hb7 hts5 1 (.inr ⟨rfl,HP.out⟩) HQ1.out).mono ?_;rintro e w5 hpost;rw [← HLX.out] at hpost;cases hr : lexTok (l.drop i) with
          | error x =>
           obtain ⟨c5,k5⟩:=x;rw [hr] at hpost;obtain ⟨rfl,hb5⟩:=hpost;have HFT:=hid (scan_fault HI.out.le HF.out HRR.out (HTK.out.trans (take_err hr)));clear hr;go_wp2_with fail;exact ⟨rfl,ScanPost.err HFT.out rfl rfl hb5⟩
          | ok x =>
           obtain ⟨k5,n5⟩:=x;have HMO:=hid (HTK.out.trans (take_ok hr (lexStr_kind (HLX.out ▸ hr))));rw [hr] at hpost;obtain ⟨vt5,rfl,hs5,hb5⟩:=hpost;have HS5:=hid hs5;clear hr hs5;go_wp2_with fail;go_roundw
           case rel =>
            have hstep:=step_inv hl HI.out HMO.out;obtain ⟨f2,hf2,hr2⟩:=scan_next HI.out.le HF.out HRR.out HMO.out hstep.2;exact ⟨_,f2,_,_,_,HS5.out,hb5,hstep.1,rfl,hf2,hr2⟩
           case measure =>
            have hstep:=step_inv hl HI.out HMO.out;have hlt:=hstep.2;have hle2:=hstep.1.le;dsimp only at hlt hle2;rw [ScR.atW HS.out rfl,ScR.atW HS5.out (n:=i + n5) rfl];omega
         ·as_aux_lemma =>
          have d39:=eqb_f 39 39 rfl h39;have hq1 : isQuo (at0 l (i + 1)) = false:=(by simp [isQuo,h34,h39]);have hlt:=isPre_let _ HP.out;have HLX:=hid (show lexTok (l.drop i) = lexName (l.drop i) by unfold lexTok; rw [at0_drop,at0_drop,Nat.add_zero,if_neg (by rw [HQ.out]; decide),if_neg (by rw [hq1,Bool.and_false]; decide),if_pos hlt]);have hcl : ∀ W : World,Calls Tryz.prog 153 #[.int .u8 ((at0 l i).toNat:Int)] W fun e w' => e = .returned (.bool true)∧W = w':=fun W => by have:=letter_any (at0 l i) W; rwa [hlt] at this
          have HCL:=hid hcl;clear h39 h34 hq1 hlt hcl;go_wp2_with fail;refine (HCL.out _).mono ?_;rintro e w8 ⟨rfl,rfl⟩;go_wp2_with fail;refine (name_any HS7.out hl hil hb7 hts5).mono ?_;rintro e w5 hpost;rw [← HLX.out] at hpost;cases hr : lexTok (l.drop i) with
          | error x =>
           obtain ⟨c5,k5⟩:=x;rw [hr] at hpost;obtain ⟨rfl,hb5⟩:=hpost;have HFT:=hid (scan_fault HI.out.le HF.out HRR.out (HTK.out.trans (take_err hr)));clear hr;go_wp2_with fail;exact ⟨rfl,ScanPost.err HFT.out rfl rfl hb5⟩
          | ok x =>
           obtain ⟨k5,n5⟩:=x;have HMO:=hid (HTK.out.trans (take_ok hr (lexName_kind (HLX.out ▸ hr))));rw [hr] at hpost;obtain ⟨vt5,rfl,hs5,hb5⟩:=hpost;have HS5:=hid hs5;clear hr hs5;go_wp2_with fail;go_roundw
           case rel =>
            have hstep:=step_inv hl HI.out HMO.out;obtain ⟨f2,hf2,hr2⟩:=scan_next HI.out.le HF.out HRR.out HMO.out hstep.2;exact ⟨_,f2,_,_,_,HS5.out,hb5,hstep.1,rfl,hf2,hr2⟩
           case measure =>
            have hstep:=step_inv hl HI.out HMO.out;have hlt:=hstep.2;have hle2:=hstep.1.le;dsimp only at hlt hle2;rw [ScR.atW HS.out rfl,ScR.atW HS5.out (n:=i + n5) rfl];omega
       ·have hp' : isPre (at0 l i) = false:=(by simpa using hp);have HP:=hid hp';rw [hp'] at hv5;clear hp hp';go_wp2_with fail
        by_cases hlt : isLet (at0 l i) = true
        ·as_aux_lemma =>
         have HLX:=hid (show lexTok (l.drop i) = lexName (l.drop i) by unfold lexTok; rw [at0_drop,at0_drop,Nat.add_zero,if_neg (by rw [HQ.out]; decide),if_neg (by rw [HP.out,Bool.false_and]; decide),if_pos hlt]);have hcl : ∀ W : World,Calls Tryz.prog 153 #[.int .u8 ((at0 l i).toNat:Int)] W fun e w' => e = .returned (.bool true)∧W = w':=fun W => by have:=letter_any (at0 l i) W; rwa [hlt] at this
         have HCL:=hid hcl;clear hlt hcl;refine (HCL.out _).mono ?_;rintro e w8 ⟨rfl,rfl⟩;go_wp2_with fail;refine (name_any HS4.out hl hil hb4 hts5).mono ?_;rintro e w5 hpost;rw [← HLX.out] at hpost;cases hr : lexTok (l.drop i) with
         | error x =>
          obtain ⟨c5,k5⟩:=x;rw [hr] at hpost;obtain ⟨rfl,hb5⟩:=hpost;have HFT:=hid (scan_fault HI.out.le HF.out HRR.out (HTK.out.trans (take_err hr)));clear hr;go_wp2_with fail;exact ⟨rfl,ScanPost.err HFT.out rfl rfl hb5⟩
         | ok x =>
          obtain ⟨k5,n5⟩:=x;have HMO:=hid (HTK.out.trans (take_ok hr (lexName_kind (HLX.out ▸ hr))));rw [hr] at hpost;obtain ⟨vt5,rfl,hs5,hb5⟩:=hpost;have HS5:=hid hs5;clear hr hs5;go_wp2_with fail;go_roundw
          case rel =>
           have hstep:=step_inv hl HI.out HMO.out;obtain ⟨f2,hf2,hr2⟩:=scan_next HI.out.le HF.out HRR.out HMO.out hstep.2;exact ⟨_,f2,_,_,_,HS5.out,hb5,hstep.1,rfl,hf2,hr2⟩
          case measure =>
           have hstep:=step_inv hl HI.out HMO.out;have hlt:=hstep.2;have hle2:=hstep.1.le;dsimp only at hlt hle2;rw [ScR.atW HS.out rfl,ScR.atW HS5.out (n:=i + n5) rfl];omega
        ·have hlt' : isLet (at0 l i) = false:=(by simpa using hlt);have hcl : ∀ W : World,Calls Tryz.prog 153 #[.int .u8 ((at0 l i).toNat:Int)] W fun e w' => e = .returned (.bool false)∧W = w':=fun W => by have:=letter_any (at0 l i) W; rwa [hlt'] at this
         have HCL:=hid hcl;have HLT:=hid hlt';clear hlt hlt' hcl;refine (HCL.out _).mono ?_;rintro e w8 ⟨rfl,rfl⟩;go_wp2_with fail
         by_cases hdg : isDig (at0 l i) = true
         ·as_aux_lemma =>
          have HLX:=hid (show lexTok (l.drop i) = lexNum (l.drop i) by unfold lexTok; rw [at0_drop,at0_drop,Nat.add_zero,if_neg (by rw [HQ.out]; decide),if_neg (by rw [HP.out,Bool.false_and]; decide),if_neg (by rw [HLT.out]; decide),if_pos hdg]);have hcd : ∀ W : World,Calls Tryz.prog 155 #[.int .u8 ((at0 l i).toNat:Int)] W fun e w' => e = .returned (.bool true)∧W = w':=fun W => by have:=digit_any (at0 l i) W; rwa [hdg] at this
          have HCD:=hid hcd;have HDG:=hid hdg;clear hdg hcd;refine (HCD.out _).mono ?_;rintro e w9 ⟨rfl,rfl⟩;go_wp2_with fail;refine (number_any HS4.out hl hil hb4 hts5 HDG.out).mono ?_;rintro e w5 hpost;rw [← HLX.out] at hpost;cases hr : lexTok (l.drop i) with
          | error x =>
           obtain ⟨c5,k5⟩:=x;rw [hr] at hpost;obtain ⟨rfl,hb5⟩:=hpost;have HFT:=hid (scan_fault HI.out.le HF.out HRR.out (HTK.out.trans (take_err hr)));clear hr;go_wp2_with fail;exact ⟨rfl,ScanPost.err HFT.out rfl rfl hb5⟩
          | ok x =>
           obtain ⟨k5,n5⟩:=x;have HMO:=hid (HTK.out.trans (take_ok hr (lexNum_kind (HLX.out ▸ hr))));rw [hr] at hpost;obtain ⟨vt5,rfl,hs5,hb5⟩:=hpost;have HS5:=hid hs5;clear hr hs5;go_wp2_with fail;go_roundw
           case rel =>
            have hstep:=step_inv hl HI.out HMO.out;obtain ⟨f2,hf2,hr2⟩:=scan_next HI.out.le HF.out HRR.out HMO.out hstep.2;exact ⟨_,f2,_,_,_,HS5.out,hb5,hstep.1,rfl,hf2,hr2⟩
           case measure =>
            have hstep:=step_inv hl HI.out HMO.out;have hlt:=hstep.2;have hle2:=hstep.1.le;dsimp only at hlt hle2;rw [ScR.atW HS.out rfl,ScR.atW HS5.out (n:=i + n5) rfl];omega
         ·as_aux_lemma =>
          have hdg' : isDig (at0 l i) = false:=(by simpa using hdg);have HLX:=hid (show lexTok (l.drop i) = lexSign (l.drop i) by unfold lexTok; rw [at0_drop,at0_drop,Nat.add_zero,if_neg (by rw [HQ.out]; decide),if_neg (by rw [HP.out,Bool.false_and]; decide),if_neg (by rw [HLT.out]; decide),if_neg (by rw [hdg']; decide)]);have hcd : ∀ W : World,Calls Tryz.prog 155 #[.int .u8 ((at0 l i).toNat:Int)] W fun e w' => e = .returned (.bool false)∧W = w':=fun W => by have:=digit_any (at0 l i) W; rwa [hdg'] at this
          have HCD:=hid hcd;clear hdg hdg' hcd;refine (HCD.out _).mono ?_;rintro e w9 ⟨rfl,rfl⟩;go_wp2_with fail;refine (sign_any HS4.out hl hil hb4 hts5 (by omega)).mono ?_;rintro e w5 hpost;rw [← HLX.out] at hpost;cases hr : lexTok (l.drop i) with
          | error x =>
           obtain ⟨c5,k5⟩:=x;rw [hr] at hpost;obtain ⟨rfl,hb5⟩:=hpost;have hz:=hr;rw [HLX.out] at hz;have hck : c5 = 1∧k5 = 0:=by
            unfold lexSign at hz;split at hz
            ·injection hz with hz;injection hz with h1 h2;exact ⟨h1.symm,h2.symm⟩
            ·simp at hz
           have HFT:=hid (scan_fault HI.out.le HF.out HRR.out (HTK.out.trans (take_err hr)));rw [hck.1,hck.2] at HFT;clear hr hz hck;go_wp2_with fail;exact ⟨rfl,ScanPost.err HFT.out (by simp) rfl hb5⟩
          | ok x =>
           obtain ⟨k5,n5⟩:=x;have hz:=hr;rw [HLX.out] at hz;have hk8 : k5 = 8:=by
            unfold lexSign at hz;split at hz
            ·simp at hz
            ·injection hz with hz;injection hz with h1 h2;exact h1.symm
           subst hk8;rw [hr] at hpost;cases hbk : bracket sop ((l.drop i).take n5) with
           | none =>
            have HFT:=hid (scan_fault HI.out.le HF.out HRR.out (HTK.out.trans (take_bad hr hbk)));simp only [SignPost,hbk] at hpost;obtain ⟨rfl,hb5⟩:=hpost;clear hr hz hbk;go_wp2_with fail;exact ⟨rfl,ScanPost.err HFT.out rfl rfl hb5⟩
           | some op5 =>
            have HMO:=hid (HTK.out.trans (take_sign hr hbk));simp only [SignPost,hbk] at hpost;obtain ⟨vo5,vt5,rfl,hs5,hb5⟩:=hpost;have HS5:=hid hs5;clear hr hz hbk hs5;go_wp2_with fail;go_roundw
            case rel =>
             have hstep:=step_inv hl HI.out HMO.out;obtain ⟨f2,hf2,hr2⟩:=scan_next HI.out.le HF.out HRR.out HMO.out hstep.2;exact ⟨_,f2,_,_,_,HS5.out,hb5,hstep.1,rfl,hf2,hr2⟩
            case measure =>
             have hstep:=step_inv hl HI.out HMO.out;have hlt:=hstep.2;have hle2:=hstep.1.le;dsimp only at hlt hle2;rw [ScR.atW HS.out rfl,ScR.atW HS5.out (n:=i + n5) rfl];omega
    | false =>
     have HTK:=hid (show stepS l ⟨sat,sind,sop,stk,false⟩ = takeTok l i ⟨sat,sind,sop,stk,false⟩ by
      rw [HST.out];unfold stepB;rw [if_neg hend,if_neg H10.out];rfl)
     -- a token is scanned
     have HR0:=hid (at0_drop l i 0);have HR1:=hid (at0_drop l i 1);go_wp2_with fail;refine (peek0S HS3.out hl hil hb3).mono ?_;rintro e w4 ⟨rfl,hs4,hb4⟩;have HS4:=hid hs4;clear hs4
     by_cases hq : isQuo (at0 l i) = true
     ·as_aux_lemma =>
      have HLX:=hid (show lexTok (l.drop i) = lexStr 0 (l.drop i) by unfold lexTok; rw [at0_drop,Nat.add_zero,if_pos hq]);have HQ:=hid hq;have hc' : at0 l i = 34∨at0 l i = 39:=(by simpa [isQuo] using hq);clear hq;rcases hc' with h34 | h39
      ·have c1:=eqb_t 34 34 rfl h34;clear h34;go_wp2_with fail;refine (quote_any HS4.out hl hb4 (by omega) 0 (.inl rfl) HQ.out).mono ?_;rintro e w5 hpost;rw [← HLX.out] at hpost;cases hr : lexTok (l.drop i) with
       | error x =>
        obtain ⟨c5,k5⟩:=x;rw [hr] at hpost;obtain ⟨rfl,hb5⟩:=hpost;have HFT:=hid (scan_fault HI.out.le HF.out HRR.out (HTK.out.trans (take_err hr)));clear hr;go_wp2_with fail;exact ⟨rfl,ScanPost.err HFT.out rfl rfl hb5⟩
       | ok x =>
        obtain ⟨k5,n5⟩:=x;have HMO:=hid (HTK.out.trans (take_ok hr (lexStr_kind (HLX.out ▸ hr))));rw [hr] at hpost;obtain ⟨vt5,rfl,hs5,hb5⟩:=hpost;have HS5:=hid hs5;clear hr hs5;go_wp2_with fail;go_roundw
        case rel =>
         have hstep:=step_inv hl HI.out HMO.out;obtain ⟨f2,hf2,hr2⟩:=scan_next HI.out.le HF.out HRR.out HMO.out hstep.2;exact ⟨_,f2,_,_,_,HS5.out,hb5,hstep.1,rfl,hf2,hr2⟩
        case measure =>
         have hstep:=step_inv hl HI.out HMO.out;have hlt:=hstep.2;have hle2:=hstep.1.le;dsimp only at hlt hle2;rw [ScR.atW HS.out rfl,ScR.atW HS5.out (n:=i + n5) rfl];omega
      ·have c1:=eqb_f 34 34 rfl (show at0 l i ≠ 34 by rw [h39]; decide);have c2:=eqb_t 39 39 rfl h39;clear h39;go_wp2_with fail;refine (quote_any HS4.out hl hb4 (by omega) 0 (.inl rfl) HQ.out).mono ?_;rintro e w5 hpost;rw [← HLX.out] at hpost;cases hr : lexTok (l.drop i) with
       | error x =>
        obtain ⟨c5,k5⟩:=x;rw [hr] at hpost;obtain ⟨rfl,hb5⟩:=hpost;have HFT:=hid (scan_fault HI.out.le HF.out HRR.out (HTK.out.trans (take_err hr)));clear hr;go_wp2_with fail;exact ⟨rfl,ScanPost.err HFT.out rfl rfl hb5⟩
       | ok x =>
        obtain ⟨k5,n5⟩:=x;have HMO:=hid (HTK.out.trans (take_ok hr (lexStr_kind (HLX.out ▸ hr))));rw [hr] at hpost;obtain ⟨vt5,rfl,hs5,hb5⟩:=hpost;have HS5:=hid hs5;clear hr hs5;go_wp2_with fail;go_roundw
        case rel =>
         have hstep:=step_inv hl HI.out HMO.out;obtain ⟨f2,hf2,hr2⟩:=scan_next HI.out.le HF.out HRR.out HMO.out hstep.2;exact ⟨_,f2,_,_,_,HS5.out,hb5,hstep.1,rfl,hf2,hr2⟩
        case measure =>
         have hstep:=step_inv hl HI.out HMO.out;have hlt:=hstep.2;have hle2:=hstep.1.le;dsimp only at hlt hle2;rw [ScR.atW HS.out rfl,ScR.atW HS5.out (n:=i + n5) rfl];omega
     ·have hq' : isQuo (at0 l i) = false:=(by simpa using hq);have hq2 : at0 l i ≠ 34∧at0 l i ≠ 39:=(by simpa [isQuo] using hq);have c1:=eqb_f 34 34 rfl hq2.1;have c2:=eqb_f 39 39 rfl hq2.2;have HQ:=hid hq';clear hq hq' hq2;go_wp2_with fail;refine (pre_calls _ _).mono ?_;rintro e w5 ⟨⟨v5,rfl,hv5⟩,rfl⟩
      by_cases hp : isPre (at0 l i) = true
      ·have HP:=hid hp;rw [hp] at hv5;clear hp;go_wp2_with fail;refine (peek1S HS4.out hl hil hb4).mono ?_;rintro e w6 ⟨rfl,hs6,hb6⟩;have HS6:=hid hs6;clear hs6
       by_cases h34 : at0 l (i + 1) = 34
       ·as_aux_lemma =>
        have d34:=eqb_t 34 34 rfl h34;have HQ1:=hid (show isQuo (at0 l (i + 1)) = true by rw [h34]; decide);have HLX:=hid (show lexTok (l.drop i) = lexStr 1 (l.drop i) by unfold lexTok; rw [at0_drop,at0_drop,Nat.add_zero,if_neg (by rw [HQ.out]; decide),if_pos (by rw [HP.out,HQ1.out]; rfl)]);clear h34;go_wp2_with fail;refine (quote_any HS6.out hl hb6 (by omega) 1 (.inr ⟨rfl,HP.out⟩) HQ1.out).mono ?_;rintro e w5 hpost;rw [← HLX.out] at hpost;cases hr : lexTok (l.drop i) with
        | error x =>
         obtain ⟨c5,k5⟩:=x;rw [hr] at hpost;obtain ⟨rfl,hb5⟩:=hpost;have HFT:=hid (scan_fault HI.out.le HF.out HRR.out (HTK.out.trans (take_err hr)));clear hr;go_wp2_with fail;exact ⟨rfl,ScanPost.err HFT.out rfl rfl hb5⟩
        | ok x =>
         obtain ⟨k5,n5⟩:=x;have HMO:=hid (HTK.out.trans (take_ok hr (lexStr_kind (HLX.out ▸ hr))));rw [hr] at hpost;obtain ⟨vt5,rfl,hs5,hb5⟩:=hpost;have HS5:=hid hs5;clear hr hs5;go_wp2_with fail;go_roundw
         case rel =>
          have hstep:=step_inv hl HI.out HMO.out;obtain ⟨f2,hf2,hr2⟩:=scan_next HI.out.le HF.out HRR.out HMO.out hstep.2;exact ⟨_,f2,_,_,_,HS5.out,hb5,hstep.1,rfl,hf2,hr2⟩
         case measure =>
          have hstep:=step_inv hl HI.out HMO.out;have hlt:=hstep.2;have hle2:=hstep.1.le;dsimp only at hlt hle2;rw [ScR.atW HS.out rfl,ScR.atW HS5.out (n:=i + n5) rfl];omega
       ·have d34:=eqb_f 34 34 rfl h34;go_wp2_with fail;refine (peek1S HS6.out hl hil hb6).mono ?_;rintro e w7 ⟨rfl,hs7,hb7⟩;have HS7:=hid hs7;clear hs7
        by_cases h39 : at0 l (i + 1) = 39
        ·as_aux_lemma =>
         have d39:=eqb_t 39 39 rfl h39;have HQ1:=hid (show isQuo (at0 l (i + 1)) = true by rw [h39]; decide);have HLX:=hid (show lexTok (l.drop i) = lexStr 1 (l.drop i) by unfold lexTok; rw [at0_drop,at0_drop,Nat.add_zero,if_neg (by rw [HQ.out]; decide),if_pos (by rw [HP.out,HQ1.out]; rfl)]);clear h39 h34;go_wp2_with fail;refine (quote_any HS7.out hl hb7 (by omega) 1 (.inr ⟨rfl,HP.out⟩) HQ1.out).mono ?_;rintro e w5 hpost;rw [← HLX.out] at hpost;cases hr : lexTok (l.drop i) with
         | error x =>
          obtain ⟨c5,k5⟩:=x;rw [hr] at hpost;obtain ⟨rfl,hb5⟩:=hpost;have HFT:=hid (scan_fault HI.out.le HF.out HRR.out (HTK.out.trans (take_err hr)));clear hr;go_wp2_with fail;exact ⟨rfl,ScanPost.err HFT.out rfl rfl hb5⟩
         | ok x =>
          obtain ⟨k5,n5⟩:=x;have HMO:=hid (HTK.out.trans (take_ok hr (lexStr_kind (HLX.out ▸ hr))));rw [hr] at hpost;obtain ⟨vt5,rfl,hs5,hb5⟩:=hpost;have HS5:=hid hs5;clear hr hs5;go_wp2_with fail;go_roundw
          case rel =>
           have hstep:=step_inv hl HI.out HMO.out;obtain ⟨f2,hf2,hr2⟩:=scan_next HI.out.le HF.out HRR.out HMO.out hstep.2;exact ⟨_,f2,_,_,_,HS5.out,hb5,hstep.1,rfl,hf2,hr2⟩
          case measure =>
           have hstep:=step_inv hl HI.out HMO.out;have hlt:=hstep.2;have hle2:=hstep.1.le;dsimp only at hlt hle2;rw [ScR.atW HS.out rfl,ScR.atW HS5.out (n:=i + n5) rfl];omega
        ·as_aux_lemma =>
         have d39:=eqb_f 39 39 rfl h39;have hq1 : isQuo (at0 l (i + 1)) = false:=(by simp [isQuo,h34,h39]);have hlt:=isPre_let _ HP.out;have HLX:=hid (show lexTok (l.drop i) = lexName (l.drop i) by unfold lexTok; rw [at0_drop,at0_drop,Nat.add_zero,if_neg (by rw [HQ.out]; decide),if_neg (by rw [hq1,Bool.and_false]; decide),if_pos hlt]);have hcl : ∀ W : World,Calls Tryz.prog 153 #[.int .u8 ((at0 l i).toNat:Int)] W fun e w' => e = .returned (.bool true)∧W = w':=fun W => by have:=letter_any (at0 l i) W; rwa [hlt] at this
         have HCL:=hid hcl;clear h39 h34 hq1 hlt hcl;go_wp2_with fail;refine (HCL.out _).mono ?_;rintro e w8 ⟨rfl,rfl⟩;go_wp2_with fail;refine (name_any HS7.out hl hil hb7 (by omega)).mono ?_;rintro e w5 hpost;rw [← HLX.out] at hpost;cases hr : lexTok (l.drop i) with
         | error x =>
          obtain ⟨c5,k5⟩:=x;rw [hr] at hpost;obtain ⟨rfl,hb5⟩:=hpost;have HFT:=hid (scan_fault HI.out.le HF.out HRR.out (HTK.out.trans (take_err hr)));clear hr;go_wp2_with fail;exact ⟨rfl,ScanPost.err HFT.out rfl rfl hb5⟩
         | ok x =>
          obtain ⟨k5,n5⟩:=x;have HMO:=hid (HTK.out.trans (take_ok hr (lexName_kind (HLX.out ▸ hr))));rw [hr] at hpost;obtain ⟨vt5,rfl,hs5,hb5⟩:=hpost;have HS5:=hid hs5;clear hr hs5;go_wp2_with fail;go_roundw
          case rel =>
           have hstep:=step_inv hl HI.out HMO.out;obtain ⟨f2,hf2,hr2⟩:=scan_next HI.out.le HF.out HRR.out HMO.out hstep.2;exact ⟨_,f2,_,_,_,HS5.out,hb5,hstep.1,rfl,hf2,hr2⟩
          case measure =>
           have hstep:=step_inv hl HI.out HMO.out;have hlt:=hstep.2;have hle2:=hstep.1.le;dsimp only at hlt hle2;rw [ScR.atW HS.out rfl,ScR.atW HS5.out (n:=i + n5) rfl];omega
      ·have hp' : isPre (at0 l i) = false:=(by simpa using hp);have HP:=hid hp';rw [hp'] at hv5;clear hp hp';go_wp2_with fail
       by_cases hlt : isLet (at0 l i) = true
       ·as_aux_lemma =>
        have HLX:=hid (show lexTok (l.drop i) = lexName (l.drop i) by unfold lexTok; rw [at0_drop,at0_drop,Nat.add_zero,if_neg (by rw [HQ.out]; decide),if_neg (by rw [HP.out,Bool.false_and]; decide),if_pos hlt]);have hcl : ∀ W : World,Calls Tryz.prog 153 #[.int .u8 ((at0 l i).toNat:Int)] W fun e w' => e = .returned (.bool true)∧W = w':=fun W => by have:=letter_any (at0 l i) W; rwa [hlt] at this
        have HCL:=hid hcl;clear hlt hcl;refine (HCL.out _).mono ?_;rintro e w8 ⟨rfl,rfl⟩;go_wp2_with fail;refine (name_any HS4.out hl hil hb4 (by omega)).mono ?_;rintro e w5 hpost;rw [← HLX.out] at hpost;cases hr : lexTok (l.drop i) with
        | error x =>
         obtain ⟨c5,k5⟩:=x;rw [hr] at hpost;obtain ⟨rfl,hb5⟩:=hpost;have HFT:=hid (scan_fault HI.out.le HF.out HRR.out (HTK.out.trans (take_err hr)));clear hr;go_wp2_with fail;exact ⟨rfl,ScanPost.err HFT.out rfl rfl hb5⟩
        | ok x =>
         obtain ⟨k5,n5⟩:=x;have HMO:=hid (HTK.out.trans (take_ok hr (lexName_kind (HLX.out ▸ hr))));rw [hr] at hpost;obtain ⟨vt5,rfl,hs5,hb5⟩:=hpost;have HS5:=hid hs5;clear hr hs5;go_wp2_with fail;go_roundw
         case rel =>
          have hstep:=step_inv hl HI.out HMO.out;obtain ⟨f2,hf2,hr2⟩:=scan_next HI.out.le HF.out HRR.out HMO.out hstep.2;exact ⟨_,f2,_,_,_,HS5.out,hb5,hstep.1,rfl,hf2,hr2⟩
         case measure =>
          have hstep:=step_inv hl HI.out HMO.out;have hlt:=hstep.2;have hle2:=hstep.1.le;dsimp only at hlt hle2;rw [ScR.atW HS.out rfl,ScR.atW HS5.out (n:=i + n5) rfl];omega
       ·have hlt' : isLet (at0 l i) = false:=(by simpa using hlt);have hcl : ∀ W : World,Calls Tryz.prog 153 #[.int .u8 ((at0 l i).toNat:Int)] W fun e w' => e = .returned (.bool false)∧W = w':=fun W => by have:=letter_any (at0 l i) W; rwa [hlt'] at this
        have HCL:=hid hcl;have HLT:=hid hlt';clear hlt hlt' hcl;refine (HCL.out _).mono ?_;rintro e w8 ⟨rfl,rfl⟩;go_wp2_with fail
        by_cases hdg : isDig (at0 l i) = true
        ·as_aux_lemma =>
         have HLX:=hid (show lexTok (l.drop i) = lexNum (l.drop i) by unfold lexTok; rw [at0_drop,at0_drop,Nat.add_zero,if_neg (by rw [HQ.out]; decide),if_neg (by rw [HP.out,Bool.false_and]; decide),if_neg (by rw [HLT.out]; decide),if_pos hdg]);have hcd : ∀ W : World,Calls Tryz.prog 155 #[.int .u8 ((at0 l i).toNat:Int)] W fun e w' => e = .returned (.bool true)∧W = w':=fun W => by have:=digit_any (at0 l i) W; rwa [hdg] at this
         have HCD:=hid hcd;have HDG:=hid hdg;clear hdg hcd;refine (HCD.out _).mono ?_;rintro e w9 ⟨rfl,rfl⟩;go_wp2_with fail;refine (number_any HS4.out hl hil hb4 (by omega) HDG.out).mono ?_;rintro e w5 hpost;rw [← HLX.out] at hpost;cases hr : lexTok (l.drop i) with
         | error x =>
          obtain ⟨c5,k5⟩:=x;rw [hr] at hpost;obtain ⟨rfl,hb5⟩:=hpost;have HFT:=hid (scan_fault HI.out.le HF.out HRR.out (HTK.out.trans (take_err hr)));clear hr;go_wp2_with fail;exact ⟨rfl,ScanPost.err HFT.out rfl rfl hb5⟩
         | ok x =>
          obtain ⟨k5,n5⟩:=x;have HMO:=hid (HTK.out.trans (take_ok hr (lexNum_kind (HLX.out ▸ hr))));rw [hr] at hpost;obtain ⟨vt5,rfl,hs5,hb5⟩:=hpost;have HS5:=hid hs5;clear hr hs5;go_wp2_with fail;go_roundw
          case rel =>
           have hstep:=step_inv hl HI.out HMO.out;obtain ⟨f2,hf2,hr2⟩:=scan_next HI.out.le HF.out HRR.out HMO.out hstep.2;exact ⟨_,f2,_,_,_,HS5.out,hb5,hstep.1,rfl,hf2,hr2⟩
          case measure =>
           have hstep:=step_inv hl HI.out HMO.out;have hlt:=hstep.2;have hle2:=hstep.1.le;dsimp only at hlt hle2;rw [ScR.atW HS.out rfl,ScR.atW HS5.out (n:=i + n5) rfl];omega
        ·as_aux_lemma =>
         have hdg' : isDig (at0 l i) = false:=(by simpa using hdg);have HLX:=hid (show lexTok (l.drop i) = lexSign (l.drop i) by unfold lexTok; rw [at0_drop,at0_drop,Nat.add_zero,if_neg (by rw [HQ.out]; decide),if_neg (by rw [HP.out,Bool.false_and]; decide),if_neg (by rw [HLT.out]; decide),if_neg (by rw [hdg']; decide)]);have hcd : ∀ W : World,Calls Tryz.prog 155 #[.int .u8 ((at0 l i).toNat:Int)] W fun e w' => e = .returned (.bool false)∧W = w':=fun W => by have:=digit_any (at0 l i) W; rwa [hdg'] at this
         have HCD:=hid hcd;clear hdg hdg' hcd;refine (HCD.out _).mono ?_;rintro e w9 ⟨rfl,rfl⟩;go_wp2_with fail;refine (sign_any HS4.out hl hil hb4 (by omega) (by omega)).mono ?_;rintro e w5 hpost;rw [← HLX.out] at hpost;cases hr : lexTok (l.drop i) with
         | error x =>
          obtain ⟨c5,k5⟩:=x;rw [hr] at hpost;obtain ⟨rfl,hb5⟩:=hpost;have hz:=hr;rw [HLX.out] at hz;have hck : c5 = 1∧k5 = 0:=by
           unfold lexSign at hz;split at hz
           ·injection hz with hz;injection hz with h1 h2;exact ⟨h1.symm,h2.symm⟩
           ·simp at hz
          have HFT:=hid (scan_fault HI.out.le HF.out HRR.out (HTK.out.trans (take_err hr)));rw [hck.1,hck.2] at HFT;clear hr hz hck;go_wp2_with fail;exact ⟨rfl,ScanPost.err HFT.out (by simp) rfl hb5⟩
         | ok x =>
          obtain ⟨k5,n5⟩:=x;have hz:=hr;rw [HLX.out] at hz;have hk8 : k5 = 8:=by
           unfold lexSign at hz;split at hz
           ·simp at hz
           ·injection hz with hz;injection hz with h1 h2;exact h1.symm
          subst hk8;rw [hr] at hpost;cases hbk : bracket sop ((l.drop i).take n5) with
          | none =>
           have HFT:=hid (scan_fault HI.out.le HF.out HRR.out (HTK.out.trans (take_bad hr hbk)));simp only [SignPost,hbk] at hpost;obtain ⟨rfl,hb5⟩:=hpost;clear hr hz hbk;go_wp2_with fail;exact ⟨rfl,ScanPost.err HFT.out rfl rfl hb5⟩
          | some op5 =>
           have HMO:=hid (HTK.out.trans (take_sign hr hbk));simp only [SignPost,hbk] at hpost;obtain ⟨vo5,vt5,rfl,hs5,hb5⟩:=hpost;have HS5:=hid hs5;clear hr hz hbk hs5;go_wp2_with fail;go_roundw
           case rel =>
            have hstep:=step_inv hl HI.out HMO.out;obtain ⟨f2,hf2,hr2⟩:=scan_next HI.out.le HF.out HRR.out HMO.out hstep.2;exact ⟨_,f2,_,_,_,HS5.out,hb5,hstep.1,rfl,hf2,hr2⟩
           case measure =>
            have hstep:=step_inv hl HI.out HMO.out;have hlt:=hstep.2;have hle2:=hstep.1.le;dsimp only at hlt hle2;rw [ScR.atW HS.out rfl,ScR.atW HS5.out (n:=i + n5) rfl];omega
end Go.Proofs.YtonehlkiackhcaaGreatDoor
