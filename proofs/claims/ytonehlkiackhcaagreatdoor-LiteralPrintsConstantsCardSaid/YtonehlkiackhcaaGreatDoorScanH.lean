/- The scanner's function quote: the string or the fault. Nothing is claimed here. -/
import Derived.Test.YtonehlkiackhcaaGreatDoorScanG
set_option linter.unusedVariables false
set_option linter.unusedSimpArgs false
set_option maxRecDepth 100000
set_option maxHeartbeats 16000000
namespace Go.Proofs.YtonehlkiackhcaaGreatDoor
open Go.RowKit Go.Shelf Go.Lib Go.Maps Go.Sort
attribute [local go_sem] steady
def three : List UInt8:=[34,34,34]
def quoAt (l : List UInt8) (j:Nat) : List UInt8:=if three.isPrefixOf (l.drop j) then three else [at0 l j]
theorem isPrefixOf_take (q r : List UInt8) : (r.take q.length = q) ↔ q.isPrefixOf r = true:=by
 rw [List.isPrefixOf_iff_prefix,List.prefix_iff_eq_take];exact ⟨fun h => h.symm,fun h => h.symm⟩
theorem take_one (l : List UInt8) (j:Nat) (h : j < l.length) : (l.drop j).take 1 = [at0 l j]:=by rw [drop_at l j h]; rfl
theorem quotes_at (l : List UInt8) (j:Nat) (h : j < l.length) : quotes (l.drop j) = quoAt l j:=by
 have t1:=take_one l j h;unfold quotes quoAt;rw [t1]
 by_cases h3 : (l.drop j).take 3 = [34,34,34]
 ·rw [if_pos h3,if_pos ((isPrefixOf_take three _).1 h3)];rfl
 ·rw [if_neg h3,if_neg (fun e => h3 ((isPrefixOf_take three _).2 e))]
theorem quoAt_shape (l : List UInt8) (j:Nat) (h : isQuo (at0 l j) = true) : (∀ c ∈ quoAt l j,c ≠ 10)∧((quoAt l j).length = 1∨(quoAt l j).length = 3)∧(quoAt l j).isPrefixOf (l.drop j) = true:=by
 have hlt : j < l.length:=at0_pos (by intro e; rw [e] at h; exact absurd h (by decide));have hn : at0 l j ≠ 10:=by intro e; rw [e] at h; exact absurd h (by decide)
 unfold quoAt;split
 ·exact ⟨by decide,.inr rfl,by assumption⟩
 ·refine ⟨?_,.inl rfl,?_⟩
  ·intro c hc;rw [List.mem_singleton.1 hc];exact hn
  ·rw [drop_at l j hlt];simp [List.isPrefixOf]
theorem pre_line {q l : List UInt8} {j : Nat} (hq : ∀ c ∈ q,c ≠ 10) (h : q.isPrefixOf (l.drop j) = true) (hj : j ≤ l.length) : j + q.length ≤ l.length∧lineAt l (j + q.length) = lineAt l j∧bol l (j + q.length) = bol l j:=by
 have h1:=(List.isPrefixOf_iff_prefix.1 h);have h2:=h1.length_le;rw [List.length_drop] at h2;have h3 : j + q.length ≤ l.length:=by omega
 refine ⟨h3,same_line l j q.length h3 fun i hi => ?_⟩;rw [← at0_drop,at0_lt _ _ (by rw [List.length_drop]; omega),← h1.getElem hi];exact hq _ (List.getElem_mem hi)
def rawAt (l : List UInt8) (p at_:Nat) : Bool:=decide (0 < p) && at0 l at_ == 114
def endAt (l : List UInt8) (p at_:Nat) : Except (Int × Nat) Nat:=strEnd (quoAt l (at_ + p)) (rawAt l p at_) (l.drop (at_ + p + (quoAt l (at_ + p)).length)) false (p + (quoAt l (at_ + p)).length)
theorem lexStr_at (l : List UInt8) (p at_:Nat) (h : at_ + p < l.length) : lexStr p (l.drop at_) = match endAt l p at_ with
  | .error e => .error e
  | .ok n => .ok (7,n):=by
 unfold lexStr endAt rawAt;rw [List.drop_drop,quotes_at l _ h,List.drop_drop,at0_drop,Nat.add_zero,← Nat.add_assoc] <;> rfl
def QRel (a : World) (B g:Nat) (l : List UInt8) (at_:Nat) (ind : List Nat) (op : List UInt8) (ts : List Tok) (vi vo vt : Value) (m:Nat) (vs : Value) (q : List UInt8) (raw : Bool) (E : Except (Int × Nat) Nat) (w' : World) : Prop :=
 ∃ j,at_ ≤ j∧j ≤ l.length∧strEnd q raw (l.drop j) false (j - at_) = E∧Sc w' B g l j ind op ts vi vo vt m vs∧Below B a w'
theorem quote_any {a w : World} {B g : Nat} {l : List UInt8} {at_ : Nat} {ind : List Nat} {op : List UInt8} {ts : List Tok} {vi vo vt : Value} {m : Nat} {vs : Value} (h : Sc w B g l at_ ind op ts vi vo vt m vs) (hl : l.length ≤ 16000) (hb : Below B a w) (hts : ts.length ≤ 1000000)
  (p:Nat) (hp : p = 0∨(p = 1∧isPre (at0 l at_) = true)) (hq : isQuo (at0 l (at_ + p)) = true) :
  Calls Tryz.prog 152 #[.pointer (some ⟨g,0,none⟩),.int .i64 (p:Int)] w (LexPost a B g l at_ ind op ts vi vo m vs (lexStr p (l.drop at_))):=by
 have hlt : at_ + p < l.length:=at0_pos (by intro e; rw [e] at hq; exact absurd hq (by decide));have hp1 : p ≤ 1:=by omega
 have HLEX:=hid (lexStr_at l p at_ hlt);obtain ⟨L,hL⟩ : ∃ L,lineAt l at_ = L:=⟨_,rfl⟩;obtain ⟨bb,hbb⟩ : ∃ bb,bol l at_ = bb:=⟨_,rfl⟩;have HL:=hid hL;have HBB:=hid hbb;have HH:=hid h;have h0:=h;unfold Sc scCells at h0;rw [hL,hbb] at h0;obtain ⟨q1,q2,q3⟩:=h0.blk.rules;clear h h0 hL hbb;have HP:=hid hp;have HQ:=hid hq;clear hp hq;go_enter Tryz.func152,Tryz.ntmps152;go_wp2_with fail;go_quiet (fail);have HS1 : Hid (Sc (w.drewN nq) B g l at_ ind op ts vi vo vt m vs):=hid (ScR.drewN HH.out nq);have hb1:=below_drewN hb nq;generalize w.drewN nq = w1 at HS1 hb1 ⊢;clear q1 q2 q3 hb HH
 go_upto_region 1 with fail
 go_cut [7] (fun s7 wx => s7 = .bool (rawAt l p at_)∧Sc wx B g l at_ ind op ts vi vo vt m vs∧Below B a wx)
 case first =>
  have hs1:=HS1.out;unfold Sc scCells at hs1;obtain ⟨q1,q2,q3⟩:=hs1.blk.rules;clear hs1;rcases HP.out with rfl | ⟨rfl,_⟩
  ·have HR:=hid (show rawAt l 0 at_ = false from rfl);go_wp2_with fail;go_meet;exact ⟨by rw [HR.out],HS1.out,hb1⟩
  ·have hix:=run_idx l at_ (by omega) (at_:Int) rfl
   by_cases hr : at0 l at_ = 114
   ·have HR:=hid (show rawAt l 1 at_ = true by unfold rawAt; rw [hr]; rfl);have hc:=eqb_t 114 114 rfl hr;clear hr;go_wp2_with fail;go_meet;exact ⟨by rw [HR.out],HS1.out,hb1⟩
   ·have HR:=hid (show rawAt l 1 at_ = false by unfold rawAt; simpa using hr);have hc:=eqb_f 114 114 rfl hr;clear hr;go_wp2_with fail;go_meet;exact ⟨by rw [HR.out],HS1.out,hb1⟩
 case rest =>
  obtain ⟨rfl,hs2,hb2⟩:=hcut;clear HS1 hb1;obtain ⟨j,hj⟩ : ∃ j,at_ + p = j:=⟨_,rfl⟩;have hcast : (at_:Int) + (p:Int) = (j:Int):=(by omega);have HQ':=HQ.out;rw [hj] at HQ' hlt;have HQ2:=hid HQ';have HLEX':=HLEX.out;have hlines : lineAt l j = lineAt l at_∧bol l j = bol l at_:=by
   rcases HP.out with rfl | ⟨rfl,hpre⟩
   ·rw [← hj]; exact ⟨rfl,rfl⟩
   ·rw [← hj];have hn : at0 l at_ ≠ 10:=(by intro e; rw [e] at hpre; exact absurd hpre (by decide));exact ⟨line_same l at_ (by omega) hn,bol_same l at_ (by omega) hn⟩
  have HS3 : Hid (Sc (wc.setCell ⟨g,1,none⟩ (.int .i64 (j:Int))) B g l j ind op ts vi vo vt m vs):=hid (by
   unfold Sc scCells at hs2 ⊢;rw [hlines.1,hlines.2];exact hs2.set 1 (.int .i64 (j:Int)))
  have hb3:=hb2.setCell (p:=⟨g,1,none⟩) hs2.ge (.int .i64 (j:Int));unfold Sc scCells at hs2;obtain ⟨q1,q2,q3⟩:=hs2.blk.rules;have HRW:=hid (rfl : rawAt l p at_ = rawAt l p at_);obtain ⟨raw,hraw⟩ : ∃ raw,rawAt l p at_ = raw:=⟨_,rfl⟩;rw [hraw];have hshape:=quoAt_shape l j HQ2.out;obtain ⟨C,hC⟩ : ∃ C,at0 l j = C:=⟨_,rfl⟩;have hC' : C = 34∨C = 39:=(by have:=HQ2.out; rw [hC] at this; simpa [isQuo] using this);have hone:=take_one l j hlt;rw [hC] at hone;have HONE:=hid hone;have hsub:=run_sub l j (j + 1) (by omega) hlt (j:Int) ((j:Int) + 1) rfl (by omega);rw [show j + 1 - j = 1 by omega,hone] at hsub;have HC:=hid hC;have HC':=hid hC';have HJ:=hid hj;have HRAW:=hid hraw;have HSH:=hid hshape;clear HQ' HLEX' hlines hs2 hraw hshape hC hC' hone hj hb2 HQ HRW
  go_upto_region 3 with fail
  generalize wc.setCell ⟨g,1,none⟩ (.int .i64 (j:Int)) = w3 at HS3 hb3 ⊢;clear q1 q2 q3;have hs3:=HS3.out;unfold Sc scCells at hs3;obtain ⟨q1,q2,q3⟩:=hs3.blk.rules;clear hs3;go_quiet (fail);have HS4 : Hid (Sc (w3.drewN nq) B g l j ind op ts vi vo vt m vs):=hid (ScR.drewN HS3.out nq);have hb4:=below_drewN hb3 nq;generalize w3.drewN nq = w4 at HS4 hb4 ⊢;clear q1 q2 q3 HS3 hb3 hsub
  go_upto_region 4 with fail
  go_cut [68] (fun s wx => s = .bool (three.isPrefixOf (l.drop j))∧Sc wx B g l j ind op ts vi vo vt m vs∧Below B a wx)
  case first =>
   have hs4:=HS4.out;unfold Sc scCells at hs4;obtain ⟨q1,q2,q3⟩:=hs4.blk.rules;clear hs4;rcases HC'.out with rfl | rfl
   ·have htail:=run_tail l j (by omega) (j:Int) rfl;have hpre : ∀ W : World,Calls Tryz.prog 39 #[.string ⟨(l.drop j).toArray⟩,.string ⟨#[34,34,34]⟩] W fun e w' => e = .returned (.bool (three.isPrefixOf (l.drop j)))∧W = w':=fun W => (Tryz.strings_HasPrefix ⟨(l.drop j).toArray⟩ ⟨#[34,34,34]⟩ W).mono fun _ _ h => ⟨h.1,h.2.symm⟩;have HPRE:=hid hpre;clear hpre;go_quiet ((go_at_call 39; exact quiet_left (HPRE.out _)));go_wp2_with fail;go_meet;exact ⟨rfl,ScR.drewN HS4.out _,below_drewN hb4 _⟩
   ·have hno : three.isPrefixOf (l.drop j) = false:=by
     rw [drop_at l j hlt,HC.out];rfl
    have HNO:=hid hno;clear hno;go_quiet (fail);go_wp2_with fail;go_meet;exact ⟨by rw [HNO.out],ScR.drewN HS4.out _,below_drewN hb4 _⟩
  case rest =>
   obtain ⟨rfl,hs5,hb5⟩:=hcut;have HS5:=hid hs5;clear hs5 HS4 hb4
   go_upto_if 68 with fail
   go_cut [8] (fun s wx => s = .string ⟨(quoAt l j).toArray⟩∧Sc wx B g l j ind op ts vi vo vt m vs∧Below B a wx)
   case first =>
    by_cases h3 : three.isPrefixOf (l.drop j) = true
    ·have HQA:=hid (show quoAt l j = three by unfold quoAt; rw [if_pos h3]);have H3:=hid h3;rw [h3];clear h3;go_wp2_with fail;go_meet;exact ⟨by rw [HQA.out]; rfl,HS5.out,hb5⟩
    ·have h3' : three.isPrefixOf (l.drop j) = false:=Bool.eq_false_iff.2 h3;have HQA:=hid (show quoAt l j = [C] by unfold quoAt; rw [if_neg h3,HC.out]);rw [h3'];clear h3 h3';go_wp2_with fail;go_meet;exact ⟨by rw [HQA.out],HS5.out,hb5⟩
   case rest =>
    obtain ⟨rfl,hs6,hb6⟩:=hcut;have HS6:=hid hs6;clear hs6 HS5 hb5;obtain ⟨Q,hQ⟩ : ∃ Q,quoAt l j = Q:=⟨_,rfl⟩;obtain ⟨E,hE⟩ : ∃ E,endAt l p at_ = E:=⟨_,rfl⟩;have hsh:=HSH.out;rw [hQ] at hsh ⊢;obtain ⟨hsh1,hsh2,hsh3⟩:=hsh;have hpl:=pre_line hsh1 hsh3 (by omega);have hE':=hE;unfold endAt at hE';rw [HJ.out,HRAW.out,hQ] at hE';have hlex:=HLEX.out;rw [hE] at hlex;have HLE:=hid hlex;have HE':=hid hE';have HSH1:=hid hsh1;obtain ⟨j2,hj2⟩ : ∃ j2,j + Q.length = j2:=⟨_,rfl⟩;have hjc : (j:Int) + (Q.length:Int) = (j2:Int):=(by omega);have hs6:=HS6.out;have hge6:=hs6.ge;have HS7 : Hid (Sc (wc.setCell ⟨g,1,none⟩ (.int .i64 (j2:Int))) B g l j2 ind op ts vi vo vt m vs):=hid (by
     unfold Sc scCells at hs6 ⊢;rw [← hj2,hpl.2.1,hpl.2.2];exact hs6.set 1 (.int .i64 ((j + Q.length:Nat):Int)))
    have hb7:=hb6.setCell (p:=⟨g,1,none⟩) hge6 (.int .i64 (j2:Int));have hj2le : j2 ≤ l.length:=(by omega);have hej : strEnd Q raw (l.drop j2) false (j2 - at_) = E:=by
     rw [← hE',← hj2,← HJ.out]
     congr 1
     omega
    have HEJ:=hid hej;have hat2 : at_ ≤ j2:=(by omega);unfold Sc scCells at hs6;obtain ⟨q1,q2,q3⟩:=hs6.blk.rules;clear hE' hlex hsh1 hsh3 hpl hs6 hej hE hQ HLEX;go_wp2_with fail
    go_loopw [89] (fun _ wr => QRel a B g l at_ ind op ts vi vo vt m vs Q raw E wr) (fun _ wr => l.length - atW g wr)
    case atStart => exact ⟨j2,hat2,hj2le,HEJ.out,HS7.out,hb7⟩
    case round =>
     clear q1 q2 q3 HS7 hb7 HS6 hb6 HEJ HE' hjc hj2 hj2le hat2;obtain ⟨k,hk1,hk2,hk3,hs,hbr⟩:=hrel;have HK3:=hid hk3;have HS:=hid hs;have hge:=hs.ge;unfold Sc scCells at hs;obtain ⟨q1,q2,q3⟩:=hs.blk.rules;have htail:=run_tail l k hk2 (k:Int) rfl;clear hk3 hs;have hpre : ∀ W : World,Calls Tryz.prog 39 #[.string ⟨(l.drop k).toArray⟩,.string ⟨Q.toArray⟩] W fun e w' => e = .returned (.bool (Q.isPrefixOf (l.drop k)))∧W = w':=fun W => (Tryz.strings_HasPrefix ⟨(l.drop k).toArray⟩ ⟨Q.toArray⟩ W).mono fun _ _ h => ⟨h.1,h.2.symm⟩
     by_cases hP : Q.isPrefixOf (l.drop k) = true
     ·as_aux_lemma =>
      rw [hP] at hpre;have HPRE:=hid hpre;have HPP:=hid hP;obtain ⟨k2,hk2'⟩ : ∃ k2,k + Q.length = k2:=⟨_,rfl⟩;have hkc : (k:Int) + (Q.length:Int) = (k2:Int):=(by omega);have HKC:=hid hk2';clear hpre hP hk2';go_wp2_with fail;go_quiet ((go_at_call 39; exact quiet_left (HPRE.out _)));go_wp2_with fail;have hpk:=pre_line HSH1.out HPP.out hk2;rw [HKC.out] at hpk;have hak2 : at_ ≤ k2:=(by omega);have hge5:=(HS.out.drewN nq).ge;have HS5 : Hid (Sc ((wr.drewN nq).setCell ⟨g,1,none⟩ (.int .i64 (k2:Int))) B g l k2 ind op ts vi vo vt m vs):=hid (by
       have:=HS.out.drewN nq;unfold scCells at this;unfold Sc scCells;rw [hpk.2.1,hpk.2.2];exact this.set 1 (.int .i64 (k2:Int)))
      have hb5:=(below_drewN hbr nq).setCell (p:=⟨g,1,none⟩) hge5 (.int .i64 (k2:Int));generalize (wr.drewN nq).setCell ⟨g,1,none⟩ (.int .i64 (k2:Int)) = w5 at HS5 hb5 ⊢;have hk2le:=hpk.1;have HR:=hid (show lexStr p (l.drop at_) = .ok (7,k2 - at_) by
       have hkc:=HKC.out;rw [HLE.out,← HK3.out,se_pre Q raw (by rcases hsh2 with h | h <;> omega) l k _ HPP.out,show k - at_ + Q.length = k2 - at_ by omega])
      clear q1 q2 q3 hpk htail hkc HPRE HPP HKC HK3 hbr hge HS hge5;obtain ⟨i0,hi0,hz0,hz1,hz2⟩:=info_parts info_tok;have hcb:=col_bound l at_;have hln:=line_text l at_ (by omega);have hble:=bol_le l at_;have hcol : colAt l at_ = ((runeCountL (tailNl (l.take at_)):Nat):Int) + 1:=rfl;obtain ⟨rc,hrc⟩ : ∃ rc,runeCountL (tailNl (l.take at_)) = rc:=⟨_,rfl⟩;rw [hrc] at hcol;rw [hcol] at hcb;obtain ⟨t,ht⟩ : ∃ t,(l.drop at_).take (k2 - at_) = t:=⟨_,rfl⟩;have HT:=hid (show tokc (tokAt l 7 t at_) = [.int .i64 7,.string ⟨t.toArray⟩,.int .i64 L,.int .i64 ((rc:Int) + 1)] by unfold tokAt tokc; rw [hcol,HL.out]);rw [HBB.out] at hln hble;have hsb:=run_sub l bb at_ hble (by omega) (bb:Int) (at_:Int) rfl rfl;rw [hln] at hsb;have hst:=run_sub l at_ k2 (by omega) hk2le (at_:Int) (k2:Int) rfl rfl;rw [ht] at hst;have hrcc : ∀ W : World,Calls Tryz.prog 186 #[.string ⟨(tailNl (l.take at_)).toArray⟩] W fun e w' => e = .returned (.int .i64 (rc:Int))∧Below W.heap.size W w':=fun W => by
       have:=rcount_any (tailNl (l.take at_)) W (by rw [← hln,List.length_take,List.length_drop]; omega)
       rwa [hrc] at this
      have HRC:=hid hrcc;generalize tailNl (l.take at_) = tl at *
      have e1 : IntKind.i64.wrap ((rc:Int) + 1) = (rc:Int) + 1:=IntWalk.i64_in _ (by omega);have hlen : ((ts ++ [tokAt l 7 t at_]).flatMap tokc) = ts.flatMap tokc ++ [.int .i64 7,.string ⟨t.toArray⟩,.int .i64 L,.int .i64 ((rc:Int) + 1)]:=(by rw [List.flatMap_append,List.flatMap_singleton,HT.out]);have HLEN:=hid hlen;obtain ⟨L2,hL2⟩ : ∃ L2,lineAt l k2 = L2:=⟨_,rfl⟩;obtain ⟨bb2,hbb2⟩ : ∃ bb2,bol l k2 = bb2:=⟨_,rfl⟩;have h:=HS5.out;unfold Sc scCells at h;rw [hL2,hbb2] at h;have HLL:=hid hL2;have HBB2:=hid hbb2;have HX:=hid h;have HTT:=hid ht;have hlt5:=h.blk.lt;obtain ⟨q1,q2,q3⟩:=h.blk.rules;clear hln hcol hrc hL2 hbb2 hrcc hlen hcb hble h ht HS5;have m1 : ts.length + 1 ≤ maxLen:=(by unfold maxLen; omega);have m2 : (ts.length + 1) * 40 ≤ 140737488355328:=(by omega);have G : ∀ (p : Held fun w' => Blk w' g 180 #[.string ⟨l.toArray⟩,.int .i64 (k2:Int),.int .i64 L2,.int .i64 (bb2:Int),vi,vo,vt,.map (some m),vs]) (i:Nat),p.w.cell? ⟨g,i,none⟩ = #[.string ⟨l.toArray⟩,.int .i64 (k2:Int),.int .i64 L2,.int .i64 (bb2:Int),vi,vo,vt,.map (some m),vs][i]?:=fun p i => p.h.cell i;refine wp_region_steady_tail 23 28 (by kernel_rfl) (by kernel_rfl) (fun w' => ∃ p : Held fun w' => Blk w' g 180 #[.string ⟨l.toArray⟩,.int .i64 (k2:Int),.int .i64 L2,.int .i64 (bb2:Int),vi,vo,vt,.map (some m),vs],w' = p.w) (isHeld_mk HX.out.blk.drew) (fun c a d v w h => by cases d <;> exact h) ?_;simp only [List.take_succ_cons,List.take_zero,List.drop_succ_cons,List.drop_zero]
      repeat (refine wpSteady_step (fun K hK => ?_) --
              go_simp
              first
                | (refine ⟨_,fun _ => rfl,hK _ ?_⟩; clear hK K)
                | (refine hK _ ?_; clear hK K))
      refine wpSteady_nil ?_;refine tailM_one ?_;go_wp2_with fail;refine (HRC.out _).mono ?_;rintro e w1 ⟨rfl,hb1⟩;have hR1:=(HX.out.drewN 1).belowS hb1;have hb2 : RowKit.Below B a w1:=below_then hb5.drew hb1 (Nat.le_trans HX.out.ge (Nat.le_of_lt hlt5));have hs1:=hR1.blk.lt;have hge:=hR1.ge;clear hb1 q1 q2 q3;go_wp2_with fail;refine thenC_mk (isHeld_mk hR1.blk) ?_;refine tailM_one ?_;go_wp2_with fail;refine thenC_mk (isHeld_mk hR1.blk) ?_;refine tailM_one ?_;go_wp2_with fail;refine thenC_mk (isHeld_mk hR1.blk) ?_;refine tailM_one ?_;go_wp2_with fail;refine thenC_mk (isHeld_mk (hR1.alloc _).blk) ?_;refine tailM_one ?_
      go_wp2_with (at_builtin --
                   refine wpList_append_row _ rfl (.tmp 188) (.tmp 210) 126 rfl B 130 i0 (.agg #[.int .i64 0,.string ByteArray.empty,.int .i64 0,.int .i64 0]) 4 40 Tryz.underlying126 hi0 hz0 hz1 hz2 rfl (by decide) vt ts.length (ts.flatMap tokc) rfl (hR1.ot.alloc _) (some ⟨w1.heap.size,0,none⟩) 1 1 [.int .i64 7,.string ⟨t.toArray⟩,.int .i64 L,.int .i64 ((rc:Int) + 1)] rfl rfl (Row.new w1 #[.int .i64 7,.string ⟨t.toArray⟩,.int .i64 L,.int .i64 ((rc:Int) + 1)] 130) (by simp [Value.oneCell']) m1 m2 (by simp; omega) ?_
                   intro v3 w3 hown3 hg3 hat3
                   have hR3:=(hR1.alloc (.cells #[.int .i64 7,.string ⟨t.toArray⟩,.int .i64 L,.int .i64 ((rc:Int) + 1)] 130)).growT hg3 (ts':=ts ++ [tokAt l 7 t at_]) (by rw [HLEN.out]; simpa using hown3)
                   obtain ⟨A3,c3,rfl,_,_⟩:=own_form hown3)
      refine thenC_mk (isHeld_mk hR3.blk) ?_;refine tailM_zero ?_;have hb3':=(hb2.alloc (by omega) (.cells #[.int .i64 7,.string ⟨t.toArray⟩,.int .i64 L,.int .i64 ((rc:Int) + 1)] 130)).grown hg3 (by simp; omega) (fun g' e => (HX.out.ot.lt g' e).1);clear hg3 hown3 hat3 G;obtain ⟨q1,q2,q3⟩:=hR3.blk.rules;go_wp2_with fail;go_end0;refine LexPost.ok (vt':=.slice A3 (ts.length + 1) c3) HR.out rfl ?_ (hb3'.setCell (p:=⟨g,6,none⟩) hge _);rw [show at_ + (k2 - at_) = k2 by omega,HTT.out];unfold Sc scCells;rw [HLL.out,HBB2.out];exact hR3.set 6 _
     ·as_aux_lemma =>
      have hP' : Q.isPrefixOf (l.drop k) = false:=Bool.eq_false_iff.2 hP;rw [hP'] at hpre;have HPRE:=hid hpre;have HPP:=hid hP';clear hpre hP hP';go_wp2_with fail;go_quiet ((go_at_call 39; exact quiet_left (HPRE.out _)));have HS8 : Hid (Sc (wr.drewN nq) B g l k ind op ts vi vo vt m vs):=hid (ScR.drewN HS.out nq);have hb8:=below_drewN hbr nq;generalize wr.drewN nq = w8 at HS8 hb8 ⊢;clear q1 q2 q3 htail;go_wp2_with fail;refine (peek0S HS8.out hl hk2 hb8).mono ?_;rintro e w9 ⟨rfl,hs9,hb9⟩;have HS9:=hid hs9;unfold Sc scCells at hs9;obtain ⟨q1,q2,q3⟩:=hs9.blk.rules;clear hs9 HS8 hb8
      by_cases hend : l.length ≤ k
      ·have d1 : decide ((l.length:Int) ≤ (k:Int)) = true:=decide_eq_true (by omega);have HR:=hid (show lexStr p (l.drop at_) = .error (15,k - at_) by rw [HLE.out,← HK3.out,se_end Q raw l k _ hend]);go_wp2_with fail;go_quiet (fail);go_wp2_with fail;refine (fail_any _ _ _ _).mono ?_;rintro e w10 ⟨rfl,rfl⟩;go_wp2_with fail;exact ⟨rfl,LexPost.err HR.out _ (by omega) rfl (below_drewN hb9 _)⟩
      ·have d1 : decide ((l.length:Int) ≤ (k:Int)) = false:=decide_eq_false (by omega);go_wp2_with fail;go_quiet (fail);have HS10 : Hid (Sc (w9.drewN nq) B g l k ind op ts vi vo vt m vs):=hid (ScR.drewN HS9.out nq);have hb10:=below_drewN hb9 nq;generalize w9.drewN nq = w10 at HS10 hb10 ⊢;have hklt : k < l.length:=(by omega);have hs10:=HS10.out;unfold Sc scCells at hs10;clear q1 q2 q3 HS9 hb9;obtain ⟨q1,q2,q3⟩:=hs10.blk.rules
       by_cases h10 : at0 l k = 10
       ·as_aux_lemma =>
        have hc10:=eqb_t 10 10 rfl h10
        by_cases hq1 : Q.length = 1
        ·have hqc : ((Q.length:Int) == 1) = true:=(by rw [hq1]; rfl);have HR:=hid (show lexStr p (l.drop at_) = .error (1,k - at_) by rw [HLE.out,← HK3.out,se_nl Q raw l k _ hklt HPP.out h10 hq1]);clear h10 hs10;go_wp2_with fail;refine (fail_any _ _ _ _).mono ?_;rintro e w11 ⟨rfl,rfl⟩;go_wp2_with fail;exact ⟨rfl,LexPost.err HR.out _ (by omega) rfl hb10⟩
        ·have hqc : ((Q.length:Int) == 1) = false:=(by rw [beq_eq_false_iff_ne]; omega);have H10:=hid h10;have HO:=hid (se_other Q raw l k (k - at_) hklt HPP.out (fun e => hq1 e.2) (by rw [h10]; rintro ⟨e,_⟩; exact absurd e (by decide)));clear h10 hs10 q1 q2 q3;go_wp2_with fail;refine (next_any HS10.out hl hklt H10.out hb10).mono ?_;rintro e w11 ⟨rfl,hs11,hb11⟩;have HS11:=hid hs11;clear hs11;go_wp2_with fail;go_roundw
         case rel =>
          refine ⟨k + 1,by omega,by omega,?_,HS11.out,hb11⟩;rw [← HK3.out,HO.out]
          congr 1
          omega
         case measure =>
          rw [ScR.atW HS.out rfl,ScR.atW HS11.out (n:=k + 1) rfl];omega
       ·as_aux_lemma =>
        have hc10:=eqb_f 10 10 rfl h10;have HLs:=hid (line_same l k hklt h10);have HBs:=hid (bol_same l k hklt h10);have H10:=hid h10;clear h10
        by_cases h92 : at0 l k = 92
        ·have hc92:=eqb_t 92 92 rfl h92;have H92:=hid h92;clear h92;cases raw
         ·by_cases hk3 : k + 1 < l.length
          ·have d3 : decide ((k:Int) + 1 < (l.length:Int)) = true:=decide_eq_true (by omega);have hix:=run_idx l (k + 1) hk3 ((k:Int) + 1) (by omega)
           by_cases h11 : at0 l (k + 1) = 10
           ·have hc11:=eqb_t 10 10 rfl h11;have hn11 : (((at0 l (k + 1)).toNat:Int) != 10) = false:=(by rw [bne,hc11]; rfl);have HO:=hid (se_other Q false l k (k - at_) hklt HPP.out (fun e => H10.out e.1) (by rintro ⟨e1,e2,e3,e4⟩; first | exact h11 | (exact e4 (by exact h11))));go_wp2_with fail;go_quiet (fail);have hs12:=hs10.drewN nq;have hb12:=below_drewN hb10 nq;clear q1 q2 q3;obtain ⟨q1,q2,q3⟩:=hs12.blk.rules;go_wp2_with fail;go_roundw
            case rel =>
             refine ⟨k + 1,by omega,by omega,?_,?_,hb12.setCell (p:=⟨g,1,none⟩) hs12.ge _⟩
             ·rw [← HK3.out,HO.out]
              congr 1
              omega
             ·unfold Sc scCells;rw [HLs.out,HBs.out];exact hs12.set 1 (.int .i64 ((k:Int) + 1))
            case measure =>
             rw [ScR.atW HS.out rfl,ScR.atW (hs12.set 1 (.int .i64 ((k:Int) + 1))) (n:=k + 1) rfl];omega
           ·have hc11:=eqb_f 10 10 rfl h11;have hn11 : (((at0 l (k + 1)).toNat:Int) != 10) = true:=(by rw [bne,hc11]; rfl);have HO:=hid (se_esc Q l k (k - at_) HPP.out H92.out hk3 h11);have HL2:=hid (line_same l (k + 1) hk3 h11);have HB2:=hid (bol_same l (k + 1) hk3 h11);clear h11;go_wp2_with fail;go_quiet (fail);have hs12:=hs10.drewN nq;have hb12:=below_drewN hb10 nq;clear q1 q2 q3;obtain ⟨q1,q2,q3⟩:=hs12.blk.rules;go_wp2_with fail;go_roundw
            case rel =>
             refine ⟨k + 2,by omega,by omega,?_,?_,hb12.setCell (p:=⟨g,1,none⟩) hs12.ge _⟩
             ·rw [← HK3.out,HO.out]
              congr 1
              omega
             ·unfold Sc scCells;rw [HL2.out,HB2.out,HLs.out,HBs.out];exact hs12.set 1 (.int .i64 ((k:Int) + 2))
            case measure =>
             rw [ScR.atW HS.out rfl,ScR.atW (hs12.set 1 (.int .i64 ((k:Int) + 2))) (n:=k + 2) rfl];omega
          ·have d3 : decide ((k:Int) + 1 < (l.length:Int)) = false:=decide_eq_false (by omega);have HO:=hid (se_other Q false l k (k - at_) hklt HPP.out (fun e => H10.out e.1) (by rintro ⟨e1,e2,e3,e4⟩; first | exact absurd e3 hk3 | (exact e4 (by exact absurd e3 hk3))));go_wp2_with fail;go_quiet (fail);have hs12:=hs10.drewN nq;have hb12:=below_drewN hb10 nq;clear q1 q2 q3;obtain ⟨q1,q2,q3⟩:=hs12.blk.rules;go_wp2_with fail;go_roundw
           case rel =>
            refine ⟨k + 1,by omega,by omega,?_,?_,hb12.setCell (p:=⟨g,1,none⟩) hs12.ge _⟩
            ·rw [← HK3.out,HO.out]
             congr 1
             omega
            ·unfold Sc scCells;rw [HLs.out,HBs.out];exact hs12.set 1 (.int .i64 ((k:Int) + 1))
           case measure =>
            rw [ScR.atW HS.out rfl,ScR.atW (hs12.set 1 (.int .i64 ((k:Int) + 1))) (n:=k + 1) rfl];omega
         ·have HO:=hid (se_other Q true l k (k - at_) hklt HPP.out (fun e => H10.out e.1) (by rintro ⟨e1,e2,e3,e4⟩; first | exact absurd e2 (by decide) | (exact e4 (by exact absurd e2 (by decide)))));go_wp2_with fail;go_quiet (fail);have hs12:=hs10.drewN nq;have hb12:=below_drewN hb10 nq;clear q1 q2 q3;obtain ⟨q1,q2,q3⟩:=hs12.blk.rules;go_wp2_with fail;go_roundw
          case rel =>
           refine ⟨k + 1,by omega,by omega,?_,?_,hb12.setCell (p:=⟨g,1,none⟩) hs12.ge _⟩
           ·rw [← HK3.out,HO.out]
            congr 1
            omega
           ·unfold Sc scCells;rw [HLs.out,HBs.out];exact hs12.set 1 (.int .i64 ((k:Int) + 1))
          case measure =>
           rw [ScR.atW HS.out rfl,ScR.atW (hs12.set 1 (.int .i64 ((k:Int) + 1))) (n:=k + 1) rfl];omega
        ·have hc92:=eqb_f 92 92 rfl h92;have HO:=hid (se_other Q raw l k (k - at_) hklt HPP.out (fun e => H10.out e.1) (by rintro ⟨e1,e2,e3,e4⟩; first | exact absurd e1 h92 | (exact e4 (by exact absurd e1 h92))));go_wp2_with fail;go_quiet (fail);have hs12:=hs10.drewN nq;have hb12:=below_drewN hb10 nq;clear q1 q2 q3;obtain ⟨q1,q2,q3⟩:=hs12.blk.rules;go_wp2_with fail;go_roundw
         case rel =>
          refine ⟨k + 1,by omega,by omega,?_,?_,hb12.setCell (p:=⟨g,1,none⟩) hs12.ge _⟩
          ·rw [← HK3.out,HO.out]
           congr 1
           omega
          ·unfold Sc scCells;rw [HLs.out,HBs.out];exact hs12.set 1 (.int .i64 ((k:Int) + 1))
         case measure =>
          rw [ScR.atW HS.out rfl,ScR.atW (hs12.set 1 (.int .i64 ((k:Int) + 1))) (n:=k + 1) rfl];omega
end Go.Proofs.YtonehlkiackhcaaGreatDoor
