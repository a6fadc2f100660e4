/- The reference's Tokens: the tokens of a source, or its fault. Nothing is claimed here. -/
import Derived.Test.YtonehlkiackhcaaGreatDoorRefTf
set_option linter.unusedVariables false
set_option linter.unusedSimpArgs false
set_option maxRecDepth 100000
set_option maxHeartbeats 16000000
namespace Go.Proofs.YtonehlkiackhcaaGreatDoor
open Go.RowKit Go.Shelf Go.Lib Go.Maps
theorem tokens_txt {cs : List (List UInt8)} (h : ∀ c ∈ cs,Chr c) {l : List UInt8} (hcl : cs.flatten = l) (hl : l.length ≤ 16000) (hs : sfault l = (0,0)) (w : World) (hT : Tabs w) (hm : Lim w) :
  Calls Tryz.prog 91 #[.string ⟨l.toArray⟩] w (ScPost w (scanF l (l.length + 1) ⟨0,[0],[],[],true⟩)):=by
 obtain ⟨R,hR⟩ : ∃ R,scanF l (l.length + 1) ⟨0,[0],[],[],true⟩ = R:=⟨_,rfl⟩;rw [hR];have hb0:=(Below.refl w.heap.size w).alloc (Nat.le_refl _) (.cells #[.int .i64 0,.int .i64 0] 29);have hP:=Blk.new w 29 #[.int .i64 0,.int .i64 0];have hT1:=hT.keepB hb0;have HZ:=hid hs;have HRR0:=hid hR;have HH:=hid h;have HCL:=hid hcl;obtain ⟨i0,hi0,hz0,hz1,hz2⟩:=info_parts info_int;clear hs hR h hcl;go_enter Tryz.func91,Tryz.ntmps91;go_wp2_with fail;refine (sourceFault_any l _ (by omega) hT1).mono ?_;rintro e w1 ⟨rfl,hb1⟩;rw [HZ.out];have hP1:=hP.belowS hb1;have hb:=below_then hb0 hb1 (by simp);clear hP hb0 hb1 hT1;obtain ⟨q1,q2,q3⟩:=hP1.rules;unfold flt;go_wp2_with (refine wpList_buildSlice rfl 51 3 1 _ rfl (intc [0]).toArray i0 _ Tryz.underlying51 hi0 hz0 (by rw [hz1]; decide) (by rw [hz1]; decide) (by rw [hz1]; kernel_rfl) ?_);have hI:=Blk.new (w1.alloc (.cells #[.int .i64 0,.int .i64 0] 29)) 3 (intc [0]).toArray;have hsz : (w1.alloc (.cells #[.int .i64 0,.int .i64 0] 29)).heap.size = w1.heap.size + 1:=by simp
 rw [hsz] at hI;have hR0 : TkR ((w1.alloc (.cells #[.int .i64 0,.int .i64 0] 29)).alloc (.cells (intc [0]).toArray 3)) w.heap.size w.heap.size [0] [] (.slice (some ⟨w1.heap.size + 1,0,none⟩) 1 1) (.slice none 0 0) :=
  ⟨(hP1.alloc _).alloc _,Nat.le_refl _,own_new (n:=1) hI (by have:=hb.size; omega) rfl (by decide),World.ownsRow_nil _ _ _ _⟩
 have hbl : Below w.heap.size w ((w1.alloc (.cells #[.int .i64 0,.int .i64 0] 29)).alloc (.cells (intc [0]).toArray 3)):=(hb.alloc hb.size _).alloc (by rw [hsz]; have:=hb.size; omega) _;generalize ((w1.alloc (.cells #[.int .i64 0,.int .i64 0] 29)).alloc (.cells (intc [0]).toArray 3)) = w2 at hR0 hbl ⊢;clear hI hsz hP1 hb q1 q2 q3 HZ;have HR0:=hid hR0;have HI0:=hid hi0;have HZ0:=hid hz0;have HZ1:=hid hz1;have HZ2:=hid hz2;clear hR0 hi0 hz0 hz1 hz2
 go_loopw [5,6,7,8,9,10] (fun vt vi vo vs vb vx wr => TRel w w.heap.size cs l R vt vi vo vs vb vx wr) (fun _ _ _ _ _ vx _ => l.length - (RowKit.intOf vx).toNat)
 case atStart => exact ⟨⟨0,[0],[],[],true⟩,l.length + 1,HR0.out,hbl,⟨by simp,by simp,by simp,by simp,by simp⟩,beg_zero cs,fun x hx => by simp at hx,rfl,rfl,by rw [bol_zero]; rfl,rfl,by simp,HRR0.out⟩
 case round =>
  clear HR0 HRR0 hbl;obtain ⟨⟨sat,sind,sop,stk,sfr⟩,f,hR,hbr,hinv,hbeg,hopk,rfl,rfl,rfl,rfl,hf,hRR⟩:=hrel;dsimp only at hR hbeg hopk hf ⊢;have HI:=hid hinv;have HF:=hid hf;have HRR:=hid hRR;have HOK:=hid hopk;have HBS:=hid hbeg;have hle : sat ≤ l.length:=hinv.le;have hbli:=blank_any l sat wr hl hle;have hbg:=beg_skip HH.out hbeg;rw [HCL.out] at hbg;have hbol:=bol_skip l sat hle;obtain ⟨i,hi⟩ : ∃ i,sat + skipLen (l.drop sat) = i:=⟨_,rfl⟩;rw [hi] at hbli hbg hbol;have hil : i ≤ l.length:=(by rw [← hi]; exact skip_le l sat hle);have hai : sat ≤ i:=(by omega);have HST:=hid (show stepS l ⟨sat,sind,sop,stk,sfr⟩ = stepB l ⟨sat,sind,sop,stk,sfr⟩ i from step_at hi);have HBL:=hid hbli;have HBG:=hid hbg;have HBO:=hid hbol;have hcnt : sind.length + stk.length ≤ 3 * sat + 1:=hinv.cnt;have hopn : sop.length ≤ sat:=hinv.opn;obtain ⟨x,ind0,rfl⟩ : ∃ x ind0,sind = x :: ind0:=by
   cases sind with
   | nil => exact absurd rfl hinv.ne
   | cons x r => exact ⟨x,r,rfl⟩
  have HBD:=hid hinv.bd;obtain ⟨Ai,ci,rfl,_,_⟩:=own_form hR.oi;have HR : Hid (TkR wr w.heap.size w.heap.size (x :: ind0) stk (.slice Ai (ind0.length + 1) ci) _):=hid hR;rw [List.length_cons] at hcnt;clear hinv hf hRR hR hi hbli hbg hbol hbeg hopk;unfold opStr;obtain ⟨q,hq⟩ : ∃ q,sop.reverse = q:=⟨_,rfl⟩;rw [hq];have HQ:=hid hq;clear hq
  by_cases hend : l.length ≤ i
  ·as_aux_lemma =>
   have d1 : ((i:Int) == (l.length:Int)) = true:=(by rw [beq_iff_eq]; omega);cases sop with
   | cons c op =>
    have n0 : q.isEmpty = false:=(by rw [← HQ.out]; simp);have HFT:=hid (scan_fault HI.out.le HF.out HRR.out (show stepS l ⟨sat,x :: ind0,c :: op,stk,sfr⟩ = .fault 15 i by
     rw [HST.out];unfold stepB;rw [if_pos hend,if_pos (by simp)]))
    go_wp2_with fail;refine HBL.out.mono ?_;rintro e w3 ⟨rfl,rfl⟩;go_wp2_with fail;refine (atR_any 15 (i:Int) _).mono ?_;rintro e w8 ⟨rfl,hb8⟩;have hR8:=TkR.belowS HR.out hb8;have hbn:=below_then hbr hb8 (Below.size hbr);obtain ⟨q1,q2,q3⟩:=hR8.blk.rules;unfold flt;go_wp2_with fail;exact ret_tmp_blk rfl rfl ((hR8.blk.set_ 0 (.int .i64 15)).set_ 1 (.int .i64 (i:Int))) _ Tryz.underlying29 rfl (by kernel_rfl) rfl _ rfl (ScPost.errT HFT.out rfl ((hbn.setCell (p:=⟨w.heap.size,0,none⟩) (Nat.le_refl _) _).setCell (p:=⟨w.heap.size,1,none⟩) (Nat.le_refl _) _))
   | nil =>
    have n0 : q.isEmpty = true:=(by rw [← HQ.out]; rfl);have HDN : Hid (R = .ok (closing l ⟨sat,x :: ind0,[],stk,sfr⟩ i)):=hid (scan_done HI.out.le HF.out HRR.out (show stepS l ⟨sat,x :: ind0,[],stk,sfr⟩ = .done (closing l ⟨sat,x :: ind0,[],stk,sfr⟩ i) by
     rw [HST.out];unfold stepB;rw [if_pos hend,if_neg (by simp)]))
    cases sfr with
    | true =>
     have HTT : Hid (closing l ⟨sat,x :: ind0,[],stk,true⟩ i = stk ++ List.replicate ind0.length (tokAt l 3 [] i) ++ [tokAt l 0 [] i]):=hid (by unfold closing; simp);go_wp2_with fail;refine HBL.out.mono ?_;rintro e w3 ⟨rfl,rfl⟩;go_wp2_with fail;have hts4 : stk.length ≤ 100000:=by omega
     go_loopw [5,11] (fun vt v wr => CRelT w w.heap.size l i x ind0 (stk) (.slice Ai (ind0.length + 1) ci) vt v wr) (fun _ v _ => ind0.length + 1 - (RowKit.intOf v).toNat)
     case atStart => exact ⟨0,Nat.zero_le _,rfl,by simpa using HR.out,hbr⟩
     case round =>
      obtain ⟨k,hk,rfl,hsc,hbc⟩:=hrel;have HSc:=hid hsc;have htk : ((stk) ++ List.replicate k (tokAt l 3 [] i)).length ≤ 1000000:=(by rw [List.length_append,List.length_replicate]; omega);have HTK:=hid htk;clear hsc htk
      by_cases hlt : k < ind0.length
      ·have hkd : decide ((k:Int) + 1 < (ind0.length:Int) + 1) = true:=decide_eq_true (by omega);go_wp2_with fail;refine (addE_any HH.out HCL.out hl HSc.out hbc hT HTK.out HBG.out 3 hil).mono ?_;rintro e w7 ⟨vt7,rfl,hs7,hb7⟩;have HS7:=hid hs7;clear hs7;go_wp2_with fail;go_roundw
       case rel =>
        refine ⟨k + 1,by omega,by go_num,?_,hb7⟩;rw [List.replicate_succ',← List.append_assoc];exact HS7.out
       case measure => simp [RowKit.intOf]; omega
      ·have hkd : decide ((k:Int) + 1 < (ind0.length:Int) + 1) = false:=decide_eq_false (by omega);have hke : k = ind0.length:=(by omega);have HKE:=hid hke;clear hke;go_wp2_with fail;refine (addE_any HH.out HCL.out hl HSc.out hbc hT HTK.out HBG.out 0 hil).mono ?_;rintro e w7 ⟨vt7,rfl,hs7,hb7⟩;have HS7:=hid hs7;obtain ⟨q1,q2,q3⟩:=hs7.blk.rules;clear hs7;go_wp2_with fail;exact ret_tmp_blk rfl rfl ((HS7.out.blk.set_ 0 (.int .i64 0)).set_ 1 (.int .i64 0)) _ Tryz.underlying29 rfl (by kernel_rfl) rfl _ rfl (ScPost.okT (HDN.out.trans (congrArg Except.ok (HTT.out.trans (by rw [HKE.out])))) ((hb7.setCell (p:=⟨w.heap.size,0,none⟩) (Nat.le_refl _) _).setCell (p:=⟨w.heap.size,1,none⟩) (Nat.le_refl _) _) (ownsRow_setCell_other (ownsRow_setCell_other HS7.out.ot (own_blk_ne HS7.out.ot HS7.out.blk (by decide)) _) (own_blk_ne HS7.out.ot HS7.out.blk (by decide)) _))
    | false =>
     have HTT : Hid (closing l ⟨sat,x :: ind0,[],stk,false⟩ i = stk ++ [tokAt l 1 [] i] ++ List.replicate ind0.length (tokAt l 3 [] i) ++ [tokAt l 0 [] i]):=hid (by unfold closing; simp);go_wp2_with fail;refine HBL.out.mono ?_;rintro e w3 ⟨rfl,rfl⟩;go_wp2_with fail;refine (addE_any HH.out HCL.out hl HR.out hbr hT (by omega) HBG.out 1 hil).mono ?_;rintro e w4 ⟨vt4,rfl,hs4,hb4⟩;have HS4:=hid hs4;clear hs4;have hts4 : (stk ++ [tokAt l 1 [] i]).length ≤ 100000:=(by rw [List.length_append,List.length_singleton]; omega);go_wp2_with fail
     go_loopw [5,11] (fun vt v wr => CRelT w w.heap.size l i x ind0 (stk ++ [tokAt l 1 [] i]) (.slice Ai (ind0.length + 1) ci) vt v wr) (fun _ v _ => ind0.length + 1 - (RowKit.intOf v).toNat)
     case atStart => exact ⟨0,Nat.zero_le _,rfl,by simpa using HS4.out,hb4⟩
     case round =>
      obtain ⟨k,hk,rfl,hsc,hbc⟩:=hrel;have HSc:=hid hsc;have htk : ((stk ++ [tokAt l 1 [] i]) ++ List.replicate k (tokAt l 3 [] i)).length ≤ 1000000:=(by rw [List.length_append,List.length_replicate]; omega);have HTK:=hid htk;clear hsc htk
      by_cases hlt : k < ind0.length
      ·have hkd : decide ((k:Int) + 1 < (ind0.length:Int) + 1) = true:=decide_eq_true (by omega);go_wp2_with fail;refine (addE_any HH.out HCL.out hl HSc.out hbc hT HTK.out HBG.out 3 hil).mono ?_;rintro e w7 ⟨vt7,rfl,hs7,hb7⟩;have HS7:=hid hs7;clear hs7;go_wp2_with fail;go_roundw
       case rel =>
        refine ⟨k + 1,by omega,by go_num,?_,hb7⟩;rw [List.replicate_succ',← List.append_assoc];exact HS7.out
       case measure => simp [RowKit.intOf]; omega
      ·have hkd : decide ((k:Int) + 1 < (ind0.length:Int) + 1) = false:=decide_eq_false (by omega);have hke : k = ind0.length:=(by omega);have HKE:=hid hke;clear hke;go_wp2_with fail;refine (addE_any HH.out HCL.out hl HSc.out hbc hT HTK.out HBG.out 0 hil).mono ?_;rintro e w7 ⟨vt7,rfl,hs7,hb7⟩;have HS7:=hid hs7;obtain ⟨q1,q2,q3⟩:=hs7.blk.rules;clear hs7;go_wp2_with fail;exact ret_tmp_blk rfl rfl ((HS7.out.blk.set_ 0 (.int .i64 0)).set_ 1 (.int .i64 0)) _ Tryz.underlying29 rfl (by kernel_rfl) rfl _ rfl (ScPost.okT (HDN.out.trans (congrArg Except.ok (HTT.out.trans (by rw [HKE.out])))) ((hb7.setCell (p:=⟨w.heap.size,0,none⟩) (Nat.le_refl _) _).setCell (p:=⟨w.heap.size,1,none⟩) (Nat.le_refl _) _) (ownsRow_setCell_other (ownsRow_setCell_other HS7.out.ot (own_blk_ne HS7.out.ot HS7.out.blk (by decide)) _) (own_blk_ne HS7.out.ot HS7.out.blk (by decide)) _))
  ·have d1 : ((i:Int) == (l.length:Int)) = false:=(by rw [beq_eq_false_iff_ne]; omega);have hlt : i < l.length:=(by omega);have hix:=run_idx l i hlt (i:Int) rfl
   by_cases h10 : at0 l i = 10
   ·as_aux_lemma =>
    have hbn:=bol_nl l i hlt h10;have HBN:=hid hbn;have H10:=hid h10;rw [h10] at hix;clear hbn h10;cases sfr with
    | true =>
     have HMO:=hid (show stepS l ⟨sat,x :: ind0,sop,stk,true⟩ = .more ⟨i + 1,x :: ind0,sop,stk,true⟩ by
      rw [HST.out];unfold stepB;rw [if_neg hend,if_pos H10.out,if_neg (by simp)])
     go_wp2_with fail;refine HBL.out.mono ?_;rintro e w3 ⟨rfl,rfl⟩;go_wp2_with fail;go_roundw
     case rel =>
      have hstep:=step_inv hl HI.out HMO.out;obtain ⟨f2,hf2,hr2⟩:=scan_next HI.out.le HF.out HRR.out HMO.out hstep.2;exact ⟨_,f2,HR.out,hbr,hstep.1,beg_stepL HH.out HCL.out HBS.out HMO.out,HOK.out,(by unfold opStr; rw [HQ.out]),rfl,(by rw [HBN.out]; rfl),rfl,hf2,hr2⟩
     case measure =>
      have hstep:=step_inv hl HI.out HMO.out;have hlt2:=hstep.2;have hle2:=hstep.1.le;dsimp only at hlt2 hle2;simp [RowKit.intOf];omega
    | false =>
     cases sop with
     | nil =>
      have n0 : q.isEmpty = true:=(by rw [← HQ.out]; rfl);have HMO:=hid (show stepS l ⟨sat,x :: ind0,[],stk,false⟩ = .more ⟨i + 1,x :: ind0,[],stk ++ [tokAt l 1 [] i],true⟩ by
       rw [HST.out];unfold stepB;rw [if_neg hend,if_pos H10.out,if_pos ⟨rfl,rfl⟩])
      go_wp2_with fail;refine HBL.out.mono ?_;rintro e w3 ⟨rfl,rfl⟩;go_wp2_with fail;refine (addE_any HH.out HCL.out hl HR.out hbr hT (by omega) HBG.out 1 hil).mono ?_;rintro e w4 ⟨vt4,rfl,hs4,hb4⟩;have HS4:=hid hs4;clear hs4;go_wp2_with fail;go_roundw
      case rel =>
       have hstep:=step_inv hl HI.out HMO.out;obtain ⟨f2,hf2,hr2⟩:=scan_next HI.out.le HF.out HRR.out HMO.out hstep.2;exact ⟨_,f2,HS4.out,hb4,hstep.1,beg_stepL HH.out HCL.out HBS.out HMO.out,HOK.out,(by unfold opStr; rw [HQ.out]),rfl,(by rw [HBN.out]; rfl),rfl,hf2,hr2⟩
      case measure =>
       have hstep:=step_inv hl HI.out HMO.out;have hlt2:=hstep.2;have hle2:=hstep.1.le;dsimp only at hlt2 hle2;simp [RowKit.intOf];omega
     | cons c op =>
      have n0 : q.isEmpty = false:=(by rw [← HQ.out]; simp);have HMO:=hid (show stepS l ⟨sat,x :: ind0,c :: op,stk,false⟩ = .more ⟨i + 1,x :: ind0,c :: op,stk,false⟩ by
       rw [HST.out];unfold stepB;rw [if_neg hend,if_pos H10.out,if_neg (by simp)])
      go_wp2_with fail;refine HBL.out.mono ?_;rintro e w3 ⟨rfl,rfl⟩;go_wp2_with fail;go_roundw
      case rel =>
       have hstep:=step_inv hl HI.out HMO.out;obtain ⟨f2,hf2,hr2⟩:=scan_next HI.out.le HF.out HRR.out HMO.out hstep.2;exact ⟨_,f2,HR.out,hbr,hstep.1,beg_stepL HH.out HCL.out HBS.out HMO.out,HOK.out,(by unfold opStr; rw [HQ.out]),rfl,(by rw [HBN.out]; rfl),rfl,hf2,hr2⟩
      case measure =>
       have hstep:=step_inv hl HI.out HMO.out;have hlt2:=hstep.2;have hle2:=hstep.1.le;dsimp only at hlt2 hle2;simp [RowKit.intOf];omega
   ·have c10:=eqb_f 10 10 rfl h10;have H10:=hid h10;clear h10;obtain ⟨bb,hbb⟩ : ∃ bb,bol l sat = bb:=⟨_,rfl⟩;have hbsat : bb ≤ sat:=(by rw [← hbb]; exact bol_le l sat);have HBI:=hid (HBO.out.trans hbb);rw [hbb];clear hbb;cases sfr with
    | false =>
     as_aux_lemma =>
     have HTK:=hid (show stepS l ⟨sat,x :: ind0,sop,stk,false⟩ = takeTok l i ⟨sat,x :: ind0,sop,stk,false⟩ by
      rw [HST.out];unfold stepB;rw [if_neg hend,if_neg H10.out];rfl)
     have HTS : Hid (stk.length ≤ 1000000):=hid (by omega);go_wp2_with fail;refine HBL.out.mono ?_;rintro e w3 ⟨rfl,rfl⟩
     -- a token is scanned
     go_wp2_with fail;refine (rnext_any l i _ hl hlt (hm.keepB hbr)).mono ?_;rintro e w5 hpost;cases hr : lexTok (l.drop i) with
     | error zz =>
      obtain ⟨c5,k5⟩:=zz;rw [hr] at hpost;obtain ⟨hb5,pk,pn,rfl⟩:=hpost;have hft:=scan_fault HI.out.le HF.out HRR.out (HTK.out.trans (take_err hr));have hcb : (c5 != 0) = true:=(by simpa using lexTok_err hr);have hR5:=TkR.belowS HR.out hb5;have hbn:=below_then hbr hb5 (Below.size hbr);clear hr hb5;obtain ⟨q1,q2,q3⟩:=hR5.blk.rules;obtain ⟨j5,hj5⟩ : ∃ j5 : Nat,i + k5 = j5:=⟨_,rfl⟩;rw [hj5] at hft ⊢;have HFT:=hid hft;clear hft hj5;unfold pcV;go_wp2_with fail;go_region
      all_goals go_wp2_with fail
      have hbs:=(hbn.setCell (p:=⟨w.heap.size,0,none⟩) (Nat.le_refl _) (.int .i64 c5)).setCell (p:=⟨w.heap.size,1,none⟩) (Nat.le_refl _) (.int .i64 (j5:Int))
      all_goals exact ret_tmp_blk rfl rfl ((((hR5.blk.set_ 0 (.int .i64 c5)).set_ 1 (.int .i64 (j5:Int))).alloc _).drew) _ Tryz.underlying29 rfl (by kernel_rfl) rfl _ rfl (ScPost.errT HFT.out rfl ((hbs.alloc hbs.size _).drew))
     | ok zz =>
      obtain ⟨k5,n5⟩:=zz;rw [hr] at hpost;obtain ⟨hb5,rfl⟩:=hpost;have hln:=lex_len hr;rw [List.length_drop] at hln;obtain ⟨e5,he5⟩ : ∃ e5,i + n5 = e5:=⟨_,rfl⟩;have hie : i ≤ e5:=(by omega);have hel : e5 ≤ l.length:=(by omega);have hsub:=run_sub l i e5 hie hel (i:Int) (e5:Int) rfl rfl;have hn5 : e5 - i = n5:=(by omega);rw [hn5] at hsub;have HN5:=hid hn5;have hR5:=TkR.belowS HR.out hb5;have hbn:=below_then hbr hb5 (Below.size hbr);have hP6:=Blk.new w5 188 #[.int .i64 k5,.int .i64 (e5:Int),.int .i64 0,.int .i64 0];have hR6:=hR5.alloc (.cells #[.int .i64 k5,.int .i64 (e5:Int),.int .i64 0,.int .i64 0] 188);have hb6:=hbn.alloc hbn.size (.cells #[.int .i64 k5,.int .i64 (e5:Int),.int .i64 0,.int .i64 0] 188);have hpos : 0 < e5:=(by omega);rw [he5];clear hb5 hR5 hbn hln hn5;unfold pcV
      by_cases hk8 : k5 = 8
      ·subst hk8;obtain ⟨t5,ht5⟩ : ∃ t5,(l.drop i).take n5 = t5:=⟨_,rfl⟩;have hbra : ∀ W : World,Calls Tryz.prog 129 #[.string ⟨q.toArray⟩,.string ⟨t5.toArray⟩] W fun e w' => e = .returned (brV sop (bracket sop t5))∧Below W.heap.size W w':=fun W => by
        have h:=bracket_any sop t5 HOK.out (by omega) W
        rwa [show opStr sop = .string ⟨q.toArray⟩ by unfold opStr; rw [HQ.out]] at h
       rw [ht5] at hsub;cases hbk : bracket sop t5 with
       | none =>
        have HFT:=hid (scan_fault HI.out.le HF.out HRR.out (HTK.out.trans (take_bad hr (by rw [ht5]; exact hbk))));rw [hbk] at hbra;have HBRA:=hid hbra;clear hbra hr hbk ht5 he5;go_wp2_with fail;refine (HBRA.out _).mono ?_;rintro e w7 ⟨rfl,hb7⟩;have hR7:=hR6.belowS hb7;have hb7n:=below_then hb6 hb7 hb6.size;rw [show brV sop none = .tuple #[.string ⟨q.toArray⟩,.bool false] by rw [← HQ.out]; rfl];go_wp2_with fail;refine (atR_any 1 (i:Int) _).mono ?_;rintro e w8 ⟨rfl,hb8⟩;have hR8:=TkR.belowS hR7 hb8;have hbn:=below_then hb7n hb8 (Below.size hb7n);obtain ⟨q1,q2,q3⟩:=hR8.blk.rules;unfold flt;go_wp2_with fail;exact ret_tmp_blk rfl rfl ((hR8.blk.set_ 0 (.int .i64 1)).set_ 1 (.int .i64 (i:Int))) _ Tryz.underlying29 rfl (by kernel_rfl) rfl _ rfl (ScPost.errT HFT.out rfl ((hbn.setCell (p:=⟨w.heap.size,0,none⟩) (Nat.le_refl _) _).setCell (p:=⟨w.heap.size,1,none⟩) (Nat.le_refl _) _))
       | some op5 =>
        have hmo:=HTK.out.trans (take_sign hr (by rw [ht5]; exact hbk));have hop5:=HOK.out.step hbk;rw [he5] at hmo;have HMO:=hid hmo;have HOP5:=hid hop5;rw [hbk] at hbra;have HBRA:=hid hbra;clear hbra hr hbk ht5 he5 hmo hop5;go_wp2_with fail;refine (HBRA.out _).mono ?_;rintro e w7 ⟨rfl,hb7⟩;have hR7:=hR6.belowS hb7;have hb7n:=below_then hb6 hb7 hb6.size;have hP7:=hP6.belowS hb7;clear hR6 hb6 hP6 hb7;obtain ⟨q9,hq9⟩ : ∃ q9,op5.reverse = q9:=⟨_,rfl⟩;rw [show brV sop (some op5) = .tuple #[.string ⟨q9.toArray⟩,.bool true] by rw [← hq9]; rfl];have HQ9:=hid hq9;clear hq9;obtain ⟨k5,hk5⟩ : ∃ k5 : Int,k5 = 8:=⟨_,rfl⟩;rw [← hk5] at HMO hP7;clear hk5
        -- the token is added; the beginning of the line is looked for
        have hR7:=hR7;have hb7:=hb7n;have hP7:=hP7;obtain ⟨p1,p2,p3⟩:=hP7.rules;go_wp2_with fail;refine (addT_any HH.out HCL.out hl hR7 hb7 hT HTS.out HBG.out k5 e5 hie hel (e5:Int) rfl).mono ?_;rw [HN5.out];rintro e w9 ⟨vt9,rfl,hs9,hb9,hkeep⟩;have hP9:=hkeep _ _ _ (by decide) hP7;have HS9:=hid hs9;clear hs9 hkeep hP7 hb7 hR7 p1 p2 p3;obtain ⟨p1,p2,p3⟩:=hP9.rules;have e1 : IntKind.i64.wrap ((e5:Int) - 1) = (e5:Int) - 1:=IntWalk.i64_in _ (by omega);go_wp2_with fail;clear e1 hsub hix c10 d1
        go_loop [9,19] (fun vb v => ∃ (k:Nat) (z:Int),vb = .int .i64 (bb:Int)∧v = .int .i64 z∧z = (k:Int) - 1∧bb ≤ k∧k ≤ e5∧Hid (∀ j,k ≤ j → j < e5 → at0 l j ≠ 10)) (fun _ v => (RowKit.intOf v + 1).toNat)
        case atStart => exact ⟨e5,(e5:Int) - 1,rfl,rfl,rfl,by omega,Nat.le_refl _,hid (fun j h1 h2 => by omega)⟩
        case round =>
         obtain ⟨k,z,rfl,rfl,hz,hbk2,hke,HNO⟩:=hrel
         by_cases hkb : bb < k
         ·obtain ⟨m,rfl⟩ : ∃ m,k = m + 1:=⟨k - 1,by omega⟩;obtain rfl : z = (m:Int):=(by omega);clear hz;have hix2:=run_idx l m (by omega) (m:Int) rfl;have c1 : decide ((0:Int) ≤ (m:Int)) = true:=decide_eq_true (by omega);have c2 : decide ((bb:Int) ≤ (m:Int)) = true:=decide_eq_true (by omega)
          by_cases hm10 : at0 l m = 10
          ·rw [hm10] at hix2;have HVB:=hid (bol_found l m e5 (by omega) hel hm10 (fun j h1 h2 => HNO.out j (by omega) h2));clear hm10;go_wp2_with fail;go_roundw
           case rel =>
            have hstep:=step_inv hl HI.out HMO.out;obtain ⟨f2,hf2,hr2⟩:=scan_next HI.out.le HF.out HRR.out HMO.out hstep.2;exact ⟨_,f2,HS9.out,hb9,hstep.1,beg_stepL HH.out HCL.out HBS.out HMO.out,HOP5.out,(by unfold opStr; rw [HQ9.out]),rfl,(by rw [HVB.out] <;> first | rfl | go_num),rfl,hf2,hr2⟩
           case measure =>
            have hstep:=step_inv hl HI.out HMO.out;have hlt2:=hstep.2;have hle2:=hstep.1.le;dsimp only at hlt2 hle2;simp [RowKit.intOf];omega
          ·have c3:=eqb_f 10 10 rfl hm10;have HN : Hid (∀ j,m ≤ j → j < e5 → at0 l j ≠ 10):=hid (fun j h1 h2 => by
            rcases Nat.lt_or_ge m j with h | h
            ·exact HNO.out j (by omega) h2
            ·obtain rfl : j = m:=(by omega);exact hm10)
           clear hm10;go_wp2_with fail
           go_round
           case rel => exact ⟨m,(m:Int) - 1,rfl,by go_num,rfl,by omega,by omega,HN⟩
           case measure => simp [RowKit.intOf] <;> omega
         ·obtain rfl : k = bb:=(by omega);have HVB:=hid (show bol l e5 = k from (bol_kept l i e5 hie hel (fun j h1 h2 => HNO.out j (by rw [HBI.out] at h1; exact h1) h2)).trans HBI.out);rcases Nat.eq_zero_or_pos k with rfl | hk1
          ·obtain rfl : z = -1:=(by omega);clear hz;go_wp2_with fail;go_roundw
           case rel =>
            have hstep:=step_inv hl HI.out HMO.out;obtain ⟨f2,hf2,hr2⟩:=scan_next HI.out.le HF.out HRR.out HMO.out hstep.2;exact ⟨_,f2,HS9.out,hb9,hstep.1,beg_stepL HH.out HCL.out HBS.out HMO.out,HOP5.out,(by unfold opStr; rw [HQ9.out]),rfl,(by rw [HVB.out] <;> first | rfl | go_num),rfl,hf2,hr2⟩
           case measure =>
            have hstep:=step_inv hl HI.out HMO.out;have hlt2:=hstep.2;have hle2:=hstep.1.le;dsimp only at hlt2 hle2;simp [RowKit.intOf];omega
          ·obtain ⟨m,rfl⟩ : ∃ m,k = m + 1:=⟨k - 1,by omega⟩;obtain rfl : z = (m:Int):=(by omega);clear hz;have c1 : decide ((0:Int) ≤ (m:Int)) = true:=decide_eq_true (by omega);have c2 : decide (((m + 1:Nat):Int) ≤ (m:Int)) = false:=decide_eq_false (by omega);have c3 : decide ((m:Int) + 1 ≤ (m:Int)) = false:=decide_eq_false (by omega);go_wp2_with fail;go_roundw
           case rel =>
            have hstep:=step_inv hl HI.out HMO.out;obtain ⟨f2,hf2,hr2⟩:=scan_next HI.out.le HF.out HRR.out HMO.out hstep.2;exact ⟨_,f2,HS9.out,hb9,hstep.1,beg_stepL HH.out HCL.out HBS.out HMO.out,HOP5.out,(by unfold opStr; rw [HQ9.out]),rfl,(by rw [HVB.out] <;> first | rfl | go_num),rfl,hf2,hr2⟩
           case measure =>
            have hstep:=step_inv hl HI.out HMO.out;have hlt2:=hstep.2;have hle2:=hstep.1.le;dsimp only at hlt2 hle2;simp [RowKit.intOf];omega
      ·have hmo:=HTK.out.trans (take_ok hr hk8);rw [he5] at hmo;have HMO:=hid hmo;have hk : (k5 == 8) = false:=(by rw [beq_eq_false_iff_ne]; exact hk8);have HQ9:=HQ;clear hmo hr he5 hk8;go_wp2_with fail
       -- the token is added; the beginning of the line is looked for
       have hR7:=hR6;have hb7:=hb6;have hP7:=hP6;obtain ⟨p1,p2,p3⟩:=hP7.rules;go_wp2_with fail;refine (addT_any HH.out HCL.out hl hR7 hb7 hT HTS.out HBG.out k5 e5 hie hel (e5:Int) rfl).mono ?_;rw [HN5.out];rintro e w9 ⟨vt9,rfl,hs9,hb9,hkeep⟩;have hP9:=hkeep _ _ _ (by decide) hP7;have HS9:=hid hs9;clear hs9 hkeep hP7 hb7 hR7 p1 p2 p3;obtain ⟨p1,p2,p3⟩:=hP9.rules;have e1 : IntKind.i64.wrap ((e5:Int) - 1) = (e5:Int) - 1:=IntWalk.i64_in _ (by omega);go_wp2_with fail;clear e1 hsub hix c10 d1
       go_loop [9,19] (fun vb v => ∃ (k:Nat) (z:Int),vb = .int .i64 (bb:Int)∧v = .int .i64 z∧z = (k:Int) - 1∧bb ≤ k∧k ≤ e5∧Hid (∀ j,k ≤ j → j < e5 → at0 l j ≠ 10)) (fun _ v => (RowKit.intOf v + 1).toNat)
       case atStart => exact ⟨e5,(e5:Int) - 1,rfl,rfl,rfl,by omega,Nat.le_refl _,hid (fun j h1 h2 => by omega)⟩
       case round =>
        obtain ⟨k,z,rfl,rfl,hz,hbk2,hke,HNO⟩:=hrel
        by_cases hkb : bb < k
        ·obtain ⟨m,rfl⟩ : ∃ m,k = m + 1:=⟨k - 1,by omega⟩;obtain rfl : z = (m:Int):=(by omega);clear hz;have hix2:=run_idx l m (by omega) (m:Int) rfl;have c1 : decide ((0:Int) ≤ (m:Int)) = true:=decide_eq_true (by omega);have c2 : decide ((bb:Int) ≤ (m:Int)) = true:=decide_eq_true (by omega)
         by_cases hm10 : at0 l m = 10
         ·rw [hm10] at hix2;have HVB:=hid (bol_found l m e5 (by omega) hel hm10 (fun j h1 h2 => HNO.out j (by omega) h2));clear hm10;go_wp2_with fail;go_roundw
          case rel =>
           have hstep:=step_inv hl HI.out HMO.out;obtain ⟨f2,hf2,hr2⟩:=scan_next HI.out.le HF.out HRR.out HMO.out hstep.2;exact ⟨_,f2,HS9.out,hb9,hstep.1,beg_stepL HH.out HCL.out HBS.out HMO.out,HOK.out,(by unfold opStr; rw [HQ9.out]),rfl,(by rw [HVB.out] <;> first | rfl | go_num),rfl,hf2,hr2⟩
          case measure =>
           have hstep:=step_inv hl HI.out HMO.out;have hlt2:=hstep.2;have hle2:=hstep.1.le;dsimp only at hlt2 hle2;simp [RowKit.intOf];omega
         ·have c3:=eqb_f 10 10 rfl hm10;have HN : Hid (∀ j,m ≤ j → j < e5 → at0 l j ≠ 10):=hid (fun j h1 h2 => by
           rcases Nat.lt_or_ge m j with h | h
           ·exact HNO.out j (by omega) h2
           ·obtain rfl : j = m:=(by omega);exact hm10)
          clear hm10;go_wp2_with fail
          go_round
          case rel => exact ⟨m,(m:Int) - 1,rfl,by go_num,rfl,by omega,by omega,HN⟩
          case measure => simp [RowKit.intOf] <;> omega
        ·obtain rfl : k = bb:=(by omega);have HVB:=hid (show bol l e5 = k from (bol_kept l i e5 hie hel (fun j h1 h2 => HNO.out j (by rw [HBI.out] at h1; exact h1) h2)).trans HBI.out);rcases Nat.eq_zero_or_pos k with rfl | hk1
         ·obtain rfl : z = -1:=(by omega);clear hz;go_wp2_with fail;go_roundw
          case rel =>
           have hstep:=step_inv hl HI.out HMO.out;obtain ⟨f2,hf2,hr2⟩:=scan_next HI.out.le HF.out HRR.out HMO.out hstep.2;exact ⟨_,f2,HS9.out,hb9,hstep.1,beg_stepL HH.out HCL.out HBS.out HMO.out,HOK.out,(by unfold opStr; rw [HQ9.out]),rfl,(by rw [HVB.out] <;> first | rfl | go_num),rfl,hf2,hr2⟩
          case measure =>
           have hstep:=step_inv hl HI.out HMO.out;have hlt2:=hstep.2;have hle2:=hstep.1.le;dsimp only at hlt2 hle2;simp [RowKit.intOf];omega
         ·obtain ⟨m,rfl⟩ : ∃ m,k = m + 1:=⟨k - 1,by omega⟩;obtain rfl : z = (m:Int):=(by omega);clear hz;have c1 : decide ((0:Int) ≤ (m:Int)) = true:=decide_eq_true (by omega);have c2 : decide (((m + 1:Nat):Int) ≤ (m:Int)) = false:=decide_eq_false (by omega);have c3 : decide ((m:Int) + 1 ≤ (m:Int)) = false:=decide_eq_false (by omega);go_wp2_with fail;go_roundw
          case rel =>
           have hstep:=step_inv hl HI.out HMO.out;obtain ⟨f2,hf2,hr2⟩:=scan_next HI.out.le HF.out HRR.out HMO.out hstep.2;exact ⟨_,f2,HS9.out,hb9,hstep.1,beg_stepL HH.out HCL.out HBS.out HMO.out,HOK.out,(by unfold opStr; rw [HQ9.out]),rfl,(by rw [HVB.out] <;> first | rfl | go_num),rfl,hf2,hr2⟩
          case measure =>
           have hstep:=step_inv hl HI.out HMO.out;have hlt2:=hstep.2;have hle2:=hstep.1.le;dsimp only at hlt2 hle2;simp [RowKit.intOf];omega
    | true =>
     have hwi : (i:Int) - (bb:Int) = (width l i:Int):=(by have:=bol_add l i; rw [HBI.out] at this; omega);have hwb : width l i ≤ 16000:=(by have:=width_le l i; omega);obtain ⟨W,hW⟩ : ∃ W,width l i = W:=⟨_,rfl⟩;rw [hW] at hwi hwb;have HW:=hid hW;have w1' : IntKind.i64.wrap ((i:Int) - (bb:Int)) = (W:Int):=(by rw [hwi]; exact IntWalk.i64_in _ (by omega));clear hW hwi;obtain ⟨gg,cap,hvi,hpop,hcap1,hcap2,hcell⟩:=HR.out.popI;injection hvi with e1 _ e3;subst e1 e3;have hrow:=Row.of_own HR.out.oi;have HROW:=hid hrow;have hxb : x ≤ 16000:=HBD.out x (by simp);have n1 : IntKind.i64.wrap ((ind0.length:Int) + 1 - 1) = (ind0.length:Int):=(by rw [show (ind0.length:Int) + 1 - 1 = (ind0.length:Int) by omega]; exact IntWalk.i64_in _ (by omega));clear hpop hrow;go_wp2_with fail;refine HBL.out.mono ?_;rintro e w3 ⟨rfl,rfl⟩;go_wp2_with fail
     go_loop [13,86] (fun kn ix => ∃ k : Nat,k ≤ ind0.length + 1∧ix = .int .i64 (k:Int)∧kn = .bool (((x :: ind0).reverse.take k).contains W)) (fun _ ix => ind0.length + 1 - (RowKit.intOf ix).toNat)
     case atStart => exact ⟨0,Nat.zero_le _,rfl,rfl⟩
     case round =>
      obtain ⟨k,hk,rfl,rfl⟩:=hrel
      by_cases hlt2 : k < ind0.length + 1
      ·obtain ⟨y,hy⟩ : ∃ y,(x :: ind0).reverse[k]? = some y:=⟨_,List.getElem?_eq_getElem (by simpa using hlt2)⟩;obtain ⟨b0,o0,e0,hb0,hc0⟩:=HROW.out.at_ (k:=k) (by rw [intc_len]; simpa using hlt2);injection e0 with e0;injection e0 with e1 e2 _;subst e1 e2;have hcy:=hc0 k (.int .i64 (y:Int)) (by simp only [intc,List.getElem?_map,hy]; rfl);rw [Nat.zero_add] at hcy;have hnx:=take_contains (x :: ind0).reverse k y W hy;have HNX:=hid hnx;have hkd : decide ((k:Int) < (ind0.length:Int) + 1) = true:=decide_eq_true (by omega);clear hnx hc0 hy;cases hkn : ((x :: ind0).reverse.take k).contains W with
       | true =>
        rw [hkn] at HNX;clear hkn;go_wp2_with fail
        go_round
        case rel => exact ⟨k + 1,by omega,by go_num,by rw [HNX.out]; rfl⟩
        case measure => simp [RowKit.intOf] <;> omega
       | false =>
        rw [hkn] at HNX;clear hkn
        by_cases hyw : y = W
        ·subst hyw;go_wp2_with fail
         go_round
         case rel => exact ⟨k + 1,by omega,by go_num,by rw [HNX.out]; simp⟩
         case measure => simp [RowKit.intOf] <;> omega
        ·have c1 : ((y:Int) == (W:Int)) = false:=(by rw [beq_eq_false_iff_ne]; omega);have c2 : (y == W) = false:=(by rw [beq_eq_false_iff_ne]; exact hyw);rw [c2] at HNX;clear hyw c2;go_wp2_with fail
         go_round
         case rel => exact ⟨k + 1,by omega,by go_num,by rw [HNX.out]; rfl⟩
         case measure => simp [RowKit.intOf] <;> omega
      ·have hkd : decide ((k:Int) < (ind0.length:Int) + 1) = false:=decide_eq_false (by omega);have hta : (x :: ind0).reverse.take k = (x :: ind0).reverse:=List.take_of_length_le (by simp; omega);rw [hta];clear hta
       by_cases hxw : x < W
       ·as_aux_lemma =>
        have dx : decide ((x:Int) < (W:Int)) = true:=decide_eq_true (by omega);have hD0 : dedent W (W :: x :: ind0) = (W :: x :: ind0,0):=by
         unfold dedent;rw [if_neg (by omega)]
        obtain ⟨D,hD⟩ : ∃ D,dedent W (W :: x :: ind0) = D:=⟨_,rfl⟩;have HDD:=hid hD;have HTKD : Hid (stepS l ⟨sat,x :: ind0,sop,stk,true⟩ = takeTok l i ⟨sat,D.1,sop,(stk ++ [tokAt l 2 [] i]) ++ List.replicate D.2 (tokAt l 3 [] i),false⟩):=hid (by
         have hin : indent (width l i) (x :: ind0) = some (W :: x :: ind0,[2]):=by
          unfold indent;rw [HW.out,List.headD_cons,if_pos hxw]
         rw [HST.out];unfold stepB;rw [if_neg hend,if_neg H10.out,if_pos rfl];simp only [hin];rw [← HDD.out,hD0];simp)
        have HMEM : Hid (W ∈ W :: x :: ind0):=hid (by simp);have HDI : Hid (∀ y ∈ W :: x :: ind0,y ≤ 100000):=hid (fun y hy => by
         rcases List.mem_cons.1 hy with rfl | h
         ·omega
         ·have:=HBD.out y h;omega)
        have HLI : Hid ((W :: x :: ind0).length + 0 ≤ 100000):=hid (by simp; omega);have m1 : (x :: ind0).length + 1 ≤ maxLen:=(by unfold maxLen; simp; omega);have m2 : ((x :: ind0).length + 1) * 8 ≤ 140737488355328:=(by simp; omega);have hi0:=HI0.out;have hz0:=HZ0.out;have hz1:=HZ1.out;have hz2:=HZ2.out;clear hD hD0
        go_wp2_with (at_builtin --
                     refine wpList_append_row _ rfl (.tmp 105) (.tmp 107) 51 rfl w.heap.size 3 i0 (.int .i64 0) 1 8 Tryz.underlying51 hi0 hz0 hz1 hz2 rfl (by decide) (.slice (some ⟨gg,0,none⟩) (ind0.length + 1) ci) (x :: ind0).length (intc (x :: ind0).reverse) rfl (HR.out.oi.alloc _) (some ⟨wr.heap.size,0,none⟩) 1 1 [.int .i64 (W:Int)] rfl rfl (Row.new wr #[.int .i64 (W:Int)] 3) (by simp [Value.oneCell']) m1 m2 (by have:=hbr.size; simp; omega) ?_
                     intro v3 w3 hown3 hg3 hat3
                     have hR3:=(TkR.alloc HR.out (.cells #[.int .i64 (W:Int)] 3)).growI hg3 (ind':=W :: x :: ind0) (by rw [intc_rev W (x :: ind0)]; exact hown3)
                     have hb3:=(hbr.alloc hbr.size (.cells #[.int .i64 (W:Int)] 3)).grown hg3 (by simp; have:=hbr.size; omega) (fun g' e => (HR.out.oi.lt g' e).1)
                     have HR3:=hid hR3
                     clear hR3 hown3 hg3 hat3)
        refine (addE_any HH.out HCL.out hl HR3.out hb3 hT (by omega) HBG.out 2 hil).mono ?_;rintro e w4 ⟨vt4,rfl,hs4,hb4⟩;have HS4:=hid hs4;clear hs4 hi0 hz0 hz1 hz2 m1 m2 dx;go_wp2_with fail;have htlen : (stk ++ [tokAt l 2 [] i]).length ≤ 100000:=(by rw [List.length_append,List.length_singleton]; omega);clear hcell hcap1 hcap2 n1 hkd
        go_loopw [5,6] (fun vt vi wr => IRelT w w.heap.size l i W (stk ++ [tokAt l 2 [] i]) D vt vi wr) (fun _ vi _ => lenW vi)
        case atStart => exact ⟨W :: x :: ind0,0,by simpa using HS4.out,hb4,HMEM.out,HDI.out,HLI.out,by rw [HDD.out]; rfl⟩
        case round =>
         obtain ⟨indc,j,hs,hbr2,hmem,hdc,hlc,hDc⟩:=hrel;cases indc with
         | nil => exact absurd hmem (by simp)
         | cons y rest =>
          obtain ⟨g2,cap2,rfl,hpop2,hle1,hle2,hcy⟩:=hs.popI;have hyb : y ≤ 100000:=hdc y (by simp);have hlr : rest.length + 1 + j ≤ 100000:=(by simpa using hlc);have n1 : IntKind.i64.wrap ((rest.length:Int) + 1 - 1) = (rest.length:Int):=(by rw [show (rest.length:Int) + 1 - 1 = (rest.length:Int) by omega]; exact IntWalk.i64_in _ (by omega));have n2 : IntKind.i64.wrap (rest.length:Int) = (rest.length:Int):=IntWalk.i64_in _ (by omega);have HS2:=hid hs;have HPOP2:=hid hpop2;have HM2:=hid hmem;have HDC:=hid hdc;have HDR:=hid hDc;have htl : ((stk ++ [tokAt l 2 [] i]) ++ List.replicate j (tokAt l 3 [] i)).length ≤ 1000000:=(by rw [List.length_append,List.length_replicate]; omega);have HTS:=hid htl;clear hs hpop2 hmem hdc hDc htl hlc
          by_cases hy : W < y
          ·have dd : decide ((W:Int) < (y:Int)) = true:=decide_eq_true (by omega);go_wp2_with fail;refine (addE_any HH.out HCL.out hl HPOP2.out hbr2 hT HTS.out HBG.out 3 hil).mono ?_;rintro e w7 ⟨vt7,rfl,hs7,hb7⟩;have HS7:=hid hs7;clear hs7;go_wp2_with fail;go_roundw
           case rel =>
            refine ⟨rest,j + 1,?_,hb7,?_,fun z hz => HDC.out z (List.mem_cons_of_mem _ hz),by omega,?_⟩
            ·rw [List.replicate_succ',← List.append_assoc];exact HS7.out
            ·rcases List.mem_cons.1 HM2.out with e | e
             ·omega
             ·exact e
            ·rw [HDR.out];have e : dedent W (y :: rest) = ((dedent W rest).1,(dedent W rest).2 + 1):=by
              conv => lhs; unfold dedent
              rw [if_pos hy]
             rw [e];show (_,_) = (_,_);rw [show (dedent W rest).2 + 1 + j = (dedent W rest).2 + (j + 1) by omega]
           case measure => simp [lenW]
          ·have dd : decide ((W:Int) < (y:Int)) = false:=decide_eq_false (by omega);have HTK:=hid (show stepS l ⟨sat,x :: ind0,sop,stk,true⟩ = takeTok l i ⟨sat,y :: rest,sop,(stk ++ [tokAt l 2 [] i]) ++ List.replicate j (tokAt l 3 [] i),false⟩ by
            rw [HTKD.out,HDR.out];have e : dedent W (y :: rest) = (y :: rest,0):=by
             conv => lhs; unfold dedent
             rw [if_neg hy]
            rw [e,Nat.zero_add])
           go_wp2_with fail
           -- a token is scanned
           go_wp2_with fail;refine (rnext_any l i _ hl hlt (hm.keepB hbr2)).mono ?_;rintro e w5 hpost;cases hr : lexTok (l.drop i) with
           | error zz =>
            obtain ⟨c5,k5⟩:=zz;rw [hr] at hpost;obtain ⟨hb5,pk,pn,rfl⟩:=hpost;have hft:=scan_fault HI.out.le HF.out HRR.out (HTK.out.trans (take_err hr));have hcb : (c5 != 0) = true:=(by simpa using lexTok_err hr);have hR5:=TkR.belowS HS2.out hb5;have hbn:=below_then hbr2 hb5 (Below.size hbr2);clear hr hb5;obtain ⟨q1,q2,q3⟩:=hR5.blk.rules;obtain ⟨j5,hj5⟩ : ∃ j5 : Nat,i + k5 = j5:=⟨_,rfl⟩;rw [hj5] at hft ⊢;have HFT:=hid hft;clear hft hj5;unfold pcV;go_wp2_with fail;go_region
            all_goals go_wp2_with fail
            have hbs:=(hbn.setCell (p:=⟨w.heap.size,0,none⟩) (Nat.le_refl _) (.int .i64 c5)).setCell (p:=⟨w.heap.size,1,none⟩) (Nat.le_refl _) (.int .i64 (j5:Int))
            all_goals exact ret_tmp_blk rfl rfl ((((hR5.blk.set_ 0 (.int .i64 c5)).set_ 1 (.int .i64 (j5:Int))).alloc _).drew) _ Tryz.underlying29 rfl (by kernel_rfl) rfl _ rfl (ScPost.errT HFT.out rfl ((hbs.alloc hbs.size _).drew))
           | ok zz =>
            obtain ⟨k5,n5⟩:=zz;rw [hr] at hpost;obtain ⟨hb5,rfl⟩:=hpost;have hln:=lex_len hr;rw [List.length_drop] at hln;obtain ⟨e5,he5⟩ : ∃ e5,i + n5 = e5:=⟨_,rfl⟩;have hie : i ≤ e5:=(by omega);have hel : e5 ≤ l.length:=(by omega);have hsub:=run_sub l i e5 hie hel (i:Int) (e5:Int) rfl rfl;have hn5 : e5 - i = n5:=(by omega);rw [hn5] at hsub;have HN5:=hid hn5;have hR5:=TkR.belowS HS2.out hb5;have hbn:=below_then hbr2 hb5 (Below.size hbr2);have hP6:=Blk.new w5 188 #[.int .i64 k5,.int .i64 (e5:Int),.int .i64 0,.int .i64 0];have hR6:=hR5.alloc (.cells #[.int .i64 k5,.int .i64 (e5:Int),.int .i64 0,.int .i64 0] 188);have hb6:=hbn.alloc hbn.size (.cells #[.int .i64 k5,.int .i64 (e5:Int),.int .i64 0,.int .i64 0] 188);have hpos : 0 < e5:=(by omega);rw [he5];clear hb5 hR5 hbn hln hn5;unfold pcV
            by_cases hk8 : k5 = 8
            ·subst hk8;obtain ⟨t5,ht5⟩ : ∃ t5,(l.drop i).take n5 = t5:=⟨_,rfl⟩;have hbra : ∀ W : World,Calls Tryz.prog 129 #[.string ⟨q.toArray⟩,.string ⟨t5.toArray⟩] W fun e w' => e = .returned (brV sop (bracket sop t5))∧Below W.heap.size W w':=fun W => by
              have h:=bracket_any sop t5 HOK.out (by omega) W
              rwa [show opStr sop = .string ⟨q.toArray⟩ by unfold opStr; rw [HQ.out]] at h
             rw [ht5] at hsub;cases hbk : bracket sop t5 with
             | none =>
              have HFT:=hid (scan_fault HI.out.le HF.out HRR.out (HTK.out.trans (take_bad hr (by rw [ht5]; exact hbk))));rw [hbk] at hbra;have HBRA:=hid hbra;clear hbra hr hbk ht5 he5;go_wp2_with fail;refine (HBRA.out _).mono ?_;rintro e w7 ⟨rfl,hb7⟩;have hR7:=hR6.belowS hb7;have hb7n:=below_then hb6 hb7 hb6.size;rw [show brV sop none = .tuple #[.string ⟨q.toArray⟩,.bool false] by rw [← HQ.out]; rfl];go_wp2_with fail;refine (atR_any 1 (i:Int) _).mono ?_;rintro e w8 ⟨rfl,hb8⟩;have hR8:=TkR.belowS hR7 hb8;have hbn:=below_then hb7n hb8 (Below.size hb7n);obtain ⟨q1,q2,q3⟩:=hR8.blk.rules;unfold flt;go_wp2_with fail;exact ret_tmp_blk rfl rfl ((hR8.blk.set_ 0 (.int .i64 1)).set_ 1 (.int .i64 (i:Int))) _ Tryz.underlying29 rfl (by kernel_rfl) rfl _ rfl (ScPost.errT HFT.out rfl ((hbn.setCell (p:=⟨w.heap.size,0,none⟩) (Nat.le_refl _) _).setCell (p:=⟨w.heap.size,1,none⟩) (Nat.le_refl _) _))
             | some op5 =>
              have hmo:=HTK.out.trans (take_sign hr (by rw [ht5]; exact hbk));have hop5:=HOK.out.step hbk;rw [he5] at hmo;have HMO:=hid hmo;have HOP5:=hid hop5;rw [hbk] at hbra;have HBRA:=hid hbra;clear hbra hr hbk ht5 he5 hmo hop5;go_wp2_with fail;refine (HBRA.out _).mono ?_;rintro e w7 ⟨rfl,hb7⟩;have hR7:=hR6.belowS hb7;have hb7n:=below_then hb6 hb7 hb6.size;have hP7:=hP6.belowS hb7;clear hR6 hb6 hP6 hb7;obtain ⟨q9,hq9⟩ : ∃ q9,op5.reverse = q9:=⟨_,rfl⟩;rw [show brV sop (some op5) = .tuple #[.string ⟨q9.toArray⟩,.bool true] by rw [← hq9]; rfl];have HQ9:=hid hq9;clear hq9;obtain ⟨k5,hk5⟩ : ∃ k5 : Int,k5 = 8:=⟨_,rfl⟩;rw [← hk5] at HMO hP7;clear hk5
              -- the token is added; the beginning of the line is looked for
              have hR7:=hR7;have hb7:=hb7n;have hP7:=hP7;obtain ⟨p1,p2,p3⟩:=hP7.rules;go_wp2_with fail;refine (addT_any HH.out HCL.out hl hR7 hb7 hT HTS.out HBG.out k5 e5 hie hel (e5:Int) rfl).mono ?_;rw [HN5.out];rintro e w9 ⟨vt9,rfl,hs9,hb9,hkeep⟩;have hP9:=hkeep _ _ _ (by decide) hP7;have HS9:=hid hs9;clear hs9 hkeep hP7 hb7 hR7 p1 p2 p3;obtain ⟨p1,p2,p3⟩:=hP9.rules;have e1 : IntKind.i64.wrap ((e5:Int) - 1) = (e5:Int) - 1:=IntWalk.i64_in _ (by omega);go_wp2_with fail;clear e1 hsub hix c10 d1
              go_loop [9,19] (fun vb v => ∃ (k:Nat) (z:Int),vb = .int .i64 (bb:Int)∧v = .int .i64 z∧z = (k:Int) - 1∧bb ≤ k∧k ≤ e5∧Hid (∀ j,k ≤ j → j < e5 → at0 l j ≠ 10)) (fun _ v => (RowKit.intOf v + 1).toNat)
              case atStart => exact ⟨e5,(e5:Int) - 1,rfl,rfl,rfl,by omega,Nat.le_refl _,hid (fun j h1 h2 => by omega)⟩
              case round =>
               obtain ⟨k,z,rfl,rfl,hz,hbk2,hke,HNO⟩:=hrel
               by_cases hkb : bb < k
               ·obtain ⟨m,rfl⟩ : ∃ m,k = m + 1:=⟨k - 1,by omega⟩;obtain rfl : z = (m:Int):=(by omega);clear hz;have hix2:=run_idx l m (by omega) (m:Int) rfl;have c1 : decide ((0:Int) ≤ (m:Int)) = true:=decide_eq_true (by omega);have c2 : decide ((bb:Int) ≤ (m:Int)) = true:=decide_eq_true (by omega)
                by_cases hm10 : at0 l m = 10
                ·rw [hm10] at hix2;have HVB:=hid (bol_found l m e5 (by omega) hel hm10 (fun j h1 h2 => HNO.out j (by omega) h2));clear hm10;go_wp2_with fail;go_roundw
                 case rel =>
                  have hstep:=step_inv hl HI.out HMO.out;obtain ⟨f2,hf2,hr2⟩:=scan_next HI.out.le HF.out HRR.out HMO.out hstep.2;exact ⟨_,f2,HS9.out,hb9,hstep.1,beg_stepL HH.out HCL.out HBS.out HMO.out,HOP5.out,(by unfold opStr; rw [HQ9.out]),rfl,(by rw [HVB.out] <;> first | rfl | go_num),rfl,hf2,hr2⟩
                 case measure =>
                  have hstep:=step_inv hl HI.out HMO.out;have hlt2:=hstep.2;have hle2:=hstep.1.le;dsimp only at hlt2 hle2;simp [RowKit.intOf];omega
                ·have c3:=eqb_f 10 10 rfl hm10;have HN : Hid (∀ j,m ≤ j → j < e5 → at0 l j ≠ 10):=hid (fun j h1 h2 => by
                  rcases Nat.lt_or_ge m j with h | h
                  ·exact HNO.out j (by omega) h2
                  ·obtain rfl : j = m:=(by omega);exact hm10)
                 clear hm10;go_wp2_with fail
                 go_round
                 case rel => exact ⟨m,(m:Int) - 1,rfl,by go_num,rfl,by omega,by omega,HN⟩
                 case measure => simp [RowKit.intOf] <;> omega
               ·obtain rfl : k = bb:=(by omega);have HVB:=hid (show bol l e5 = k from (bol_kept l i e5 hie hel (fun j h1 h2 => HNO.out j (by rw [HBI.out] at h1; exact h1) h2)).trans HBI.out);rcases Nat.eq_zero_or_pos k with rfl | hk1
                ·obtain rfl : z = -1:=(by omega);clear hz;go_wp2_with fail;go_roundw
                 case rel =>
                  have hstep:=step_inv hl HI.out HMO.out;obtain ⟨f2,hf2,hr2⟩:=scan_next HI.out.le HF.out HRR.out HMO.out hstep.2;exact ⟨_,f2,HS9.out,hb9,hstep.1,beg_stepL HH.out HCL.out HBS.out HMO.out,HOP5.out,(by unfold opStr; rw [HQ9.out]),rfl,(by rw [HVB.out] <;> first | rfl | go_num),rfl,hf2,hr2⟩
                 case measure =>
                  have hstep:=step_inv hl HI.out HMO.out;have hlt2:=hstep.2;have hle2:=hstep.1.le;dsimp only at hlt2 hle2;simp [RowKit.intOf];omega
                ·obtain ⟨m,rfl⟩ : ∃ m,k = m + 1:=⟨k - 1,by omega⟩;obtain rfl : z = (m:Int):=(by omega);clear hz;have c1 : decide ((0:Int) ≤ (m:Int)) = true:=decide_eq_true (by omega);have c2 : decide (((m + 1:Nat):Int) ≤ (m:Int)) = false:=decide_eq_false (by omega);have c3 : decide ((m:Int) + 1 ≤ (m:Int)) = false:=decide_eq_false (by omega);go_wp2_with fail;go_roundw
                 case rel =>
                  have hstep:=step_inv hl HI.out HMO.out;obtain ⟨f2,hf2,hr2⟩:=scan_next HI.out.le HF.out HRR.out HMO.out hstep.2;exact ⟨_,f2,HS9.out,hb9,hstep.1,beg_stepL HH.out HCL.out HBS.out HMO.out,HOP5.out,(by unfold opStr; rw [HQ9.out]),rfl,(by rw [HVB.out] <;> first | rfl | go_num),rfl,hf2,hr2⟩
                 case measure =>
                  have hstep:=step_inv hl HI.out HMO.out;have hlt2:=hstep.2;have hle2:=hstep.1.le;dsimp only at hlt2 hle2;simp [RowKit.intOf];omega
            ·have hmo:=HTK.out.trans (take_ok hr hk8);rw [he5] at hmo;have HMO:=hid hmo;have hk : (k5 == 8) = false:=(by rw [beq_eq_false_iff_ne]; exact hk8);have HQ9:=HQ;clear hmo hr he5 hk8;go_wp2_with fail
             -- the token is added; the beginning of the line is looked for
             have hR7:=hR6;have hb7:=hb6;have hP7:=hP6;obtain ⟨p1,p2,p3⟩:=hP7.rules;go_wp2_with fail;refine (addT_any HH.out HCL.out hl hR7 hb7 hT HTS.out HBG.out k5 e5 hie hel (e5:Int) rfl).mono ?_;rw [HN5.out];rintro e w9 ⟨vt9,rfl,hs9,hb9,hkeep⟩;have hP9:=hkeep _ _ _ (by decide) hP7;have HS9:=hid hs9;clear hs9 hkeep hP7 hb7 hR7 p1 p2 p3;obtain ⟨p1,p2,p3⟩:=hP9.rules;have e1 : IntKind.i64.wrap ((e5:Int) - 1) = (e5:Int) - 1:=IntWalk.i64_in _ (by omega);go_wp2_with fail;clear e1 hsub hix c10 d1
             go_loop [9,19] (fun vb v => ∃ (k:Nat) (z:Int),vb = .int .i64 (bb:Int)∧v = .int .i64 z∧z = (k:Int) - 1∧bb ≤ k∧k ≤ e5∧Hid (∀ j,k ≤ j → j < e5 → at0 l j ≠ 10)) (fun _ v => (RowKit.intOf v + 1).toNat)
             case atStart => exact ⟨e5,(e5:Int) - 1,rfl,rfl,rfl,by omega,Nat.le_refl _,hid (fun j h1 h2 => by omega)⟩
             case round =>
              obtain ⟨k,z,rfl,rfl,hz,hbk2,hke,HNO⟩:=hrel
              by_cases hkb : bb < k
              ·obtain ⟨m,rfl⟩ : ∃ m,k = m + 1:=⟨k - 1,by omega⟩;obtain rfl : z = (m:Int):=(by omega);clear hz;have hix2:=run_idx l m (by omega) (m:Int) rfl;have c1 : decide ((0:Int) ≤ (m:Int)) = true:=decide_eq_true (by omega);have c2 : decide ((bb:Int) ≤ (m:Int)) = true:=decide_eq_true (by omega)
               by_cases hm10 : at0 l m = 10
               ·rw [hm10] at hix2;have HVB:=hid (bol_found l m e5 (by omega) hel hm10 (fun j h1 h2 => HNO.out j (by omega) h2));clear hm10;go_wp2_with fail;go_roundw
                case rel =>
                 have hstep:=step_inv hl HI.out HMO.out;obtain ⟨f2,hf2,hr2⟩:=scan_next HI.out.le HF.out HRR.out HMO.out hstep.2;exact ⟨_,f2,HS9.out,hb9,hstep.1,beg_stepL HH.out HCL.out HBS.out HMO.out,HOK.out,(by unfold opStr; rw [HQ9.out]),rfl,(by rw [HVB.out] <;> first | rfl | go_num),rfl,hf2,hr2⟩
                case measure =>
                 have hstep:=step_inv hl HI.out HMO.out;have hlt2:=hstep.2;have hle2:=hstep.1.le;dsimp only at hlt2 hle2;simp [RowKit.intOf];omega
               ·have c3:=eqb_f 10 10 rfl hm10;have HN : Hid (∀ j,m ≤ j → j < e5 → at0 l j ≠ 10):=hid (fun j h1 h2 => by
                 rcases Nat.lt_or_ge m j with h | h
                 ·exact HNO.out j (by omega) h2
                 ·obtain rfl : j = m:=(by omega);exact hm10)
                clear hm10;go_wp2_with fail
                go_round
                case rel => exact ⟨m,(m:Int) - 1,rfl,by go_num,rfl,by omega,by omega,HN⟩
                case measure => simp [RowKit.intOf] <;> omega
              ·obtain rfl : k = bb:=(by omega);have HVB:=hid (show bol l e5 = k from (bol_kept l i e5 hie hel (fun j h1 h2 => HNO.out j (by rw [HBI.out] at h1; exact h1) h2)).trans HBI.out);rcases Nat.eq_zero_or_pos k with rfl | hk1
               ·obtain rfl : z = -1:=(by omega);clear hz;go_wp2_with fail;go_roundw
                case rel =>
                 have hstep:=step_inv hl HI.out HMO.out;obtain ⟨f2,hf2,hr2⟩:=scan_next HI.out.le HF.out HRR.out HMO.out hstep.2;exact ⟨_,f2,HS9.out,hb9,hstep.1,beg_stepL HH.out HCL.out HBS.out HMO.out,HOK.out,(by unfold opStr; rw [HQ9.out]),rfl,(by rw [HVB.out] <;> first | rfl | go_num),rfl,hf2,hr2⟩
                case measure =>
                 have hstep:=step_inv hl HI.out HMO.out;have hlt2:=hstep.2;have hle2:=hstep.1.le;dsimp only at hlt2 hle2;simp [RowKit.intOf];omega
               ·obtain ⟨m,rfl⟩ : ∃ m,k = m + 1:=⟨k - 1,by omega⟩;obtain rfl : z = (m:Int):=(by omega);clear hz;have c1 : decide ((0:Int) ≤ (m:Int)) = true:=decide_eq_true (by omega);have c2 : decide (((m + 1:Nat):Int) ≤ (m:Int)) = false:=decide_eq_false (by omega);have c3 : decide ((m:Int) + 1 ≤ (m:Int)) = false:=decide_eq_false (by omega);go_wp2_with fail;go_roundw
                case rel =>
                 have hstep:=step_inv hl HI.out HMO.out;obtain ⟨f2,hf2,hr2⟩:=scan_next HI.out.le HF.out HRR.out HMO.out hstep.2;exact ⟨_,f2,HS9.out,hb9,hstep.1,beg_stepL HH.out HCL.out HBS.out HMO.out,HOK.out,(by unfold opStr; rw [HQ9.out]),rfl,(by rw [HVB.out] <;> first | rfl | go_num),rfl,hf2,hr2⟩
                case measure =>
                 have hstep:=step_inv hl HI.out HMO.out;have hlt2:=hstep.2;have hle2:=hstep.1.le;dsimp only at hlt2 hle2;simp [RowKit.intOf];omega
       ·have dx : decide ((x:Int) < (W:Int)) = false:=decide_eq_false (by omega);cases hm2 : (x :: ind0).reverse.contains W with
        | false =>
         as_aux_lemma =>
         have HFT:=hid (scan_fault HI.out.le HF.out HRR.out (show stepS l ⟨sat,x :: ind0,sop,stk,true⟩ = .fault 17 i by
          have hin : indent (width l i) (x :: ind0) = none:=by
           unfold indent;rw [HW.out,List.headD_cons,if_neg hxw,if_neg];intro h;have : (x :: ind0).reverse.contains W = true:=(by simpa [or_comm] using h);rw [hm2] at this;exact absurd this (by decide)
          rw [HST.out];unfold stepB;rw [if_neg hend,if_neg H10.out,if_pos rfl];simp only [hin]))
         clear hm2;go_wp2_with fail;refine (atR_any 17 (i:Int) _).mono ?_;rintro e w8 ⟨rfl,hb8⟩;have hR8:=TkR.belowS HR.out hb8;have hbn:=below_then hbr hb8 (Below.size hbr);obtain ⟨q1,q2,q3⟩:=hR8.blk.rules;unfold flt;go_wp2_with fail;exact ret_tmp_blk rfl rfl ((hR8.blk.set_ 0 (.int .i64 17)).set_ 1 (.int .i64 (i:Int))) _ Tryz.underlying29 rfl (by kernel_rfl) rfl _ rfl (ScPost.errT HFT.out rfl ((hbn.setCell (p:=⟨w.heap.size,0,none⟩) (Nat.le_refl _) _).setCell (p:=⟨w.heap.size,1,none⟩) (Nat.le_refl _) _))
        | true =>
         as_aux_lemma =>
         have hmem : W ∈ x :: ind0:=by
          have : W ∈ (x :: ind0).reverse:=(by simpa using hm2);exact List.mem_reverse.1 this
         obtain ⟨D,hD⟩ : ∃ D,dedent W (x :: ind0) = D:=⟨_,rfl⟩;have HDD:=hid hD;have HTKD : Hid (stepS l ⟨sat,x :: ind0,sop,stk,true⟩ = takeTok l i ⟨sat,D.1,sop,stk ++ List.replicate D.2 (tokAt l 3 [] i),false⟩):=hid (by
          have hin : indent (width l i) (x :: ind0) = some ((dedent W (x :: ind0)).1,List.replicate (dedent W (x :: ind0)).2 3):=by
           unfold indent;rw [HW.out,List.headD_cons,if_neg hxw,if_pos];simpa using hmem
          rw [HST.out];unfold stepB;rw [if_neg hend,if_neg H10.out,if_pos rfl];simp only [hin];rw [HDD.out,List.map_replicate])
         have HMEM:=hid hmem;have HDI : Hid (∀ y ∈ x :: ind0,y ≤ 100000):=hid (fun y hy => by have:=HBD.out y hy; omega);have HLI : Hid ((x :: ind0).length + 0 ≤ 100000):=hid (by simp; omega);clear hD hmem hm2;go_wp2_with fail;have htlen : stk.length ≤ 100000:=(by omega);clear hcell hcap1 hcap2 n1 hkd
         go_loopw [5,6] (fun vt vi wr => IRelT w w.heap.size l i W (stk) D vt vi wr) (fun _ vi _ => lenW vi)
         case atStart => exact ⟨x :: ind0,0,by simpa using HR.out,hbr,HMEM.out,HDI.out,HLI.out,by rw [HDD.out]; rfl⟩
         case round =>
          obtain ⟨indc,j,hs,hbr2,hmem,hdc,hlc,hDc⟩:=hrel;cases indc with
          | nil => exact absurd hmem (by simp)
          | cons y rest =>
           obtain ⟨g2,cap2,rfl,hpop2,hle1,hle2,hcy⟩:=hs.popI;have hyb : y ≤ 100000:=hdc y (by simp);have hlr : rest.length + 1 + j ≤ 100000:=(by simpa using hlc);have n1 : IntKind.i64.wrap ((rest.length:Int) + 1 - 1) = (rest.length:Int):=(by rw [show (rest.length:Int) + 1 - 1 = (rest.length:Int) by omega]; exact IntWalk.i64_in _ (by omega));have n2 : IntKind.i64.wrap (rest.length:Int) = (rest.length:Int):=IntWalk.i64_in _ (by omega);have HS2:=hid hs;have HPOP2:=hid hpop2;have HM2:=hid hmem;have HDC:=hid hdc;have HDR:=hid hDc;have htl : ((stk) ++ List.replicate j (tokAt l 3 [] i)).length ≤ 1000000:=(by rw [List.length_append,List.length_replicate]; omega);have HTS:=hid htl;clear hs hpop2 hmem hdc hDc htl hlc
           by_cases hy : W < y
           ·have dd : decide ((W:Int) < (y:Int)) = true:=decide_eq_true (by omega);go_wp2_with fail;refine (addE_any HH.out HCL.out hl HPOP2.out hbr2 hT HTS.out HBG.out 3 hil).mono ?_;rintro e w7 ⟨vt7,rfl,hs7,hb7⟩;have HS7:=hid hs7;clear hs7;go_wp2_with fail;go_roundw
            case rel =>
             refine ⟨rest,j + 1,?_,hb7,?_,fun z hz => HDC.out z (List.mem_cons_of_mem _ hz),by omega,?_⟩
             ·rw [List.replicate_succ',← List.append_assoc];exact HS7.out
             ·rcases List.mem_cons.1 HM2.out with e | e
              ·omega
              ·exact e
             ·rw [HDR.out];have e : dedent W (y :: rest) = ((dedent W rest).1,(dedent W rest).2 + 1):=by
               conv => lhs; unfold dedent
               rw [if_pos hy]
              rw [e];show (_,_) = (_,_);rw [show (dedent W rest).2 + 1 + j = (dedent W rest).2 + (j + 1) by omega]
            case measure => simp [lenW]
           ·have dd : decide ((W:Int) < (y:Int)) = false:=decide_eq_false (by omega);have HTK:=hid (show stepS l ⟨sat,x :: ind0,sop,stk,true⟩ = takeTok l i ⟨sat,y :: rest,sop,(stk) ++ List.replicate j (tokAt l 3 [] i),false⟩ by
             rw [HTKD.out,HDR.out];have e : dedent W (y :: rest) = (y :: rest,0):=by
              conv => lhs; unfold dedent
              rw [if_neg hy]
             rw [e,Nat.zero_add])
            go_wp2_with fail
            -- a token is scanned
            go_wp2_with fail;refine (rnext_any l i _ hl hlt (hm.keepB hbr2)).mono ?_;rintro e w5 hpost;cases hr : lexTok (l.drop i) with
            | error zz =>
             obtain ⟨c5,k5⟩:=zz;rw [hr] at hpost;obtain ⟨hb5,pk,pn,rfl⟩:=hpost;have hft:=scan_fault HI.out.le HF.out HRR.out (HTK.out.trans (take_err hr));have hcb : (c5 != 0) = true:=(by simpa using lexTok_err hr);have hR5:=TkR.belowS HS2.out hb5;have hbn:=below_then hbr2 hb5 (Below.size hbr2);clear hr hb5;obtain ⟨q1,q2,q3⟩:=hR5.blk.rules;obtain ⟨j5,hj5⟩ : ∃ j5 : Nat,i + k5 = j5:=⟨_,rfl⟩;rw [hj5] at hft ⊢;have HFT:=hid hft;clear hft hj5;unfold pcV;go_wp2_with fail;go_region
             all_goals go_wp2_with fail
             have hbs:=(hbn.setCell (p:=⟨w.heap.size,0,none⟩) (Nat.le_refl _) (.int .i64 c5)).setCell (p:=⟨w.heap.size,1,none⟩) (Nat.le_refl _) (.int .i64 (j5:Int))
             all_goals exact ret_tmp_blk rfl rfl ((((hR5.blk.set_ 0 (.int .i64 c5)).set_ 1 (.int .i64 (j5:Int))).alloc _).drew) _ Tryz.underlying29 rfl (by kernel_rfl) rfl _ rfl (ScPost.errT HFT.out rfl ((hbs.alloc hbs.size _).drew))
            | ok zz =>
             obtain ⟨k5,n5⟩:=zz;rw [hr] at hpost;obtain ⟨hb5,rfl⟩:=hpost;have hln:=lex_len hr;rw [List.length_drop] at hln;obtain ⟨e5,he5⟩ : ∃ e5,i + n5 = e5:=⟨_,rfl⟩;have hie : i ≤ e5:=(by omega);have hel : e5 ≤ l.length:=(by omega);have hsub:=run_sub l i e5 hie hel (i:Int) (e5:Int) rfl rfl;have hn5 : e5 - i = n5:=(by omega);rw [hn5] at hsub;have HN5:=hid hn5;have hR5:=TkR.belowS HS2.out hb5;have hbn:=below_then hbr2 hb5 (Below.size hbr2);have hP6:=Blk.new w5 188 #[.int .i64 k5,.int .i64 (e5:Int),.int .i64 0,.int .i64 0];have hR6:=hR5.alloc (.cells #[.int .i64 k5,.int .i64 (e5:Int),.int .i64 0,.int .i64 0] 188);have hb6:=hbn.alloc hbn.size (.cells #[.int .i64 k5,.int .i64 (e5:Int),.int .i64 0,.int .i64 0] 188);have hpos : 0 < e5:=(by omega);rw [he5];clear hb5 hR5 hbn hln hn5;unfold pcV
             by_cases hk8 : k5 = 8
             ·subst hk8;obtain ⟨t5,ht5⟩ : ∃ t5,(l.drop i).take n5 = t5:=⟨_,rfl⟩;have hbra : ∀ W : World,Calls Tryz.prog 129 #[.string ⟨q.toArray⟩,.string ⟨t5.toArray⟩] W fun e w' => e = .returned (brV sop (bracket sop t5))∧Below W.heap.size W w':=fun W => by
               have h:=bracket_any sop t5 HOK.out (by omega) W
               rwa [show opStr sop = .string ⟨q.toArray⟩ by unfold opStr; rw [HQ.out]] at h
              rw [ht5] at hsub;cases hbk : bracket sop t5 with
              | none =>
               have HFT:=hid (scan_fault HI.out.le HF.out HRR.out (HTK.out.trans (take_bad hr (by rw [ht5]; exact hbk))));rw [hbk] at hbra;have HBRA:=hid hbra;clear hbra hr hbk ht5 he5;go_wp2_with fail;refine (HBRA.out _).mono ?_;rintro e w7 ⟨rfl,hb7⟩;have hR7:=hR6.belowS hb7;have hb7n:=below_then hb6 hb7 hb6.size;rw [show brV sop none = .tuple #[.string ⟨q.toArray⟩,.bool false] by rw [← HQ.out]; rfl];go_wp2_with fail;refine (atR_any 1 (i:Int) _).mono ?_;rintro e w8 ⟨rfl,hb8⟩;have hR8:=TkR.belowS hR7 hb8;have hbn:=below_then hb7n hb8 (Below.size hb7n);obtain ⟨q1,q2,q3⟩:=hR8.blk.rules;unfold flt;go_wp2_with fail;exact ret_tmp_blk rfl rfl ((hR8.blk.set_ 0 (.int .i64 1)).set_ 1 (.int .i64 (i:Int))) _ Tryz.underlying29 rfl (by kernel_rfl) rfl _ rfl (ScPost.errT HFT.out rfl ((hbn.setCell (p:=⟨w.heap.size,0,none⟩) (Nat.le_refl _) _).setCell (p:=⟨w.heap.size,1,none⟩) (Nat.le_refl _) _))
              | some op5 =>
               have hmo:=HTK.out.trans (take_sign hr (by rw [ht5]; exact hbk));have hop5:=HOK.out.step hbk;rw [he5] at hmo;have HMO:=hid hmo;have HOP5:=hid hop5;rw [hbk] at hbra;have HBRA:=hid hbra;clear hbra hr hbk ht5 he5 hmo hop5;go_wp2_with fail;refine (HBRA.out _).mono ?_;rintro e w7 ⟨rfl,hb7⟩;have hR7:=hR6.belowS hb7;have hb7n:=below_then hb6 hb7 hb6.size;have hP7:=hP6.belowS hb7;clear hR6 hb6 hP6 hb7;obtain ⟨q9,hq9⟩ : ∃ q9,op5.reverse = q9:=⟨_,rfl⟩;rw [show brV sop (some op5) = .tuple #[.string ⟨q9.toArray⟩,.bool true] by rw [← hq9]; rfl];have HQ9:=hid hq9;clear hq9;obtain ⟨k5,hk5⟩ : ∃ k5 : Int,k5 = 8:=⟨_,rfl⟩;rw [← hk5] at HMO hP7;clear hk5
               -- the token is added; the beginning of the line is looked for
               have hR7:=hR7;have hb7:=hb7n;have hP7:=hP7;obtain ⟨p1,p2,p3⟩:=hP7.rules;go_wp2_with fail;refine (addT_any HH.out HCL.out hl hR7 hb7 hT HTS.out HBG.out k5 e5 hie hel (e5:Int) rfl).mono ?_;rw [HN5.out];rintro e w9 ⟨vt9,rfl,hs9,hb9,hkeep⟩;have hP9:=hkeep _ _ _ (by decide) hP7;have HS9:=hid hs9;clear hs9 hkeep hP7 hb7 hR7 p1 p2 p3;obtain ⟨p1,p2,p3⟩:=hP9.rules;have e1 : IntKind.i64.wrap ((e5:Int) - 1) = (e5:Int) - 1:=IntWalk.i64_in _ (by omega);go_wp2_with fail;clear e1 hsub hix c10 d1
               go_loop [9,19] (fun vb v => ∃ (k:Nat) (z:Int),vb = .int .i64 (bb:Int)∧v = .int .i64 z∧z = (k:Int) - 1∧bb ≤ k∧k ≤ e5∧Hid (∀ j,k ≤ j → j < e5 → at0 l j ≠ 10)) (fun _ v => (RowKit.intOf v + 1).toNat)
               case atStart => exact ⟨e5,(e5:Int) - 1,rfl,rfl,rfl,by omega,Nat.le_refl _,hid (fun j h1 h2 => by omega)⟩
               case round =>
                obtain ⟨k,z,rfl,rfl,hz,hbk2,hke,HNO⟩:=hrel
                by_cases hkb : bb < k
                ·obtain ⟨m,rfl⟩ : ∃ m,k = m + 1:=⟨k - 1,by omega⟩;obtain rfl : z = (m:Int):=(by omega);clear hz;have hix2:=run_idx l m (by omega) (m:Int) rfl;have c1 : decide ((0:Int) ≤ (m:Int)) = true:=decide_eq_true (by omega);have c2 : decide ((bb:Int) ≤ (m:Int)) = true:=decide_eq_true (by omega)
                 by_cases hm10 : at0 l m = 10
                 ·rw [hm10] at hix2;have HVB:=hid (bol_found l m e5 (by omega) hel hm10 (fun j h1 h2 => HNO.out j (by omega) h2));clear hm10;go_wp2_with fail;go_roundw
                  case rel =>
                   have hstep:=step_inv hl HI.out HMO.out;obtain ⟨f2,hf2,hr2⟩:=scan_next HI.out.le HF.out HRR.out HMO.out hstep.2;exact ⟨_,f2,HS9.out,hb9,hstep.1,beg_stepL HH.out HCL.out HBS.out HMO.out,HOP5.out,(by unfold opStr; rw [HQ9.out]),rfl,(by rw [HVB.out] <;> first | rfl | go_num),rfl,hf2,hr2⟩
                  case measure =>
                   have hstep:=step_inv hl HI.out HMO.out;have hlt2:=hstep.2;have hle2:=hstep.1.le;dsimp only at hlt2 hle2;simp [RowKit.intOf];omega
                 ·have c3:=eqb_f 10 10 rfl hm10;have HN : Hid (∀ j,m ≤ j → j < e5 → at0 l j ≠ 10):=hid (fun j h1 h2 => by
                   rcases Nat.lt_or_ge m j with h | h
                   ·exact HNO.out j (by omega) h2
                   ·obtain rfl : j = m:=(by omega);exact hm10)
                  clear hm10;go_wp2_with fail
                  go_round
                  case rel => exact ⟨m,(m:Int) - 1,rfl,by go_num,rfl,by omega,by omega,HN⟩
                  case measure => simp [RowKit.intOf] <;> omega
                ·obtain rfl : k = bb:=(by omega);have HVB:=hid (show bol l e5 = k from (bol_kept l i e5 hie hel (fun j h1 h2 => HNO.out j (by rw [HBI.out] at h1; exact h1) h2)).trans HBI.out);rcases Nat.eq_zero_or_pos k with rfl | hk1
                 ·obtain rfl : z = -1:=(by omega);clear hz;go_wp2_with fail;go_roundw
                  case rel =>
                   have hstep:=step_inv hl HI.out HMO.out;obtain ⟨f2,hf2,hr2⟩:=scan_next HI.out.le HF.out HRR.out HMO.out hstep.2;exact ⟨_,f2,HS9.out,hb9,hstep.1,beg_stepL HH.out HCL.out HBS.out HMO.out,HOP5.out,(by unfold opStr; rw [HQ9.out]),rfl,(by rw [HVB.out] <;> first | rfl | go_num),rfl,hf2,hr2⟩
                  case measure =>
                   have hstep:=step_inv hl HI.out HMO.out;have hlt2:=hstep.2;have hle2:=hstep.1.le;dsimp only at hlt2 hle2;simp [RowKit.intOf];omega
                 ·obtain ⟨m,rfl⟩ : ∃ m,k = m + 1:=⟨k - 1,by omega⟩;obtain rfl : z = (m:Int):=(by omega);clear hz;have c1 : decide ((0:Int) ≤ (m:Int)) = true:=decide_eq_true (by omega);have c2 : decide (((m + 1:Nat):Int) ≤ (m:Int)) = false:=decide_eq_false (by omega);have c3 : decide ((m:Int) + 1 ≤ (m:Int)) = false:=decide_eq_false (by omega);go_wp2_with fail;go_roundw
                  case rel =>
                   have hstep:=step_inv hl HI.out HMO.out;obtain ⟨f2,hf2,hr2⟩:=scan_next HI.out.le HF.out HRR.out HMO.out hstep.2;exact ⟨_,f2,HS9.out,hb9,hstep.1,beg_stepL HH.out HCL.out HBS.out HMO.out,HOP5.out,(by unfold opStr; rw [HQ9.out]),rfl,(by rw [HVB.out] <;> first | rfl | go_num),rfl,hf2,hr2⟩
                  case measure =>
                   have hstep:=step_inv hl HI.out HMO.out;have hlt2:=hstep.2;have hle2:=hstep.1.le;dsimp only at hlt2 hle2;simp [RowKit.intOf];omega
             ·have hmo:=HTK.out.trans (take_ok hr hk8);rw [he5] at hmo;have HMO:=hid hmo;have hk : (k5 == 8) = false:=(by rw [beq_eq_false_iff_ne]; exact hk8);have HQ9:=HQ;clear hmo hr he5 hk8;go_wp2_with fail
              -- the token is added; the beginning of the line is looked for
              have hR7:=hR6;have hb7:=hb6;have hP7:=hP6;obtain ⟨p1,p2,p3⟩:=hP7.rules;go_wp2_with fail;refine (addT_any HH.out HCL.out hl hR7 hb7 hT HTS.out HBG.out k5 e5 hie hel (e5:Int) rfl).mono ?_;rw [HN5.out];rintro e w9 ⟨vt9,rfl,hs9,hb9,hkeep⟩;have hP9:=hkeep _ _ _ (by decide) hP7;have HS9:=hid hs9;clear hs9 hkeep hP7 hb7 hR7 p1 p2 p3;obtain ⟨p1,p2,p3⟩:=hP9.rules;have e1 : IntKind.i64.wrap ((e5:Int) - 1) = (e5:Int) - 1:=IntWalk.i64_in _ (by omega);go_wp2_with fail;clear e1 hsub hix c10 d1
              go_loop [9,19] (fun vb v => ∃ (k:Nat) (z:Int),vb = .int .i64 (bb:Int)∧v = .int .i64 z∧z = (k:Int) - 1∧bb ≤ k∧k ≤ e5∧Hid (∀ j,k ≤ j → j < e5 → at0 l j ≠ 10)) (fun _ v => (RowKit.intOf v + 1).toNat)
              case atStart => exact ⟨e5,(e5:Int) - 1,rfl,rfl,rfl,by omega,Nat.le_refl _,hid (fun j h1 h2 => by omega)⟩
              case round =>
               obtain ⟨k,z,rfl,rfl,hz,hbk2,hke,HNO⟩:=hrel
               by_cases hkb : bb < k
               ·obtain ⟨m,rfl⟩ : ∃ m,k = m + 1:=⟨k - 1,by omega⟩;obtain rfl : z = (m:Int):=(by omega);clear hz;have hix2:=run_idx l m (by omega) (m:Int) rfl;have c1 : decide ((0:Int) ≤ (m:Int)) = true:=decide_eq_true (by omega);have c2 : decide ((bb:Int) ≤ (m:Int)) = true:=decide_eq_true (by omega)
                by_cases hm10 : at0 l m = 10
                ·rw [hm10] at hix2;have HVB:=hid (bol_found l m e5 (by omega) hel hm10 (fun j h1 h2 => HNO.out j (by omega) h2));clear hm10;go_wp2_with fail;go_roundw
                 case rel =>
                  have hstep:=step_inv hl HI.out HMO.out;obtain ⟨f2,hf2,hr2⟩:=scan_next HI.out.le HF.out HRR.out HMO.out hstep.2;exact ⟨_,f2,HS9.out,hb9,hstep.1,beg_stepL HH.out HCL.out HBS.out HMO.out,HOK.out,(by unfold opStr; rw [HQ9.out]),rfl,(by rw [HVB.out] <;> first | rfl | go_num),rfl,hf2,hr2⟩
                 case measure =>
                  have hstep:=step_inv hl HI.out HMO.out;have hlt2:=hstep.2;have hle2:=hstep.1.le;dsimp only at hlt2 hle2;simp [RowKit.intOf];omega
                ·have c3:=eqb_f 10 10 rfl hm10;have HN : Hid (∀ j,m ≤ j → j < e5 → at0 l j ≠ 10):=hid (fun j h1 h2 => by
                  rcases Nat.lt_or_ge m j with h | h
                  ·exact HNO.out j (by omega) h2
                  ·obtain rfl : j = m:=(by omega);exact hm10)
                 clear hm10;go_wp2_with fail
                 go_round
                 case rel => exact ⟨m,(m:Int) - 1,rfl,by go_num,rfl,by omega,by omega,HN⟩
                 case measure => simp [RowKit.intOf] <;> omega
               ·obtain rfl : k = bb:=(by omega);have HVB:=hid (show bol l e5 = k from (bol_kept l i e5 hie hel (fun j h1 h2 => HNO.out j (by rw [HBI.out] at h1; exact h1) h2)).trans HBI.out);rcases Nat.eq_zero_or_pos k with rfl | hk1
                ·obtain rfl : z = -1:=(by omega);clear hz;go_wp2_with fail;go_roundw
                 case rel =>
                  have hstep:=step_inv hl HI.out HMO.out;obtain ⟨f2,hf2,hr2⟩:=scan_next HI.out.le HF.out HRR.out HMO.out hstep.2;exact ⟨_,f2,HS9.out,hb9,hstep.1,beg_stepL HH.out HCL.out HBS.out HMO.out,HOK.out,(by unfold opStr; rw [HQ9.out]),rfl,(by rw [HVB.out] <;> first | rfl | go_num),rfl,hf2,hr2⟩
                 case measure =>
                  have hstep:=step_inv hl HI.out HMO.out;have hlt2:=hstep.2;have hle2:=hstep.1.le;dsimp only at hlt2 hle2;simp [RowKit.intOf];omega
                ·obtain ⟨m,rfl⟩ : ∃ m,k = m + 1:=⟨k - 1,by omega⟩;obtain rfl : z = (m:Int):=(by omega);clear hz;have c1 : decide ((0:Int) ≤ (m:Int)) = true:=decide_eq_true (by omega);have c2 : decide (((m + 1:Nat):Int) ≤ (m:Int)) = false:=decide_eq_false (by omega);have c3 : decide ((m:Int) + 1 ≤ (m:Int)) = false:=decide_eq_false (by omega);go_wp2_with fail;go_roundw
                 case rel =>
                  have hstep:=step_inv hl HI.out HMO.out;obtain ⟨f2,hf2,hr2⟩:=scan_next HI.out.le HF.out HRR.out HMO.out hstep.2;exact ⟨_,f2,HS9.out,hb9,hstep.1,beg_stepL HH.out HCL.out HBS.out HMO.out,HOK.out,(by unfold opStr; rw [HQ9.out]),rfl,(by rw [HVB.out] <;> first | rfl | go_num),rfl,hf2,hr2⟩
                 case measure =>
                  have hstep:=step_inv hl HI.out HMO.out;have hlt2:=hstep.2;have hle2:=hstep.1.le;dsimp only at hlt2 hle2;simp [RowKit.intOf];omega
end Go.Proofs.YtonehlkiackhcaaGreatDoor
