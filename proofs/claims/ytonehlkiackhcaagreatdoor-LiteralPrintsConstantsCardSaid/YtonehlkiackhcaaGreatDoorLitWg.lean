/- The literals: the reference's literal of any constant. Nothing is claimed here. -/
import Derived.Test.YtonehlkiackhcaaGreatDoorLitWc
set_option linter.unusedVariables false
set_option linter.unusedSimpArgs false
set_option maxRecDepth 100000
set_option maxHeartbeats 16000000
namespace Go.Proofs.YtonehlkiackhcaaGreatDoor
section
open Go.RowKit Go.Lib Go.Sort
theorem FinP.code {n d : Nat} {c : Int} (h : FinP n d (.error c)) : c = 26∨c = 6:=by
 obtain ⟨a,m1,b,m,-,-,-,-,-,-,h7⟩:=h;split at h7
 ·injection h7 with h7;exact .inl h7
 ·split at h7
  ·injection h7 with h7;exact .inr h7
  ·cases h7
def finX : Except Int (List UInt8) → List UInt8 × Int × Int
 | .error c => ([],c,-1)
 | .ok t => (t,0,0)
def FinQ (n d:Nat) (Y : List UInt8 × Int × Int) : Prop:=∃ X,FinP n d X∧Y = finX X
theorem fraction_q {w : World} (n d:Nat) (A1 A2 : Option Addr) (c1 c2:Nat) (hn : (lg n).length ≤ 128) (hd : (lg d).length ≤ 128) (hrn : Row w A1 (i64s (dig 10 n))) (hrd : Row w A2 (i64s (dig 10 d))) :
  Calls Tryz.prog 33 #[.slice A1 (dig 10 n).length c1,.slice A2 (dig 10 d).length c2] w fun e w' => ∃ T c i,FinQ n d (T,c,i)∧e = .returned (.tuple #[.string ⟨T.toArray⟩,.agg #[.int .i64 c,.int .i64 i]])∧Below w.heap.size w w' :=
 (fraction_any n d A1 A2 c1 c2 hn hd hrn hrd).mono fun e w' ⟨hb,X,hX,h⟩ => by
  rcases X with c | t
  ·exact ⟨[],c,-1,⟨_,hX,rfl⟩,h,hb⟩
  ·exact ⟨t,0,0,⟨_,hX,rfl⟩,h,hb⟩
theorem rlit3_any {w : World} (n1 n2 : Bool) (ln ld : List Nat) (A1 A2 : Option Addr) (c1 c2:Nat) (t : List UInt8) (r:Int) (hl1 : ln.length ≤ 9223372036854775807) (hl2 : ld.length ≤ 9223372036854775807) (ht : t.length ≤ 9223372036854775807) (hrn : Row w A1 (u32s ln)) (hrd : Row w A2 (u32s ld)) (hT : Tabs w)(h32 : ∀ x ∈ ln,x < 4294967296) (h32d : ∀ x ∈ ld,x < 4294967296) :
  Calls Tryz.prog 9 #[.agg (valD 3 n1 (.slice A1 ln.length c1) n2 (.slice A2 ld.length c2) t r)] w fun e w' => ∃ R,PrR 3 n1 n2 ln ld t r R∧LPPost w R e w':=by
 have hC:=FiC.new w (valD 3 n1 (.slice A1 ln.length c1) n2 (.slice A2 ld.length c2) t r);obtain ⟨v1,v2,v3⟩:=hC.v.rules;have HCF:=hid (fun W hr1 hr2 hT => cfault3_any (w:=W) n1 n2 ln ld A1 A2 c1 c2 t r hl1 hl2 ht hr1 hr2 hT);have HBAD:=hid (cf_bad 3 (by decide) n1 n2 ln ld t r);have HOK:=hid (cf_ok 3 n1 n2 ln ld t r);obtain ⟨C,hCC⟩ : ∃ C,cfR t (validV 3 n1 n2 ln ld t r) = C:=⟨_,rfl⟩;rw [hCC] at HCF HBAD HOK;clear hCC;obtain ⟨cc,ci⟩:=C;unfold valD at *
 go_enter Tryz.func9,Tryz.ntmps9;go_wp2_with fail;refine (HCF.out _ (hrn.keepB hC.bel) (hrd.keepB hC.bel) (hT.keepB hC.bel)).mono ?_;rintro e w2 ⟨rfl,hbb⟩;dsimp only at HBAD HOK ⊢;unfold flt;have hC2:=hC.step hbb;clear hC hbb v1 v2 v3 HCF;have hF:=Blk.new w2 29 #[.int .i64 cc,.int .i64 ci];have hba:=(Below.refl w2.heap.size w2).alloc (Nat.le_refl _) (.cells #[.int .i64 cc,.int .i64 ci] 29);have hC3:=hC2.step hba;obtain ⟨q1,q2,q3⟩:=hF.rules;obtain ⟨v1,v2,v3⟩:=hC3.v.rules;obtain ⟨p1,p2,p3⟩:=hC3.p.rules;rcases Decidable.em (cc = 0) with hc0 | hc0
 case inr =>
  have hcb : (cc != 0) = true:=(by rw [bne_iff_ne]; exact hc0);have HR:=hid (HBAD.out hc0);clear HBAD HOK hc0;go_wp2_with fail;go_region
  all_goals go_wp2_with fail
  all_goals exact ret_tmp_blk rfl rfl ((hC3.p.set_ 0 (.int .i64 cc)).set_ 1 (.int .i64 ci)).drew _ Tryz.underlying29 rfl (by kernel_rfl) rfl _ rfl ⟨_,HR.out,rfl,((hC3.bel.setCell (p:=⟨w.heap.size + 1,0,none⟩) (Nat.le_succ _) (.int .i64 cc)).setCell (p:=⟨w.heap.size + 1,1,none⟩) (Nat.le_succ _) (.int .i64 ci)).drew⟩
 have HO:=hid (HOK.out hc0);subst hc0;clear HBAD HOK
 go_upto_region 4 with fail
 obtain ⟨w3,hw3⟩ : ∃ w3,w2.alloc (.cells #[.int .i64 0,.int .i64 ci] 29) = w3:=⟨_,rfl⟩;have hG:=Blk.new w3 29 #[.int .i64 0,.int .i64 0];have hbg:=(Below.refl w3.heap.size w3).alloc (Nat.le_refl _) (.cells #[.int .i64 0,.int .i64 0] 29);rw [hw3] at hC3 ⊢;have hC4:=hC3.step hbg;clear hw3 hF hba hC2 v1 v2 v3 p1 p2 p3 q1 q2 q3
 go_upto_region 6 with fail
 obtain ⟨w4,hw4⟩ : ∃ w4,w3.alloc (.cells #[.int .i64 0,.int .i64 0] 29) = w4:=⟨_,rfl⟩;obtain ⟨q,hq⟩ : ∃ q,w3.heap.size = q:=⟨_,rfl⟩;have hqs:=hC3.p.lt;rw [hw4] at hC4;rw [hq] at hqs;rw [hw4,hq] at hG ⊢;clear hw4 hq hC3 hbg;have hr1:=hrn.keepB hC4.bel;have hr2:=hrd.keepB hC4.bel;have hT4:=hT.keepB hC4.bel;clear hrn hrd hT;obtain ⟨v1,v2,v3⟩:=hC4.v.rules;obtain ⟨p1,p2,p3⟩:=hC4.p.rules;obtain ⟨q1,q2,q3⟩:=hG.rules;have hv3:=valid3_form HO.out.1;obtain ⟨rfl,rfl,w1,w2,rfl,rfl⟩:=hv3;have HR : Hid (∀ X,FinP (V 4294967296 ln) (V 4294967296 ld) X → PrR 3 false false ln ld [] 0 (finO X)):=hid (fun X hX => by
  unfold PrR;rw [if_neg (by omega)];show if validV 3 false false ln ld [] 0 = false then _ else _
  rw [HO.out.1,if_neg (by decide)];exact ⟨X,hX,rfl⟩)
 have hl1':=well_len w1;have hl2':=well_len w2;have e1:=well_lg w1 h32;have e2:=well_lg w2 h32d;have HO1:=hid (fun W hr => ofl_any (w:=W) ln A1 c1 hl1' h32 hr);have HO2:=hid (fun W hr => ofl_any (w:=W) ld A2 c2 hl2' h32d hr);have HFR:=hid (fun W A B ca cb hr hs => fraction_q (w:=W) (V 4294967296 ln) (V 4294967296 ld) A B ca cb (by rw [e1]; exact hl1') (by rw [e2]; exact hl2') hr hs);obtain ⟨N,hN⟩ : ∃ N,V 4294967296 ln = N:=⟨_,rfl⟩;obtain ⟨D,hD⟩ : ∃ D,V 4294967296 ld = D:=⟨_,rfl⟩;rw [hN] at HO1 HFR HR;rw [hD] at HO2 HFR HR;clear hN hD e1 e2 w1 w2 h32 h32d hl1' hl2'
 go_upto_region 12 with fail
 have hCd : FiC w _ w4.drew:=hC4.step ((Below.refl _ w4).drew);have hGd:=hG.belowS ((Below.refl _ w4).drew);have hr1d:=hr1.keepB ((Below.refl _ w4).drew);have hr2d:=hr2.keepB ((Below.refl _ w4).drew);have s1:=hC4.v.cell 2;have s2:=hC4.v.cell 4;simp only [List.getElem?_toArray,List.getElem?_cons_succ,List.getElem?_cons_zero] at s1 s2;clear v1 v2 v3 q1 q2 q3 p1 p2 p3 hr1 hr2 hT4
 go_region_held3 (fun w' => w'.cell? ⟨w.heap.size,2,none⟩ = some (.slice A1 ln.length c1)∧w'.cell? ⟨w.heap.size,4,none⟩ = some (.slice A2 ld.length c2))
  (first | go_keep | exact ⟨((hC7.v.far (p:=⟨q,0,none⟩) (by show w.heap.size ≠ q; omega) (.int .i64 cf)).far (p:=⟨q,1,none⟩) (by show w.heap.size ≠ q; omega) (.int .i64 cx)).cell 2,((hC7.v.far (p:=⟨q,0,none⟩) (by show w.heap.size ≠ q; omega) (.int .i64 cf)).far (p:=⟨q,1,none⟩) (by show w.heap.size ≠ q; omega) (.int .i64 cx)).cell 4⟩ | exact ⟨k1,k2⟩ | exact ⟨k3,k4⟩ | exact ⟨k5,k6⟩)
  (first
   | (go_at_call 31; first
    | (refine (HO2.out _ hr25).mono ?_; rintro e w6 ⟨⟨v6,rfl,A6,c6,rfl,hcap6,hr6⟩,hbb6⟩; have hC6:=hC5.step hbb6; have hG6:=hG5.belowS hbb6; have hr56:=hr5.keepB hbb6; have k3 : w6.cell? ⟨w.heap.size,2,none⟩ = some (.slice A1 ln.length c1):=hC6.v.cell 2; have k4 : w6.cell? ⟨w.heap.size,4,none⟩ = some (.slice A2 ld.length c2):=hC6.v.cell 4)
    | (refine (HO1.out _ hr1d).mono ?_; rintro e w5 ⟨⟨v5,rfl,A5,c5,rfl,hcap5,hr5⟩,hbb5⟩; have hC5:=hCd.step hbb5; have hG5:=hGd.belowS hbb5; have hr25:=hr2d.keepB hbb5; have k1 : w5.cell? ⟨w.heap.size,2,none⟩ = some (.slice A1 ln.length c1):=hC5.v.cell 2; have k2 : w5.cell? ⟨w.heap.size,4,none⟩ = some (.slice A2 ld.length c2):=hC5.v.cell 4))
   | (go_at_call 33; refine (HFR.out _ _ _ _ _ hr56 hr6).mono ?_; rintro e w7 ⟨T,cf,cx,hQ,rfl,hbb7⟩; have hC7:=hC6.step hbb7; have hG7:=hG6.belowS hbb7; have k5 : w7.cell? ⟨w.heap.size,2,none⟩ = some (.slice A1 ln.length c1):=hC7.v.cell 2; have k6 : w7.cell? ⟨w.heap.size,4,none⟩ = some (.slice A2 ld.length c2):=hC7.v.cell 4; obtain ⟨q1,q2,q3⟩:=hG7.rules)
   | fail)
 all_goals go_upto_region 24 with fail
 have hC8 : FiC w #[.int .i64 3,.bool false,.slice A1 ln.length c1,.bool false,.slice A2 ld.length c2,.string ⟨#[]⟩,.int .i64 0] ((w7.setCell ⟨q,0,none⟩ (.int .i64 cf)).setCell ⟨q,1,none⟩ (.int .i64 cx)) :=
  ⟨(hC7.v.far (p:=⟨q,0,none⟩) (by show w.heap.size ≠ q; omega) (.int .i64 cf)).far (p:=⟨q,1,none⟩) (by show w.heap.size ≠ q; omega) (.int .i64 cx),
   (hC7.p.far (p:=⟨q,0,none⟩) (by show w.heap.size + 1 ≠ q; omega) (.int .i64 cf)).far (p:=⟨q,1,none⟩) (by show w.heap.size + 1 ≠ q; omega) (.int .i64 cx),
   (hC7.bel.setCell (p:=⟨q,0,none⟩) (by show w.heap.size ≤ q; omega) _).setCell (p:=⟨q,1,none⟩) (by show w.heap.size ≤ q; omega) _⟩
 have hG8 : Blk _ q 29 #[.int .i64 cf,.int .i64 cx]:=(hG7.set_ 0 (.int .i64 cf)).set_ 1 (.int .i64 cx);generalize ((w7.setCell ⟨q,0,none⟩ (.int .i64 cf)).setCell ⟨q,1,none⟩ (.int .i64 cx)) = w8 at hC8 hG8 ⊢;clear hCd hGd hC5 hC6 hC7 hG5 hG6 hG7 hr1d hr2d hr25 hr5 hr6 hr56 hbb5 hbb6 hbb7 hcap5 hcap6 k1 k2 k3 k4 k5 k6 q1 q2 q3 s1 s2 hC4 hG HO1 HO2 HFR;obtain ⟨q1,q2,q3⟩:=hG8.rules;obtain ⟨p1,p2,p3⟩:=hC8.p.rules;obtain ⟨X,hX,hY⟩:=hQ;rcases X with c | t
 ·have hc:=hX.code;injection hY with hY1 hY2;injection hY2 with hY2 hY3;subst hY1 hY2 hY3;have hcb : (cf == 0) = false:=(by rw [beq_eq_false_iff_ne]; omega);have HRX:=hid (HR.out _ hX);clear hc hX HR;go_wp2_with fail;go_region
  all_goals go_wp2_with fail
  all_goals exact ret_tmp_blk rfl rfl ((hC8.p.set_ 0 (.int .i64 cf)).set_ 1 (.int .i64 (-1))).drew _ Tryz.underlying29 rfl (by kernel_rfl) rfl _ rfl ⟨_,HRX.out,rfl,((hC8.bel.setCell (p:=⟨w.heap.size + 1,0,none⟩) (Nat.le_succ _) (.int .i64 cf)).setCell (p:=⟨w.heap.size + 1,1,none⟩) (Nat.le_succ _) (.int .i64 (-1))).drew⟩
 ·injection hY with hY1 hY2;injection hY2 with hY2 hY3;subst hY1 hY2 hY3;have HRX:=hid (HR.out _ hX);have HFO:=hid (show finO (.ok T) = if 600 < T.length then ([],3,-1) else (T,0,0) from rfl);clear hX HR
  by_cases h6 : 600 < T.length
  ·have hl6 : (600:Int) < (T.length:Int):=(by omega);rw [if_pos h6] at HFO;rw [HFO.out] at HRX;clear h6 HFO;go_wp2_with fail;refine (atR_any 3 (-1) _).mono ?_;rintro e w9 ⟨rfl,hbb9⟩;unfold flt;have hC9:=hC8.step hbb9;clear hC8 hbb9 q1 q2 q3 p1 p2 p3 hG8;obtain ⟨p1,p2,p3⟩:=hC9.p.rules;go_wp2_with fail;exact ret_tmp_blk rfl rfl ((hC9.p.set_ 0 (.int .i64 3)).set_ 1 (.int .i64 (-1))) _ Tryz.underlying29 rfl (by kernel_rfl) rfl _ rfl ⟨_,HRX.out,rfl,(hC9.bel.setCell (p:=⟨w.heap.size + 1,0,none⟩) (Nat.le_succ _) (.int .i64 3)).setCell (p:=⟨w.heap.size + 1,1,none⟩) (Nat.le_succ _) (.int .i64 (-1))⟩
  ·have hl6 : ¬ (600:Int) < (T.length:Int):=(by omega);rw [if_neg h6] at HFO;rw [HFO.out] at HRX;clear h6 HFO;go_wp2_with fail;go_region
   all_goals go_wp2_with fail
   all_goals exact ret_tmp_blk rfl rfl ((hC8.p.set_ 0 (.int .i64 0)).set_ 1 (.int .i64 0)).drew _ Tryz.underlying29 rfl (by kernel_rfl) rfl _ rfl ⟨_,HRX.out,rfl,((hC8.bel.setCell (p:=⟨w.heap.size + 1,0,none⟩) (Nat.le_succ _) (.int .i64 0)).setCell (p:=⟨w.heap.size + 1,1,none⟩) (Nat.le_succ _) (.int .i64 0)).drew⟩
theorem shown34 (hid : Nat → Bool) (h39 : hid 39 = false) (r:Nat) (h : RuneOk r) : shownV 34 r (hid r) = charQ 34 hid r:=by
 unfold shownV charQ
 by_cases h10 : r = 10
 ·subst h10; rw [if_pos rfl,if_neg (by decide),if_pos rfl]
 ·by_cases h9 : r = 9
  ·subst h9; rw [if_neg (by decide),if_pos rfl,if_neg (by decide),if_neg (by decide),if_pos rfl]
  ·by_cases h92 : r = 92
   ·subst h92; rw [if_neg (by decide),if_neg (by decide),if_pos (by decide),if_neg (by decide),if_neg (by decide),if_neg (by decide),if_pos rfl]; decide
   ·by_cases h34 : r = 34
    ·subst h34; rw [if_neg (by decide),if_neg (by decide),if_pos (by decide),if_neg (by decide),if_neg (by decide),if_neg (by decide),if_neg (by decide),if_pos rfl]; decide
    ·have hne : runeB r ≠ [34]:=by
      intro e;have h1:=h.dec [];rw [List.append_nil,e] at h1;have h2 : decodeL [34] = (34,1):=(by decide);rw [h2] at h1;exact h34 (congrArg Prod.fst h1).symm
     rw [if_neg h10,if_neg h9,if_neg (show ¬ (r = 92∨runeB r = [34]) from by rintro (h | h); exact h92 h; exact hne h)]
     by_cases h39' : r = 39
     ·subst h39';rw [h39,if_neg (by decide),if_pos (by decide)]
     ·rw [if_neg (show ¬ ((r = 34∧(34:Nat) ≠ 34)∨(r = 39∧(34:Nat) ≠ 39)) from by rintro (⟨h,_⟩ | ⟨h,_⟩); exact h34 h; exact h39' h),if_neg h10,if_neg h9,if_neg h92,if_neg h34,if_neg h39']
theorem text34 (hid : Nat → Bool) (h39 : hid 39 = false) : ∀ (rs : List Nat),(∀ r ∈ rs,RuneOk r) → rs.flatMap (fun r => shownV 34 r (hid r)) = rs.flatMap (charQ 34 hid)
 | [],_ => rfl
 | r :: rs,h => by rw [List.flatMap_cons,List.flatMap_cons,shown34 hid h39 r (h r (by simp)),text34 hid h39 rs (fun q hq => h q (by simp [hq]))]
theorem textV34 (t : List UInt8) : textV 34 (runesL t) = quotedS 34 ctlB (runesL t):=by
 unfold textV quotedS;rw [text34 ctlB (by decide) (runesL t) (runes_ok t)];rfl
theorem rlit4_any {w : World} (n1 n2 : Bool) (ln ld : List Nat) (A1 A2 : Option Addr) (c1 c2:Nat) (t : List UInt8) (r:Int) (hl1 : ln.length ≤ 9223372036854775807) (hl2 : ld.length ≤ 9223372036854775807) (ht : t.length ≤ 9223372036854775807) (hrn : Row w A1 (u32s ln)) (hrd : Row w A2 (u32s ld)) (hT : Tabs w) :
  Calls Tryz.prog 9 #[.agg (valD 4 n1 (.slice A1 ln.length c1) n2 (.slice A2 ld.length c2) t r)] w fun e w' => ∃ R,PrR 4 n1 n2 ln ld t r R∧LPPost w R e w':=by
 have hC:=FiC.new w (valD 4 n1 (.slice A1 ln.length c1) n2 (.slice A2 ld.length c2) t r);obtain ⟨v1,v2,v3⟩:=hC.v.rules;have HCF:=Lib.hid (fun W hr1 hr2 hT => cfault4_any (w:=W) n1 n2 ln ld A1 A2 c1 c2 t r hl1 hl2 ht hr1 hr2 hT);have HBAD:=Lib.hid (cf_bad 4 (by decide) n1 n2 ln ld t r);have HOK:=Lib.hid (cf_ok 4 n1 n2 ln ld t r);obtain ⟨C,hCC⟩ : ∃ C,cfR t (validV 4 n1 n2 ln ld t r) = C:=⟨_,rfl⟩;rw [hCC] at HCF HBAD HOK;clear hCC;obtain ⟨cc,ci⟩:=C;unfold valD at *
 go_enter Tryz.func9,Tryz.ntmps9;go_wp2_with fail;refine (HCF.out _ (hrn.keepB hC.bel) (hrd.keepB hC.bel) (hT.keepB hC.bel)).mono ?_;rintro e w2 ⟨rfl,hbb⟩;dsimp only at HBAD HOK ⊢;unfold flt;have hC2:=hC.step hbb;clear hC hbb v1 v2 v3 HCF;have hF:=Blk.new w2 29 #[.int .i64 cc,.int .i64 ci];have hba:=(Below.refl w2.heap.size w2).alloc (Nat.le_refl _) (.cells #[.int .i64 cc,.int .i64 ci] 29);have hC3:=hC2.step hba;obtain ⟨q1,q2,q3⟩:=hF.rules;obtain ⟨v1,v2,v3⟩:=hC3.v.rules;obtain ⟨p1,p2,p3⟩:=hC3.p.rules;rcases Decidable.em (cc = 0) with hc0 | hc0
 case inr =>
  have hcb : (cc != 0) = true:=(by rw [bne_iff_ne]; exact hc0);have HR:=Lib.hid (HBAD.out hc0);clear HBAD HOK hc0;go_wp2_with fail;go_region
  all_goals go_wp2_with fail
  all_goals exact ret_tmp_blk rfl rfl ((hC3.p.set_ 0 (.int .i64 cc)).set_ 1 (.int .i64 ci)).drew _ Tryz.underlying29 rfl (by kernel_rfl) rfl _ rfl ⟨_,HR.out,rfl,((hC3.bel.setCell (p:=⟨w.heap.size + 1,0,none⟩) (Nat.le_succ _) (.int .i64 cc)).setCell (p:=⟨w.heap.size + 1,1,none⟩) (Nat.le_succ _) (.int .i64 ci)).drew⟩
 have HO:=Lib.hid (HOK.out hc0);subst hc0;clear HBAD HOK
 go_upto_region 4 with fail
 obtain ⟨w3,hw3⟩ : ∃ w3,w2.alloc (.cells #[.int .i64 0,.int .i64 ci] 29) = w3:=⟨_,rfl⟩;have hG:=Blk.new w3 29 #[.int .i64 0,.int .i64 0];have hbg:=(Below.refl w3.heap.size w3).alloc (Nat.le_refl _) (.cells #[.int .i64 0,.int .i64 0] 29);rw [hw3] at hC3 ⊢;have hC4:=hC3.step hbg;clear hw3 hF hba hC2 v1 v2 v3 p1 p2 p3 q1 q2 q3
 go_upto_region 6 with fail
 obtain ⟨w4,hw4⟩ : ∃ w4,w3.alloc (.cells #[.int .i64 0,.int .i64 0] 29) = w4:=⟨_,rfl⟩;obtain ⟨q,hq⟩ : ∃ q,w3.heap.size = q:=⟨_,rfl⟩;have hqs:=hC3.p.lt;rw [hw4] at hC4;rw [hq] at hqs;rw [hw4,hq] at hG ⊢;clear hw4 hq hC3 hbg;have hr1:=hrn.keepB hC4.bel;have hr2:=hrd.keepB hC4.bel;have hT4:=hT.keepB hC4.bel;clear hrn hrd hT;obtain ⟨v1,v2,v3⟩:=hC4.v.rules;obtain ⟨p1,p2,p3⟩:=hC4.p.rules;obtain ⟨q1,q2,q3⟩:=hG.rules;have HR:=Lib.hid (show PrR 4 n1 n2 ln ld t r (pr4 ln t r) from by have h:=@PrR.mk4 n1 n2 ln ld t r; rwa [HO.out.1,if_pos rfl] at h);have ht4:=HO.out.2;have HQT:=Lib.hid (fun W => textShown_any 34 t W (by omega));rw [textV34] at HQT;have HP4 : Hid (pr4 ln t r = (quotedS 34 ctlB (runesL t),0,0)):=Lib.hid (by unfold pr4; rw [if_neg (by omega)]);obtain ⟨Z,hZ⟩ : ∃ Z,quotedS 34 ctlB (runesL t) = Z:=⟨_,rfl⟩;rw [hZ] at HQT HP4;rw [HP4.out] at HR;clear hZ HP4 HO
 go_upto_region 14 with fail
 have hC3d : FiC w _ w4.drew:=hC4.step ((Below.refl _ w4).drew);have hFd:=hG.belowS ((Below.refl _ w4).drew);have s1:=hC4.v.cell 5;have s2:=hG.cell 0;have s3:=hG.cell 1;simp only [List.getElem?_toArray,List.getElem?_cons_succ,List.getElem?_cons_zero] at s1 s2 s3;clear v1 v2 v3 q1 q2 q3 p1 p2 p3 hr1 hr2 hT4
 go_region_held3 (fun w' => w'.cell? ⟨w.heap.size,5,none⟩ = some (.string ⟨t.toArray⟩)∧w'.cell? ⟨q,0,none⟩ = some (.int .i64 0)∧w'.cell? ⟨q,1,none⟩ = some (.int .i64 0))
  (first | exact ⟨((hC5.v.far (p:=⟨w.heap.size + 1,0,none⟩) (by show w.heap.size ≠ w.heap.size + 1; omega) (.int .i64 0)).far (p:=⟨w.heap.size + 1,1,none⟩) (by show w.heap.size ≠ w.heap.size + 1; omega) (.int .i64 0)).cell 5,((hF5.far (p:=⟨w.heap.size + 1,0,none⟩) (by show q ≠ w.heap.size + 1; omega) (.int .i64 0)).far (p:=⟨w.heap.size + 1,1,none⟩) (by show q ≠ w.heap.size + 1; omega) (.int .i64 0)).cell 0,((hF5.far (p:=⟨w.heap.size + 1,0,none⟩) (by show q ≠ w.heap.size + 1; omega) (.int .i64 0)).far (p:=⟨w.heap.size + 1,1,none⟩) (by show q ≠ w.heap.size + 1; omega) (.int .i64 0)).cell 1⟩ | go_keep | exact ⟨k1,k2,k3⟩)
  (first | (go_at_call 34; refine (HQT.out _).mono ?_; rintro e w5 ⟨rfl,hbb5⟩; have hC5:=hC3d.step hbb5; have hF5:=hFd.belowS hbb5; have k1 : w5.cell? ⟨w.heap.size,5,none⟩ = some (.string ⟨t.toArray⟩):=hC5.v.cell 5; have k2 : w5.cell? ⟨q,0,none⟩ = some (.int .i64 0):=hF5.cell 0; have k3 : w5.cell? ⟨q,1,none⟩ = some (.int .i64 0):=hF5.cell 1; obtain ⟨p1,p2,p3⟩:=hC5.p.rules) | fail)
 all_goals go_wp2_with fail
 all_goals exact ret_tmp_blk rfl rfl ((hC5.p.set_ 0 (.int .i64 0)).set_ 1 (.int .i64 0)) _ Tryz.underlying29 rfl (by kernel_rfl) rfl _ rfl ⟨_,HR.out,rfl,(hC5.bel.setCell (p:=⟨w.heap.size + 1,0,none⟩) (Nat.le_succ _) (.int .i64 0)).setCell (p:=⟨w.heap.size + 1,1,none⟩) (Nat.le_succ _) (.int .i64 0)⟩
def octT (t : List UInt8) (k:Nat) : List UInt8:=[98,34] ++ (octL (t.take k)).flatMap (fun r => shownV 34 r (octB r))
theorem octT_next {t : List UInt8} {k : Nat} (h : k < t.length) : octT t (k + 1) = octT t k ++ shownV 34 (at0 t k).toNat (octB (at0 t k).toNat):=by
 unfold octT;have h1 : octL (t.take (k + 1)) = octL (t.take k) ++ [t[k].toNat]:=by
  unfold octL;rw [List.take_add_one,List.getElem?_eq_getElem h,List.map_append];rfl
 rw [h1,at0_lt t k h,List.flatMap_append,← List.append_assoc]
 congr 1
 exact List.append_nil _
theorem octT_len (t : List UInt8) : ∀ k,k ≤ t.length → (octT t k).length ≤ 2 + 4 * k
 | 0,_ => by simp [octT,octL]
 | k + 1,h => by
  have h1:=octT_len t k (by omega);have h2:=shownV_len 34 (at0 t k).toNat (octB (at0 t k).toNat);rw [octT_next (by omega),List.length_append];omega
theorem octT_all (t : List UInt8) : octT t t.length ++ [34] = 98 :: quotedS 34 octB (octL t):=by
 unfold octT quotedS;rw [List.take_length,text34 octB (by decide) (octL t) (fun r hr => rune_256 r (octL_lt t r hr))];rfl
theorem rlit5_any {w : World} (n1 n2 : Bool) (ln ld : List Nat) (A1 A2 : Option Addr) (c1 c2:Nat) (t : List UInt8) (r:Int) (hl1 : ln.length ≤ 9223372036854775807) (hl2 : ld.length ≤ 9223372036854775807) (ht : t.length ≤ 9223372036854775807) (hrn : Row w A1 (u32s ln)) (hrd : Row w A2 (u32s ld)) (hT : Tabs w) :
  Calls Tryz.prog 9 #[.agg (valD 5 n1 (.slice A1 ln.length c1) n2 (.slice A2 ld.length c2) t r)] w fun e w' => ∃ R,PrR 5 n1 n2 ln ld t r R∧LPPost w R e w':=by
 have hC:=FiC.new w (valD 5 n1 (.slice A1 ln.length c1) n2 (.slice A2 ld.length c2) t r);obtain ⟨v1,v2,v3⟩:=hC.v.rules;have HCF:=Lib.hid (fun W hr1 hr2 hT => cfault5_any (w:=W) n1 n2 ln ld A1 A2 c1 c2 t r hl1 hl2 ht hr1 hr2 hT);have HBAD:=Lib.hid (cf_bad 5 (by decide) n1 n2 ln ld t r);have HOK:=Lib.hid (cf_ok 5 n1 n2 ln ld t r);obtain ⟨C,hCC⟩ : ∃ C,cfR t (validV 5 n1 n2 ln ld t r) = C:=⟨_,rfl⟩;rw [hCC] at HCF HBAD HOK;clear hCC;obtain ⟨cc,ci⟩:=C;unfold valD at *
 go_enter Tryz.func9,Tryz.ntmps9;go_wp2_with fail;refine (HCF.out _ (hrn.keepB hC.bel) (hrd.keepB hC.bel) (hT.keepB hC.bel)).mono ?_;rintro e w2 ⟨rfl,hbb⟩;dsimp only at HBAD HOK ⊢;unfold flt;have hC2:=hC.step hbb;clear hC hbb v1 v2 v3 HCF;have hF:=Blk.new w2 29 #[.int .i64 cc,.int .i64 ci];have hba:=(Below.refl w2.heap.size w2).alloc (Nat.le_refl _) (.cells #[.int .i64 cc,.int .i64 ci] 29);have hC3:=hC2.step hba;obtain ⟨q1,q2,q3⟩:=hF.rules;obtain ⟨v1,v2,v3⟩:=hC3.v.rules;obtain ⟨p1,p2,p3⟩:=hC3.p.rules;rcases Decidable.em (cc = 0) with hc0 | hc0
 case inr =>
  have hcb : (cc != 0) = true:=(by rw [bne_iff_ne]; exact hc0);have HR:=Lib.hid (HBAD.out hc0);clear HBAD HOK hc0;go_wp2_with fail;go_region
  all_goals go_wp2_with fail
  all_goals exact ret_tmp_blk rfl rfl ((hC3.p.set_ 0 (.int .i64 cc)).set_ 1 (.int .i64 ci)).drew _ Tryz.underlying29 rfl (by kernel_rfl) rfl _ rfl ⟨_,HR.out,rfl,((hC3.bel.setCell (p:=⟨w.heap.size + 1,0,none⟩) (Nat.le_succ _) (.int .i64 cc)).setCell (p:=⟨w.heap.size + 1,1,none⟩) (Nat.le_succ _) (.int .i64 ci)).drew⟩
 have HO:=Lib.hid (HOK.out hc0);subst hc0;clear HBAD HOK
 go_upto_region 4 with fail
 obtain ⟨w3,hw3⟩ : ∃ w3,w2.alloc (.cells #[.int .i64 0,.int .i64 ci] 29) = w3:=⟨_,rfl⟩;have hG:=Blk.new w3 29 #[.int .i64 0,.int .i64 0];have hbg:=(Below.refl w3.heap.size w3).alloc (Nat.le_refl _) (.cells #[.int .i64 0,.int .i64 0] 29);rw [hw3] at hC3 ⊢;have hC4:=hC3.step hbg;clear hw3 hF hba hC2 v1 v2 v3 p1 p2 p3 q1 q2 q3
 go_upto_region 6 with fail
 obtain ⟨w4,hw4⟩ : ∃ w4,w3.alloc (.cells #[.int .i64 0,.int .i64 0] 29) = w4:=⟨_,rfl⟩;obtain ⟨q,hq⟩ : ∃ q,w3.heap.size = q:=⟨_,rfl⟩;have hqs:=hC3.p.lt;rw [hw4] at hC4;rw [hq] at hqs;rw [hw4,hq] at hG ⊢;clear hw4 hq hC3 hbg;have hr1:=hrn.keepB hC4.bel;have hr2:=hrd.keepB hC4.bel;have hT4:=hT.keepB hC4.bel;clear hrn hrd hT;obtain ⟨v1,v2,v3⟩:=hC4.v.rules;obtain ⟨p1,p2,p3⟩:=hC4.p.rules;obtain ⟨q1,q2,q3⟩:=hG.rules;have HR:=Lib.hid (show PrR 5 n1 n2 ln ld t r (pr5 ln t r) from by have h:=@PrR.mk5 n1 n2 ln ld t r; rwa [HO.out.1,if_pos rfl] at h);have ht4:=HO.out.2;have HP4 : Hid (pr5 ln t r = (octT t t.length ++ [34],0,0)):=Lib.hid (by unfold pr5; rw [if_neg (by omega),octT_all]);rw [HP4.out] at HR;clear HP4 HO hr1 hr2 hT4;have hti : (t.length:Int) ≤ 4000:=by omega
 go_wp2_with fail
 go_loopw [7,8,9,58] (fun s7 _ _ i wr => ∃ k : Nat,k ≤ t.length∧i = .int .i64 (k:Int)∧s7 = .string ⟨(octT t k).toArray⟩∧FiC w #[.int .i64 5,.bool n1,.slice A1 ln.length c1,.bool n2,.slice A2 ld.length c2,.string ⟨t.toArray⟩,.int .i64 r] wr∧Blk wr q 29 #[.int .i64 0,.int .i64 0]) (fun _ _ _ i _ => t.length - (RowKit.intOf i).toNat)
 case atStart => exact ⟨0,Nat.zero_le _,rfl,by simp [octT,octL],hC4,hG⟩
 case round =>
  clear hC4 hG v1 v2 v3 p1 p2 p3 q1 q2 q3;obtain ⟨k,hk,rfl,rfl,hC5,hG5⟩:=hrel;have htl:=octT_len t k hk
  by_cases hlt : k < t.length
  ·have hix:=run_idx t k hlt (k:Int) rfl;have hnx:=octT_next hlt;have HU:=Lib.hid (show octB (at0 t k).toNat = (decide ((at0 t k).toNat < 32) || decide (127 ≤ (at0 t k).toNat)) from rfl);have hx:=(at0 t k).toNat_lt;obtain ⟨x,hxe⟩ : ∃ x,(at0 t k).toNat = x:=⟨_,rfl⟩;rw [hxe] at hix hnx HU hx;have hsl:=shownV_len 34 x (octB x);have HSH:=Lib.hid (fun W => shown_any 34 x (octB x) W (by omega) (fun _ => by omega));obtain ⟨V,hV⟩ : ∃ V,shownV 34 x (octB x) = V:=⟨_,rfl⟩;rw [hV] at hnx hsl HSH;obtain ⟨B,hB⟩ : ∃ B,octB x = B:=⟨_,rfl⟩;rw [hB] at HU HSH;obtain ⟨T,hT⟩ : ∃ T,octT t k = T:=⟨_,rfl⟩;rw [hT] at hnx htl ⊢;have hadd : ∀ W : World,(Op.stringOp .add ⟨T.toArray⟩ ⟨V.toArray⟩).run Tryz.prog W = .ok (.string ⟨(T ++ V).toArray⟩) W:=fun W => run_string_add_lists W T V (by omega) (by omega);have HNX:=Lib.hid hnx;obtain ⟨Y,hY⟩ : ∃ Y,T ++ V = Y:=⟨_,rfl⟩;rw [hY] at HNX hadd;have hcv : IntKind.i32.wrap (x:Int) = (x:Int):=IntWalk.i32_in _ (by omega);clear hnx hV hB hT hY hxe;obtain ⟨v1,v2,v3⟩:=hC5.v.rules
   by_cases h32 : x < 32
   ·have hBt : B = true:=(by rw [HU.out,decide_eq_true h32]; rfl);subst hBt;have d1 : (x:Int) < 32:=(by omega);clear h32 HU;go_wp2_with fail;refine (HSH.out _).mono ?_;rintro e w6 ⟨rfl,nn,rfl⟩;have hbd:=below_drewN (Below.refl wr.heap.size wr) nn;have hC6:=hC5.step hbd;have hG6:=hG5.belowS hbd;clear hbd hC5 hG5;go_wp2_with fail;go_roundw
    case rel => exact ⟨k + 1,by omega,by go_num,by rw [HNX.out],hC6,hG6⟩
    case measure => simp [RowKit.intOf]; omega
   ·have d1 : ¬ (x:Int) < 32:=by omega
    by_cases h127 : 127 ≤ x
    ·have hBt : B = true:=(by rw [HU.out,decide_eq_true h127]; simp);subst hBt;have d2 : (127:Int) ≤ (x:Int):=(by omega);clear h32 h127 HU;go_wp2_with fail;refine (HSH.out _).mono ?_;rintro e w6 ⟨rfl,nn,rfl⟩;have hbd:=below_drewN (Below.refl wr.heap.size wr) nn;have hC6:=hC5.step hbd;have hG6:=hG5.belowS hbd;clear hbd hC5 hG5;go_wp2_with fail;go_roundw
     case rel => exact ⟨k + 1,by omega,by go_num,by rw [HNX.out],hC6,hG6⟩
     case measure => simp [RowKit.intOf]; omega
    ·have hBt : B = false:=(by rw [HU.out,decide_eq_false h32,decide_eq_false h127]; rfl);subst hBt;have d2 : ¬ (127:Int) ≤ (x:Int):=(by omega);clear h32 h127 HU;go_wp2_with fail;refine (HSH.out _).mono ?_;rintro e w6 ⟨rfl,nn,rfl⟩;have hbd:=below_drewN (Below.refl wr.heap.size wr) nn;have hC6:=hC5.step hbd;have hG6:=hG5.belowS hbd;clear hbd hC5 hG5;go_wp2_with fail;go_roundw
     case rel => exact ⟨k + 1,by omega,by go_num,by rw [HNX.out],hC6,hG6⟩
     case measure => simp [RowKit.intOf]; omega
  ·obtain rfl : k = t.length:=(by omega);obtain ⟨T,hT⟩ : ∃ T,octT t t.length = T:=⟨_,rfl⟩;rw [hT] at htl HR ⊢;have hadd : ∀ W : World,(Op.stringOp .add ⟨T.toArray⟩ ⟨#[34]⟩).run Tryz.prog W = .ok (.string ⟨(T ++ [34]).toArray⟩) W:=fun W => run_string_add_lists W T [34] (by omega) (by simp);obtain ⟨Y,hY⟩ : ∃ Y,T ++ [34] = Y:=⟨_,rfl⟩;rw [hY] at HR hadd;clear hT hY;obtain ⟨p1,p2,p3⟩:=hC5.p.rules;obtain ⟨q1,q2,q3⟩:=hG5.rules;go_wp2_with fail;go_region
   all_goals go_wp2_with fail
   all_goals exact ret_tmp_blk rfl rfl ((hC5.p.set_ 0 (.int .i64 0)).set_ 1 (.int .i64 0)).drew _ Tryz.underlying29 rfl (by kernel_rfl) rfl _ rfl ⟨_,HR.out,rfl,((hC5.bel.setCell (p:=⟨w.heap.size + 1,0,none⟩) (Nat.le_succ _) (.int .i64 0)).setCell (p:=⟨w.heap.size + 1,1,none⟩) (Nat.le_succ _) (.int .i64 0)).drew⟩
theorem rlitx_any {w : World} (k:Int) (hk : k < 0∨5 < k) (n1 n2 : Bool) (N D : Value) (t : List UInt8) (r:Int) :
  Calls Tryz.prog 9 #[.agg (valD k n1 N n2 D t r)] w (LPPost w ([],13,-1)):=by
 have hC:=FiC.new w (valD k n1 N n2 D t r);obtain ⟨v1,v2,v3⟩:=hC.v.rules;have HCF:=hid (fun W => cfaultx_any (w:=W) k hk n1 n2 N D t r);unfold valD at *
 clear hk;go_enter Tryz.func9,Tryz.ntmps9;go_wp2_with fail;refine (HCF.out _).mono ?_;rintro e w2 ⟨rfl,hbb⟩;unfold flt;have hC2:=hC.step hbb;clear hC hbb v1 v2 v3 HCF;have hF:=Blk.new w2 29 #[.int .i64 13,.int .i64 (-1)];have hba:=(Below.refl w2.heap.size w2).alloc (Nat.le_refl _) (.cells #[.int .i64 13,.int .i64 (-1)] 29);have hC3:=hC2.step hba;obtain ⟨q1,q2,q3⟩:=hF.rules;obtain ⟨v1,v2,v3⟩:=hC3.v.rules;obtain ⟨p1,p2,p3⟩:=hC3.p.rules;go_wp2_with fail;go_region
 all_goals go_wp2_with fail
 all_goals exact ret_tmp_blk rfl rfl ((hC3.p.set_ 0 (.int .i64 13)).set_ 1 (.int .i64 (-1))).drew _ Tryz.underlying29 rfl (by kernel_rfl) rfl _ rfl ⟨rfl,((hC3.bel.setCell (p:=⟨w.heap.size + 1,0,none⟩) (Nat.le_succ _) (.int .i64 13)).setCell (p:=⟨w.heap.size + 1,1,none⟩) (Nat.le_succ _) (.int .i64 (-1))).drew⟩
theorem rlit_any {w : World} (k:Int) (n1 n2 : Bool) (ln ld : List Nat) (A1 A2 : Option Addr) (c1 c2:Nat) (t : List UInt8) (r:Int) (hl1 : ln.length ≤ 9223372036854775807) (hl2 : ld.length ≤ 9223372036854775807) (ht : t.length ≤ 9223372036854775807) (h32 : ∀ x ∈ ln,x < 4294967296) (h32d : ∀ x ∈ ld,x < 4294967296) (hrn : Row w A1 (u32s ln)) (hrd : Row w A2 (u32s ld)) (hT : Tabs w) :
  Calls Tryz.prog 9 #[.agg (valD k n1 (.slice A1 ln.length c1) n2 (.slice A2 ld.length c2) t r)] w fun e w' => ∃ R,PrR k n1 n2 ln ld t r R∧LPPost w R e w':=by
 by_cases hk : k < 0∨5 < k
 ·exact (rlitx_any k hk n1 n2 _ _ t r).mono fun e w' h => ⟨_,by unfold PrR; rw [if_pos hk],h⟩
 ·rcases (show k = 0∨k = 1∨k = 2∨k = 3∨k = 4∨k = 5 by omega) with rfl | rfl | rfl | rfl | rfl | rfl
  ·exact rlit0_any n1 n2 ln ld A1 A2 c1 c2 t r hl1 hl2 ht hrn hrd hT
  ·exact rlit1_any n1 n2 ln ld A1 A2 c1 c2 t r hl1 hl2 ht hrn hrd hT
  ·exact rlit2_any n1 n2 ln ld A1 A2 c1 c2 t r hl1 hl2 ht hrn hrd hT h32
  ·exact rlit3_any n1 n2 ln ld A1 A2 c1 c2 t r hl1 hl2 ht hrn hrd hT h32 h32d
  ·exact rlit4_any n1 n2 ln ld A1 A2 c1 c2 t r hl1 hl2 ht hrn hrd hT
  ·exact rlit5_any n1 n2 ln ld A1 A2 c1 c2 t r hl1 hl2 ht hrn hrd hT
end
end Go.Proofs.YtonehlkiackhcaaGreatDoor