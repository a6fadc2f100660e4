/- The literals: a numeral is read: what it is in plain words, and its parts. Nothing is claimed here. -/
import Derived.Test.YtonehlkiackhcaaGreatDoorLitQd
import Derived.Deep.RegionHeld3
set_option linter.unusedVariables false
set_option linter.unusedSimpArgs false
set_option maxRecDepth 100000
set_option maxHeartbeats 16000000
namespace Go.Proofs.YtonehlkiackhcaaGreatDoor
section
open Go.RowKit Go.Lib Go.Sort
def LPPost (w : World) (R : List UInt8 × Int × Int) (e : Ending) (w' : World) : Prop:=e = .returned (.tuple #[.string ⟨R.1.toArray⟩,flt R.2.1 R.2.2])∧Below w.heap.size w w'
def pr0 (ln : List Nat) (t : List UInt8) (r:Int) : List UInt8 × Int × Int:=([110,105,108],0,0)
def pr1 (ln : List Nat) (t : List UInt8) (r:Int) : List UInt8 × Int × Int:=(if r = 1 then [116,114,117,101] else [102,97,108,115,101],0,0)
theorem lprint0_any {w : World} (n1 n2 : Bool) (ln ld : List Nat) (A1 A2 : Option Addr) (c1 c2:Nat) (t : List UInt8) (r:Int) (hl1 : ln.length ≤ 9223372036854775807) (hl2 : ld.length ≤ 9223372036854775807) (ht : t.length ≤ 9223372036854775807) (hrn : Row w A1 (u32s ln)) (hrd : Row w A2 (u32s ld)) (hT : Tabs w) :
  Calls Tryz.prog 8 #[.agg (valD 0 n1 (.slice A1 ln.length c1) n2 (.slice A2 ld.length c2) t r)] w (LPPost w (if validV 0 n1 n2 ln ld t r then pr0 ln t r else ([],6,-1))):=by
 have hC:=FiC.new w (valD 0 n1 (.slice A1 ln.length c1) n2 (.slice A2 ld.length c2) t r);obtain ⟨v1,v2,v3⟩:=hC.v.rules;have HV:=hid (fun W hr1 hr2 hT => lvalid0_all (w:=W) n1 n2 ln ld A1 A2 c1 c2 t r hl1 hl2 ht hr1 hr2 hT);obtain ⟨VV,hVV⟩ : ∃ b,validV 0 n1 n2 ln ld t r = b:=⟨_,rfl⟩;rw [hVV] at HV ⊢;have HVV:=hid hVV;obtain ⟨R,hR⟩ : ∃ R,(if VV = true then pr0 ln t r else ([],6,-1)) = R:=⟨_,rfl⟩;rw [hR];have HRR:=hid hR;clear hVV hR;unfold valD at *
 go_enter Tryz.func8,Tryz.ntmps8;go_wp2_with fail;refine (HV.out _ (hrn.keepB hC.bel) (hrd.keepB hC.bel) (hT.keepB hC.bel)).mono ?_;rintro e w2 ⟨rfl,hbb⟩;have hC2:=hC.step hbb;clear hC hbb v1 v2 v3 HV;obtain ⟨v1,v2,v3⟩:=hC2.v.rules;rcases VV with _ | _
 case false =>
  go_wp2_with fail;refine (lfault_any 6 (-1) _).mono ?_;rintro e w9 ⟨rfl,hbb9⟩;have hC9:=hC2.step hbb9;clear hC2 hbb9 v1 v2 v3;have hP9:=hC9.p;have hb9:=hC9.bel;obtain ⟨p1,p2,p3⟩:=hP9.rules;go_wp2_with fail;exact ret_tmp_blk rfl rfl ((hP9.set_ 0 (.int .i64 6)).set_ 1 (.int .i64 (-1))) _ Tryz.underlying29 rfl (by kernel_rfl) rfl _ rfl ⟨by rw [← HRR.out]; rfl,(hb9.setCell (p:=⟨w.heap.size + 1,0,none⟩) (Nat.le_succ _) (.int .i64 6)).setCell (p:=⟨w.heap.size + 1,1,none⟩) (Nat.le_succ _) (.int .i64 (-1))⟩
 have HTE : Hid (t = []):=hid (by have h:=HVV.out; simp [validV] at h; simp [h]);have hte:=HTE.out;subst hte;clear HTE;have hF:=Blk.new w2 29 #[.int .i64 0,.int .i64 0];have hba:=(Below.refl w2.heap.size w2).alloc (Nat.le_refl _) (.cells #[.int .i64 0,.int .i64 0] 29);have hC3:=hC2.step hba;have hT3:=hT.keepB hC3.bel;have hr1:=hrn.keepB hC3.bel;go_wp2_with fail;obtain ⟨w3,hw3⟩ : ∃ w3,w2.alloc (.cells #[.int .i64 0,.int .i64 0] 29) = w3:=⟨_,rfl⟩;rw [hw3] at hF hC3 hT3 hr1 ⊢;obtain ⟨q,hq⟩ : ∃ q,w2.heap.size = q:=⟨_,rfl⟩;have hqs:=hC2.p.lt;rw [hq] at hF hqs ⊢;clear hw3 hq hC2 hba v1 v2 v3 hrn hrd hT;obtain ⟨q1,q2,q3⟩:=hF.rules;obtain ⟨p1,p2,p3⟩:=hC3.p.rules;have hP5:=hC3.p;have hb5:=hC3.bel;go_region
 all_goals go_wp2_with fail
 all_goals exact ret_tmp_blk rfl rfl ((hP5.set_ 0 (.int .i64 0)).set_ 1 (.int .i64 0)).drew _ Tryz.underlying29 rfl (by kernel_rfl) rfl _ rfl ⟨(by rw [← HRR.out]; rfl),((hb5.setCell (p:=⟨w.heap.size + 1,0,none⟩) (Nat.le_succ _) (.int .i64 0)).setCell (p:=⟨w.heap.size + 1,1,none⟩) (Nat.le_succ _) (.int .i64 0)).drew⟩
theorem fbool0_any (b : Bool) (w : World) : Calls Tryz.prog 70 #[.bool b] w fun e w' => e = .returned (.string ⟨(if b = true then [116,114,117,101] else [102,97,108,115,101] : List UInt8).toArray⟩)∧w = w':=by
 rcases b with _ | _
 ·go_enter Tryz.func70,Tryz.ntmps70;go_wp2_with fail;go_ret;exact ⟨rfl,rfl⟩
 ·go_enter Tryz.func70,Tryz.ntmps70;go_wp2_with fail;go_ret;exact ⟨rfl,rfl⟩
theorem fbool_any (b : Bool) (w : World) : Calls Tryz.prog 22 #[.bool b] w fun e w' => e = .returned (.string ⟨(if b = true then [116,114,117,101] else [102,97,108,115,101] : List UInt8).toArray⟩)∧w = w':=by
 obtain ⟨L,hL⟩ : ∃ L,(if b = true then [116,114,117,101] else [102,97,108,115,101] : List UInt8) = L:=⟨_,rfl⟩;have HF:=hid (fun W => fbool0_any b W);rw [hL] at HF ⊢;clear hL;go_enter Tryz.func22,Tryz.ntmps22;go_wp2_with fail;refine (HF.out _).mono ?_;rintro e w2 ⟨rfl,rfl⟩;go_wp2_with fail;go_ret;exact ⟨rfl,rfl⟩
theorem lprint1_any {w : World} (n1 n2 : Bool) (ln ld : List Nat) (A1 A2 : Option Addr) (c1 c2:Nat) (t : List UInt8) (r:Int) (hl1 : ln.length ≤ 9223372036854775807) (hl2 : ld.length ≤ 9223372036854775807) (ht : t.length ≤ 9223372036854775807) (hrn : Row w A1 (u32s ln)) (hrd : Row w A2 (u32s ld)) (hT : Tabs w) :
  Calls Tryz.prog 8 #[.agg (valD 1 n1 (.slice A1 ln.length c1) n2 (.slice A2 ld.length c2) t r)] w (LPPost w (if validV 1 n1 n2 ln ld t r then pr1 ln t r else ([],6,-1))):=by
 have hC:=FiC.new w (valD 1 n1 (.slice A1 ln.length c1) n2 (.slice A2 ld.length c2) t r);obtain ⟨v1,v2,v3⟩:=hC.v.rules;have HV:=hid (fun W hr1 hr2 hT => lvalid1_all (w:=W) n1 n2 ln ld A1 A2 c1 c2 t r hl1 hl2 ht hr1 hr2 hT);obtain ⟨VV,hVV⟩ : ∃ b,validV 1 n1 n2 ln ld t r = b:=⟨_,rfl⟩;rw [hVV] at HV ⊢;have HVV:=hid hVV;obtain ⟨R,hR⟩ : ∃ R,(if VV = true then pr1 ln t r else ([],6,-1)) = R:=⟨_,rfl⟩;rw [hR];have HRR:=hid hR;clear hVV hR;unfold valD at *
 go_enter Tryz.func8,Tryz.ntmps8;go_wp2_with fail;refine (HV.out _ (hrn.keepB hC.bel) (hrd.keepB hC.bel) (hT.keepB hC.bel)).mono ?_;rintro e w2 ⟨rfl,hbb⟩;have hC2:=hC.step hbb;clear hC hbb v1 v2 v3 HV;obtain ⟨v1,v2,v3⟩:=hC2.v.rules;rcases VV with _ | _
 case false =>
  go_wp2_with fail;refine (lfault_any 6 (-1) _).mono ?_;rintro e w9 ⟨rfl,hbb9⟩;have hC9:=hC2.step hbb9;clear hC2 hbb9 v1 v2 v3;have hP9:=hC9.p;have hb9:=hC9.bel;obtain ⟨p1,p2,p3⟩:=hP9.rules;go_wp2_with fail;exact ret_tmp_blk rfl rfl ((hP9.set_ 0 (.int .i64 6)).set_ 1 (.int .i64 (-1))) _ Tryz.underlying29 rfl (by kernel_rfl) rfl _ rfl ⟨by rw [← HRR.out]; rfl,(hb9.setCell (p:=⟨w.heap.size + 1,0,none⟩) (Nat.le_succ _) (.int .i64 6)).setCell (p:=⟨w.heap.size + 1,1,none⟩) (Nat.le_succ _) (.int .i64 (-1))⟩
 have HTE : Hid (t = []):=hid (by have h:=HVV.out; simp [validV] at h; simp [h]);have hte:=HTE.out;subst hte;clear HTE;have hF:=Blk.new w2 29 #[.int .i64 0,.int .i64 0];have hba:=(Below.refl w2.heap.size w2).alloc (Nat.le_refl _) (.cells #[.int .i64 0,.int .i64 0] 29);have hC3:=hC2.step hba;have hT3:=hT.keepB hC3.bel;have hr1:=hrn.keepB hC3.bel;go_wp2_with fail;obtain ⟨w3,hw3⟩ : ∃ w3,w2.alloc (.cells #[.int .i64 0,.int .i64 0] 29) = w3:=⟨_,rfl⟩;rw [hw3] at hF hC3 hT3 hr1 ⊢;obtain ⟨q,hq⟩ : ∃ q,w2.heap.size = q:=⟨_,rfl⟩;have hqs:=hC2.p.lt;rw [hq] at hF hqs ⊢;clear hw3 hq hC2 hba v1 v2 v3 hrn hrd hT;obtain ⟨q1,q2,q3⟩:=hF.rules;obtain ⟨p1,p2,p3⟩:=hC3.p.rules;have HFB:=fbool_any (r == 1) w3;obtain ⟨L,hL⟩ : ∃ L,(if (r == 1) = true then [116,114,117,101] else [102,97,108,115,101] : List UInt8) = L:=⟨_,rfl⟩;rw [hL] at HFB;have hll : L.length ≤ 5:=by rw [← hL]; split <;> simp
 have hl6 : ¬ (600:Int) < (L.length:Int):=by omega
 have HL:=hid hL;clear hL;refine HFB.mono ?_;rintro e w4 ⟨rfl,rfl⟩;clear HFB;go_wp2_with fail;have hP5:=hC3.p;have hb5:=hC3.bel;go_region
 all_goals go_wp2_with fail
 all_goals exact ret_tmp_blk rfl rfl ((hP5.set_ 0 (.int .i64 0)).set_ 1 (.int .i64 0)).drew _ Tryz.underlying29 rfl (by kernel_rfl) rfl _ rfl ⟨(by rw [← HRR.out,← HL.out]; simp [pr1,flt]),((hb5.setCell (p:=⟨w.heap.size + 1,0,none⟩) (Nat.le_succ _) (.int .i64 0)).setCell (p:=⟨w.heap.size + 1,1,none⟩) (Nat.le_succ _) (.int .i64 0)).drew⟩
theorem well_lg {ln : List Nat} (h : wellV ln = true) (h32 : ∀ x ∈ ln,x < 4294967296) : lg (V 4294967296 ln) = ln:=by
 refine dig_V (by decide) ln h32 ?_;unfold wellV at h;simp only [Bool.and_eq_true,Bool.or_eq_true,decide_eq_true_eq] at h;rcases h.2 with h | h
 ·exact .inl h
 ·cases hg : ln.getLast? with
  | none => exact .inl (List.getLast?_eq_none_iff.1 hg)
  | some x => exact .inr ⟨x,hg,fun e => h (by rw [hg,e])⟩
theorem well_len {ln : List Nat} (h : wellV ln = true) : ln.length ≤ 128:=by
 unfold wellV at h;simp only [Bool.and_eq_true,decide_eq_true_eq] at h;exact h.1
def pr2 (ln : List Nat) (t : List UInt8) (r:Int) : List UInt8 × Int × Int:=if 600 < (decDigits (V 4294967296 ln)).length then ([],3,-1) else (decDigits (V 4294967296 ln),0,0)
theorem lprint2_any {w : World} (n1 n2 : Bool) (ln ld : List Nat) (A1 A2 : Option Addr) (c1 c2:Nat) (t : List UInt8) (r:Int) (hl1 : ln.length ≤ 9223372036854775807) (hl2 : ld.length ≤ 9223372036854775807) (ht : t.length ≤ 9223372036854775807) (hrn : Row w A1 (u32s ln)) (hrd : Row w A2 (u32s ld)) (hT : Tabs w)(h32 : ∀ x ∈ ln,x < 4294967296) (htab : Lib.TabIs Tryz.prog w "internal/strconv.uint64pow10" .u64 Lib.pow10Tab) :
  Calls Tryz.prog 8 #[.agg (valD 2 n1 (.slice A1 ln.length c1) n2 (.slice A2 ld.length c2) t r)] w (LPPost w (if validV 2 n1 n2 ln ld t r then pr2 ln t r else ([],6,-1))):=by
 have hC:=FiC.new w (valD 2 n1 (.slice A1 ln.length c1) n2 (.slice A2 ld.length c2) t r);obtain ⟨v1,v2,v3⟩:=hC.v.rules;have HV:=hid (fun W hr1 hr2 hT => lvalid2_all (w:=W) n1 n2 ln ld A1 A2 c1 c2 t r hl1 hl2 ht hr1 hr2 hT);obtain ⟨VV,hVV⟩ : ∃ b,validV 2 n1 n2 ln ld t r = b:=⟨_,rfl⟩;rw [hVV] at HV ⊢;have HVV:=hid hVV;obtain ⟨R,hR⟩ : ∃ R,(if VV = true then pr2 ln t r else ([],6,-1)) = R:=⟨_,rfl⟩;rw [hR];have HRR:=hid hR;clear hVV hR;unfold valD at *
 go_enter Tryz.func8,Tryz.ntmps8;go_wp2_with fail;refine (HV.out _ (hrn.keepB hC.bel) (hrd.keepB hC.bel) (hT.keepB hC.bel)).mono ?_;rintro e w2 ⟨rfl,hbb⟩;have hC2:=hC.step hbb;clear hC hbb v1 v2 v3 HV;obtain ⟨v1,v2,v3⟩:=hC2.v.rules;rcases VV with _ | _
 case false =>
  go_wp2_with fail;refine (lfault_any 6 (-1) _).mono ?_;rintro e w9 ⟨rfl,hbb9⟩;have hC9:=hC2.step hbb9;clear hC2 hbb9 v1 v2 v3;have hP9:=hC9.p;have hb9:=hC9.bel;obtain ⟨p1,p2,p3⟩:=hP9.rules;go_wp2_with fail;exact ret_tmp_blk rfl rfl ((hP9.set_ 0 (.int .i64 6)).set_ 1 (.int .i64 (-1))) _ Tryz.underlying29 rfl (by kernel_rfl) rfl _ rfl ⟨by rw [← HRR.out]; rfl,(hb9.setCell (p:=⟨w.heap.size + 1,0,none⟩) (Nat.le_succ _) (.int .i64 6)).setCell (p:=⟨w.heap.size + 1,1,none⟩) (Nat.le_succ _) (.int .i64 (-1))⟩
 have HTE : Hid (t = []):=hid (by have h:=HVV.out; simp [validV] at h; simp [h]);have hte:=HTE.out;subst hte;clear HTE;have hwl : wellV ln = true:=by have h:=HVV.out; simp [validV] at h; simp [h]
 have hw1:=well_lg hwl h32;have hw2:=well_len hwl;have HP2:=hid (show pr2 ln [] r = if 600 < (decDigits (V 4294967296 ln)).length then ([],3,-1) else (decDigits (V 4294967296 ln),0,0) from rfl);obtain ⟨N,hN⟩ : ∃ N,V 4294967296 ln = N:=⟨_,rfl⟩;rw [hN] at hw1 HP2;have HDA:=fun W (h : Row W A1 (u32s ln)) (ht : Lib.TabIs Tryz.prog W "internal/strconv.uint64pow10" .u64 Lib.pow10Tab) => decimal_any (w:=W) N A1 c1 (by rw [hw1]; omega) (by have:=(lim_any N 0 0 (by rw [hw1]; exact hw2) (by decide) (by decide)).2; simp at this; omega) (by rw [hw1]; exact h) ht;rw [hw1] at HDA;have hdl:=(lim_any N 0 0 (by rw [hw1]; exact hw2) (by decide) (by decide)).2;rw [show N * 2 ^ 0 * 5 ^ 0 = N from by simp] at hdl;obtain ⟨D,hD⟩ : ∃ D,decDigits N = D:=⟨_,rfl⟩;rw [hD] at HDA HP2 hdl;have HDH:=hid HDA;clear hN hw1 hw2 hwl h32 hD HDA;have hF:=Blk.new w2 29 #[.int .i64 0,.int .i64 0];have hba:=(Below.refl w2.heap.size w2).alloc (Nat.le_refl _) (.cells #[.int .i64 0,.int .i64 0] 29);have hC3:=hC2.step hba;have hT3:=hT.keepB hC3.bel;have hr1:=hrn.keepB hC3.bel;go_wp2_with fail;obtain ⟨w3,hw3⟩ : ∃ w3,w2.alloc (.cells #[.int .i64 0,.int .i64 0] 29) = w3:=⟨_,rfl⟩;rw [hw3] at hF hC3 hT3 hr1 ⊢;obtain ⟨q,hq⟩ : ∃ q,w2.heap.size = q:=⟨_,rfl⟩;have hqs:=hC2.p.lt;rw [hq] at hF hqs ⊢;clear hw3 hq hC2 hba v1 v2 v3 hrn hrd hT;obtain ⟨q1,q2,q3⟩:=hF.rules;obtain ⟨p1,p2,p3⟩:=hC3.p.rules;refine (HDH.out w3 hr1 (tab_keep htab hC3.bel)).mono ?_;rintro e w4 ⟨rfl,hbb⟩;have hC4:=hC3.step hbb;have hF4:=hF.belowS hbb;clear hC3 hbb hF q1 q2 q3 p1 p2 p3 HDH hr1;have hC3:=hC4;obtain ⟨q1,q2,q3⟩:=hF4.rules;obtain ⟨p1,p2,p3⟩:=hC3.p.rules
 by_cases h6 : 600 < D.length
 ·have hl6 : (600:Int) < (D.length:Int):=(by omega);have HE : Hid (([],3,-1) = R):=hid (by rw [← HRR.out,HP2.out,if_pos h6]; rfl);clear h6;go_wp2_with fail;refine (lfault_any 3 (-1) _).mono ?_;rintro e w9 ⟨rfl,hbb9⟩;have hC9:=hC4.step hbb9;clear hC4 hC3 hbb9 q1 q2 q3 p1 p2 p3 hF4;have hP9:=hC9.p;have hb9:=hC9.bel;obtain ⟨p1,p2,p3⟩:=hP9.rules;go_wp2_with fail;exact ret_tmp_blk rfl rfl ((hP9.set_ 0 (.int .i64 3)).set_ 1 (.int .i64 (-1))) _ Tryz.underlying29 rfl (by kernel_rfl) rfl _ rfl ⟨by rw [← HE.out]; rfl,(hb9.setCell (p:=⟨w.heap.size + 1,0,none⟩) (Nat.le_succ _) (.int .i64 3)).setCell (p:=⟨w.heap.size + 1,1,none⟩) (Nat.le_succ _) (.int .i64 (-1))⟩
 ·have hl6 : ¬ (600:Int) < (D.length:Int):=(by omega);have HE : Hid ((D,0,0) = R):=hid (by rw [← HRR.out,HP2.out,if_neg h6]; rfl);clear h6;go_wp2_with fail;have hP5:=hC3.p;have hb5:=hC3.bel;go_region
  all_goals go_wp2_with fail
  all_goals exact ret_tmp_blk rfl rfl ((hP5.set_ 0 (.int .i64 0)).set_ 1 (.int .i64 0)).drew _ Tryz.underlying29 rfl (by kernel_rfl) rfl _ rfl ⟨(by rw [← HE.out]; rfl),((hb5.setCell (p:=⟨w.heap.size + 1,0,none⟩) (Nat.le_succ _) (.int .i64 0)).setCell (p:=⟨w.heap.size + 1,1,none⟩) (Nat.le_succ _) (.int .i64 0)).drew⟩
theorem quoted_len (hid : Nat → Bool) (rs : List Nat) : (quotedS 34 hid rs).length ≤ 4 * rs.length + 2:=by
 have h : (rs.flatMap (charQ 34 hid)).length ≤ 4 * rs.length:=by
  induction rs with
  | nil => simp
  | cons r rs ih =>
   have:=charQ_len 34 hid r;rw [List.flatMap_cons,List.length_append,List.length_cons];omega
 unfold quotedS;rw [List.length_append,List.length_cons];have : [UInt8.ofNat 34].length = 1:=rfl;omega
def pr4 (ln : List Nat) (t : List UInt8) (r:Int) : List UInt8 × Int × Int:=if 4000 < t.length then ([],14,-1) else (quotedS 34 ctlB (runesL t),0,0)
theorem lprint4_any {w : World} (n1 n2 : Bool) (ln ld : List Nat) (A1 A2 : Option Addr) (c1 c2:Nat) (t : List UInt8) (r:Int) (hl1 : ln.length ≤ 9223372036854775807) (hl2 : ld.length ≤ 9223372036854775807) (ht : t.length ≤ 9223372036854775807) (hrn : Row w A1 (u32s ln)) (hrd : Row w A2 (u32s ld)) (hT : Tabs w)(hir : ∀ r ∈ runesL t,IrOk r) :
  Calls Tryz.prog 8 #[.agg (valD 4 n1 (.slice A1 ln.length c1) n2 (.slice A2 ld.length c2) t r)] w (LPPost w (if validV 4 n1 n2 ln ld t r then pr4 ln t r else ([],6,-1))):=by
 have hC:=FiC.new w (valD 4 n1 (.slice A1 ln.length c1) n2 (.slice A2 ld.length c2) t r);obtain ⟨v1,v2,v3⟩:=hC.v.rules;have HV:=Lib.hid (fun W hr1 hr2 hT => lvalid4_all (w:=W) n1 n2 ln ld A1 A2 c1 c2 t r hl1 hl2 ht hr1 hr2 hT);obtain ⟨VV,hVV⟩ : ∃ b,validV 4 n1 n2 ln ld t r = b:=⟨_,rfl⟩;rw [hVV] at HV ⊢;have HVV:=Lib.hid hVV;obtain ⟨R,hR⟩ : ∃ R,(if VV = true then pr4 ln t r else ([],6,-1)) = R:=⟨_,rfl⟩;rw [hR];have HRR:=Lib.hid hR;clear hVV hR;unfold valD at *
 go_enter Tryz.func8,Tryz.ntmps8;go_wp2_with fail;refine (HV.out _ (hrn.keepB hC.bel) (hrd.keepB hC.bel) (hT.keepB hC.bel)).mono ?_;rintro e w2 ⟨rfl,hbb⟩;have hC2:=hC.step hbb;clear hC hbb v1 v2 v3 HV;obtain ⟨v1,v2,v3⟩:=hC2.v.rules;rcases VV with _ | _
 case false =>
  go_wp2_with fail;refine (lfault_any 6 (-1) _).mono ?_;rintro e w9 ⟨rfl,hbb9⟩;have hC9:=hC2.step hbb9;clear hC2 hbb9 v1 v2 v3;have hP9:=hC9.p;have hb9:=hC9.bel;obtain ⟨p1,p2,p3⟩:=hP9.rules;go_wp2_with fail;exact ret_tmp_blk rfl rfl ((hP9.set_ 0 (.int .i64 6)).set_ 1 (.int .i64 (-1))) _ Tryz.underlying29 rfl (by kernel_rfl) rfl _ rfl ⟨by rw [← HRR.out]; rfl,(hb9.setCell (p:=⟨w.heap.size + 1,0,none⟩) (Nat.le_succ _) (.int .i64 6)).setCell (p:=⟨w.heap.size + 1,1,none⟩) (Nat.le_succ _) (.int .i64 (-1))⟩
 have HP4:=Lib.hid (show pr4 ln t r = if 4000 < t.length then ([],14,-1) else (quotedS 34 ctlB (runesL t),0,0) from rfl)
 by_cases h4 : 4000 < t.length
 ·have hl4 : (4000:Int) < (t.length:Int):=(by omega);have HE : Hid (([],14,-1) = R):=Lib.hid (by rw [← HRR.out,HP4.out,if_pos h4]; rfl);clear h4 HP4;go_wp2_with fail;refine (lfault_any 14 (-1) _).mono ?_;rintro e w9 ⟨rfl,hbb9⟩;have hC9:=hC2.step hbb9;clear hC2 hbb9 v1 v2 v3;have hP9:=hC9.p;have hb9:=hC9.bel;obtain ⟨p1,p2,p3⟩:=hP9.rules;go_wp2_with fail;exact ret_tmp_blk rfl rfl ((hP9.set_ 0 (.int .i64 14)).set_ 1 (.int .i64 (-1))) _ Tryz.underlying29 rfl (by kernel_rfl) rfl _ rfl ⟨by rw [← HE.out]; rfl,(hb9.setCell (p:=⟨w.heap.size + 1,0,none⟩) (Nat.le_succ _) (.int .i64 14)).setCell (p:=⟨w.heap.size + 1,1,none⟩) (Nat.le_succ _) (.int .i64 (-1))⟩
 ·have hl4 : ¬ (4000:Int) < (t.length:Int):=(by omega);have HE : Hid ((quotedS 34 ctlB (runesL t),0,0) = R):=Lib.hid (by rw [← HRR.out,HP4.out,if_neg h4]; rfl);have HQT:=Lib.hid (fun W => quoted34c_any t W (by omega) hir);have hq4:=quoted_len ctlB (runesL t);have hq5 : (runesL t).length ≤ t.length:=runesF_len t.length t;obtain ⟨Z,hZ⟩ : ∃ Z,quotedS 34 ctlB (runesL t) = Z:=⟨_,rfl⟩;rw [hZ] at HQT hq4 HE;have hzl : Z.length ≤ 16002:=(by omega);clear h4 HP4 hZ hq4 hq5 hir;have hF:=Blk.new w2 29 #[.int .i64 0,.int .i64 0];have hba:=(Below.refl w2.heap.size w2).alloc (Nat.le_refl _) (.cells #[.int .i64 0,.int .i64 0] 29);have hC3:=hC2.step hba;have hT3:=hT.keepB hC3.bel;have hr1:=hrn.keepB hC3.bel;go_wp2_with fail;obtain ⟨w3,hw3⟩ : ∃ w3,w2.alloc (.cells #[.int .i64 0,.int .i64 0] 29) = w3:=⟨_,rfl⟩;rw [hw3] at hF hC3 hT3 hr1 ⊢;obtain ⟨q,hq⟩ : ∃ q,w2.heap.size = q:=⟨_,rfl⟩;have hqs:=hC2.p.lt;rw [hq] at hF hqs ⊢;clear hw3 hq hC2 hba v1 v2 v3 hrn hrd hT;obtain ⟨q1,q2,q3⟩:=hF.rules;obtain ⟨p1,p2,p3⟩:=hC3.p.rules;have hC3d : FiC w _ w3.drew:=hC3.step ((Below.refl _ w3).drew);have hFd:=hF.belowS ((Below.refl _ w3).drew);obtain ⟨v1,v2,v3⟩:=hC3.v.rules;have s1:=v1 5;have s2:=q1 0;have s3:=q1 1;simp only [valD,List.getElem?_toArray,List.getElem?_cons_succ,List.getElem?_cons_zero] at s1 s2 s3;clear v1 v2 v3 q1 q2 q3 p1 p2 p3 hF hr1 hT3
  go_region_held3 (fun w' => w'.cell? ⟨w.heap.size,5,none⟩ = some (.string ⟨t.toArray⟩)∧w'.cell? ⟨q,0,none⟩ = some (.int .i64 0)∧w'.cell? ⟨q,1,none⟩ = some (.int .i64 0))
   (first | exact ⟨((hC5.v.far (p:=⟨w.heap.size + 1,0,none⟩) (by show w.heap.size ≠ w.heap.size + 1; omega) (.int .i64 0)).far (p:=⟨w.heap.size + 1,1,none⟩) (by show w.heap.size ≠ w.heap.size + 1; omega) (.int .i64 0)).cell 5,((hF5.far (p:=⟨w.heap.size + 1,0,none⟩) (by show q ≠ w.heap.size + 1; omega) (.int .i64 0)).far (p:=⟨w.heap.size + 1,1,none⟩) (by show q ≠ w.heap.size + 1; omega) (.int .i64 0)).cell 0,((hF5.far (p:=⟨w.heap.size + 1,0,none⟩) (by show q ≠ w.heap.size + 1; omega) (.int .i64 0)).far (p:=⟨w.heap.size + 1,1,none⟩) (by show q ≠ w.heap.size + 1; omega) (.int .i64 0)).cell 1⟩ | go_keep | exact ⟨k1,k2,k3⟩)
   (first | (go_at_call 25; refine (HQT.out _).mono ?_; rintro e w5 ⟨rfl,hbb5⟩; have hC5:=hC3d.step hbb5; have hF5:=hFd.belowS hbb5; have k1 : w5.cell? ⟨w.heap.size,5,none⟩ = some (.string ⟨t.toArray⟩):=hC5.v.cell 5; have k2 : w5.cell? ⟨q,0,none⟩ = some (.int .i64 0):=hF5.cell 0; have k3 : w5.cell? ⟨q,1,none⟩ = some (.int .i64 0):=hF5.cell 1; obtain ⟨p1,p2,p3⟩:=hC5.p.rules) | fail)
  all_goals go_wp2_with fail
  all_goals exact ret_tmp_blk rfl rfl ((hC5.p.set_ 0 (.int .i64 0)).set_ 1 (.int .i64 0)) _ Tryz.underlying29 rfl (by kernel_rfl) rfl _ rfl ⟨by rw [← HE.out]; rfl,(hC5.bel.setCell (p:=⟨w.heap.size + 1,0,none⟩) (Nat.le_succ _) (.int .i64 0)).setCell (p:=⟨w.heap.size + 1,1,none⟩) (Nat.le_succ _) (.int .i64 0)⟩
def pr5 (ln : List Nat) (t : List UInt8) (r:Int) : List UInt8 × Int × Int:=if 4000 < t.length then ([],14,-1) else (98 :: quotedS 34 octB (octL t),0,0)
theorem lprint5_any {w : World} (n1 n2 : Bool) (ln ld : List Nat) (A1 A2 : Option Addr) (c1 c2:Nat) (t : List UInt8) (r:Int) (hl1 : ln.length ≤ 9223372036854775807) (hl2 : ld.length ≤ 9223372036854775807) (ht : t.length ≤ 9223372036854775807) (hrn : Row w A1 (u32s ln)) (hrd : Row w A2 (u32s ld)) (hT : Tabs w)(hir : ∀ r ∈ octL t,IrOk r) :
  Calls Tryz.prog 8 #[.agg (valD 5 n1 (.slice A1 ln.length c1) n2 (.slice A2 ld.length c2) t r)] w (LPPost w (if validV 5 n1 n2 ln ld t r then pr5 ln t r else ([],6,-1))):=by
 have hC:=FiC.new w (valD 5 n1 (.slice A1 ln.length c1) n2 (.slice A2 ld.length c2) t r);obtain ⟨v1,v2,v3⟩:=hC.v.rules;have HV:=Lib.hid (fun W hr1 hr2 hT => lvalid5_all (w:=W) n1 n2 ln ld A1 A2 c1 c2 t r hl1 hl2 ht hr1 hr2 hT);obtain ⟨VV,hVV⟩ : ∃ b,validV 5 n1 n2 ln ld t r = b:=⟨_,rfl⟩;rw [hVV] at HV ⊢;have HVV:=Lib.hid hVV;obtain ⟨R,hR⟩ : ∃ R,(if VV = true then pr5 ln t r else ([],6,-1)) = R:=⟨_,rfl⟩;rw [hR];have HRR:=Lib.hid hR;clear hVV hR;unfold valD at *
 go_enter Tryz.func8,Tryz.ntmps8;go_wp2_with fail;refine (HV.out _ (hrn.keepB hC.bel) (hrd.keepB hC.bel) (hT.keepB hC.bel)).mono ?_;rintro e w2 ⟨rfl,hbb⟩;have hC2:=hC.step hbb;clear hC hbb v1 v2 v3 HV;obtain ⟨v1,v2,v3⟩:=hC2.v.rules;rcases VV with _ | _
 case false =>
  go_wp2_with fail;refine (lfault_any 6 (-1) _).mono ?_;rintro e w9 ⟨rfl,hbb9⟩;have hC9:=hC2.step hbb9;clear hC2 hbb9 v1 v2 v3;have hP9:=hC9.p;have hb9:=hC9.bel;obtain ⟨p1,p2,p3⟩:=hP9.rules;go_wp2_with fail;exact ret_tmp_blk rfl rfl ((hP9.set_ 0 (.int .i64 6)).set_ 1 (.int .i64 (-1))) _ Tryz.underlying29 rfl (by kernel_rfl) rfl _ rfl ⟨by rw [← HRR.out]; rfl,(hb9.setCell (p:=⟨w.heap.size + 1,0,none⟩) (Nat.le_succ _) (.int .i64 6)).setCell (p:=⟨w.heap.size + 1,1,none⟩) (Nat.le_succ _) (.int .i64 (-1))⟩
 have HP4:=Lib.hid (show pr5 ln t r = if 4000 < t.length then ([],14,-1) else (98 :: quotedS 34 octB (octL t),0,0) from rfl)
 by_cases h4 : 4000 < t.length
 ·have hl4 : (4000:Int) < (t.length:Int):=(by omega);have HE : Hid (([],14,-1) = R):=Lib.hid (by rw [← HRR.out,HP4.out,if_pos h4]; rfl);clear h4 HP4;go_wp2_with fail;refine (lfault_any 14 (-1) _).mono ?_;rintro e w9 ⟨rfl,hbb9⟩;have hC9:=hC2.step hbb9;clear hC2 hbb9 v1 v2 v3;have hP9:=hC9.p;have hb9:=hC9.bel;obtain ⟨p1,p2,p3⟩:=hP9.rules;go_wp2_with fail;exact ret_tmp_blk rfl rfl ((hP9.set_ 0 (.int .i64 14)).set_ 1 (.int .i64 (-1))) _ Tryz.underlying29 rfl (by kernel_rfl) rfl _ rfl ⟨by rw [← HE.out]; rfl,(hb9.setCell (p:=⟨w.heap.size + 1,0,none⟩) (Nat.le_succ _) (.int .i64 14)).setCell (p:=⟨w.heap.size + 1,1,none⟩) (Nat.le_succ _) (.int .i64 (-1))⟩
 ·have hl4 : ¬ (4000:Int) < (t.length:Int):=(by omega);have HE : Hid ((98 :: quotedS 34 octB (octL t),0,0) = R):=Lib.hid (by rw [← HRR.out,HP4.out,if_neg h4]; rfl);have HQT:=Lib.hid (fun W => quoted34o_any t W (by omega) hir);have hq4:=quoted_len octB (octL t);have hq5 : (octL t).length ≤ t.length:=Nat.le_of_eq (octL_len t);obtain ⟨Z,hZ⟩ : ∃ Z,quotedS 34 octB (octL t) = Z:=⟨_,rfl⟩;rw [hZ] at HQT hq4 HE;have hzl : Z.length ≤ 16002:=(by omega);have hadd : ∀ W : World,(Op.stringOp .add ⟨#[98]⟩ ⟨Z.toArray⟩).run Tryz.prog W = .ok (.string ⟨(98 :: Z).toArray⟩) W:=fun W => run_string_add_lists W [98] Z (by simp) (by omega);obtain ⟨Y,hY⟩ : ∃ Y,98 :: Z = Y:=⟨_,rfl⟩;rw [hY] at HE hadd;clear h4 HP4 hZ hq4 hq5 hir hY;have hF:=Blk.new w2 29 #[.int .i64 0,.int .i64 0];have hba:=(Below.refl w2.heap.size w2).alloc (Nat.le_refl _) (.cells #[.int .i64 0,.int .i64 0] 29);have hC3:=hC2.step hba;have hT3:=hT.keepB hC3.bel;have hr1:=hrn.keepB hC3.bel;go_wp2_with fail;obtain ⟨w3,hw3⟩ : ∃ w3,w2.alloc (.cells #[.int .i64 0,.int .i64 0] 29) = w3:=⟨_,rfl⟩;rw [hw3] at hF hC3 hT3 hr1 ⊢;obtain ⟨q,hq⟩ : ∃ q,w2.heap.size = q:=⟨_,rfl⟩;have hqs:=hC2.p.lt;rw [hq] at hF hqs ⊢;clear hw3 hq hC2 hba v1 v2 v3 hrn hrd hT;obtain ⟨q1,q2,q3⟩:=hF.rules;obtain ⟨p1,p2,p3⟩:=hC3.p.rules;have hC3d : FiC w _ w3.drew:=hC3.step ((Below.refl _ w3).drew);have hFd:=hF.belowS ((Below.refl _ w3).drew);obtain ⟨v1,v2,v3⟩:=hC3.v.rules;have s1:=v1 5;have s2:=q1 0;have s3:=q1 1;simp only [valD,List.getElem?_toArray,List.getElem?_cons_succ,List.getElem?_cons_zero] at s1 s2 s3;clear v1 v2 v3 q1 q2 q3 p1 p2 p3 hF hr1 hT3
  go_region_held3 (fun w' => w'.cell? ⟨w.heap.size,5,none⟩ = some (.string ⟨t.toArray⟩)∧w'.cell? ⟨q,0,none⟩ = some (.int .i64 0)∧w'.cell? ⟨q,1,none⟩ = some (.int .i64 0))
   (first | exact ⟨((hC5.v.far (p:=⟨w.heap.size + 1,0,none⟩) (by show w.heap.size ≠ w.heap.size + 1; omega) (.int .i64 0)).far (p:=⟨w.heap.size + 1,1,none⟩) (by show w.heap.size ≠ w.heap.size + 1; omega) (.int .i64 0)).cell 5,((hF5.far (p:=⟨w.heap.size + 1,0,none⟩) (by show q ≠ w.heap.size + 1; omega) (.int .i64 0)).far (p:=⟨w.heap.size + 1,1,none⟩) (by show q ≠ w.heap.size + 1; omega) (.int .i64 0)).cell 0,((hF5.far (p:=⟨w.heap.size + 1,0,none⟩) (by show q ≠ w.heap.size + 1; omega) (.int .i64 0)).far (p:=⟨w.heap.size + 1,1,none⟩) (by show q ≠ w.heap.size + 1; omega) (.int .i64 0)).cell 1⟩ | go_keep | exact ⟨k1,k2,k3⟩)
   (first | (go_at_call 25; refine (HQT.out _).mono ?_; rintro e w5 ⟨rfl,hbb5⟩; have hC5:=hC3d.step hbb5; have hF5:=hFd.belowS hbb5; have k1 : w5.cell? ⟨w.heap.size,5,none⟩ = some (.string ⟨t.toArray⟩):=hC5.v.cell 5; have k2 : w5.cell? ⟨q,0,none⟩ = some (.int .i64 0):=hF5.cell 0; have k3 : w5.cell? ⟨q,1,none⟩ = some (.int .i64 0):=hF5.cell 1; obtain ⟨p1,p2,p3⟩:=hC5.p.rules) | fail)
  all_goals go_wp2_with fail
  all_goals exact ret_tmp_blk rfl rfl ((hC5.p.set_ 0 (.int .i64 0)).set_ 1 (.int .i64 0)) _ Tryz.underlying29 rfl (by kernel_rfl) rfl _ rfl ⟨by rw [← HE.out]; rfl,(hC5.bel.setCell (p:=⟨w.heap.size + 1,0,none⟩) (Nat.le_succ _) (.int .i64 0)).setCell (p:=⟨w.heap.size + 1,1,none⟩) (Nat.le_succ _) (.int .i64 0)⟩
end
section
open Go.RowKit Go.Shelf Go.Lib Go.Maps
end
section
open Go.Lib
def bestF (r : List UInt8) (n:Nat) (s : List UInt8) : Nat:=if s.isPrefixOf r∧n < s.length then s.length else n
def best (l : List (List UInt8)) (r : List UInt8) (n:Nat) : Nat:=l.foldl (bestF r) n
def sgR : List (List UInt8) :=
 [[43],[45],[42],[47],[47,47],[37],[42,42],[60,60],[62,62],[38],[124],[94],[126],[60],[60,61],[62],[62,61],[61,61],[33,61],[40],[41],[91],[93],[123],[125],[44],[58],[46],[61],[43,61],[45,61],[42,61],[47,61],[47,47,61],[37,61],[42,42,61],[60,60,61],[62,62,61],[38,61],[124,61],[94,61],[64],[45,62]]
end
section
open Go.RowKit Go.Shelf Go.Lib Go.Maps
def Lim (w : World) : Prop:=∃ m,w.cell? ⟨2,0,none⟩ = some (.int .i64 m)
theorem Lim.keepB {w w' : World} (h : Lim w) (hb : Below w.heap.size w w') : Lim w':=by
 obtain ⟨m,hm⟩:=h;exact ⟨m,(hb.cell (p:=⟨_,0,none⟩) (lt_of_cell hm)).trans hm⟩
def spacedR : List (List UInt8) → List UInt8
 | [] => []
 | [x] => x
 | x :: y :: l => x ++ 32 :: spacedR (y :: l)
end
section
open Go.RowKit Go.Lib Go.Sort
def fg10 : List UInt8:=[48,49,50,51,52,53,54,55,56,57]
def fg16 : List UInt8:=[48,49,50,51,52,53,54,55,56,57,97,98,99,100,101,102]
def fg2 : List UInt8:=[48,49]
def decOk (u : List UInt8) : Bool:=onlyV u fg10 && (decide (u = [48]) || decide (u.head? ≠ some 48))
inductive NumR where
 | fault (c:Int)
 | whole (n:Nat)
 | point (n p:Nat)
def numR (s : List UInt8) : NumR :=
 if 600 < s.length then .fault 3
 else if hasPrefix s [48,120] = true∧onlyV (s.drop 2) fg16 = true then .whole (numV 16 (s.drop 2))
 else if hasPrefix s [48,98] = true∧onlyV (s.drop 2) fg2 = true then .whole (numV 2 (s.drop 2))
 else if decOk (cut s [46]).1 = true∧(cut s [46]).2.2 = false then .whole (numV 10 s)
 else if decOk (cut s [46]).1 = true∧onlyV (cut s [46]).2.1 fg10 = true then .point (numV 10 ((cut s [46]).1 ++ (cut s [46]).2.1)) (cut s [46]).2.1.length
 else .fault 1
def NumVal (w' : World) (v : Value) : Nat × Nat → Prop:=fun x => ∃ A c,Row w' A (u32s (lg x.1)) ∧
 if x.2 = 1 then v = .agg (valD 2 false (.slice A (lg x.1).length c) false (.slice none 0 0) [] 0)
 else ∃ A' c',Row w' A' (u32s (lg x.2))∧v = .agg (valD 3 false (.slice A (lg x.1).length c) false (.slice A' (lg x.2).length c') [] 0)
def NuPost (w : World) (R : NumR) (e : Ending) (w' : World) : Prop:=Below w.heap.size w w'∧match R with
 | .fault c => e = .returned (.tuple #[.agg (valD 0 false (.slice none 0 0) false (.slice none 0 0) [] 0),flt c (-1)])
 | .whole n => ∃ v,e = .returned (.tuple #[v,flt 0 0])∧NumVal w' v (n,1)
 | .point n p => ∃ v,e = .returned (.tuple #[v,flt 0 0])∧NumVal w' v (outS n p 2)
theorem scut_any (s : List UInt8) (w : World) (hl : s.length ≤ 4294967) (hm : Lim w) :
  Calls Tryz.prog 37 #[.string ⟨s.toArray⟩,.string ⟨#[46]⟩] w fun e w' => e = .returned (.tuple #[.string ⟨(cut s [46]).1.toArray⟩,.string ⟨(cut s [46]).2.1.toArray⟩,.bool (cut s [46]).2.2])∧∃ n,w' = w.drewN n:=by
 obtain ⟨m,hm⟩:=hm;exact Tryz.strings_Cut ⟨s.toArray⟩ ⟨#[46]⟩ m w (by simp [ByteArray.size]; omega) hm
theorem shasp_any (s p : List UInt8) (w : World) :
  Calls Tryz.prog 39 #[.string ⟨s.toArray⟩,.string ⟨p.toArray⟩] w fun e w' => e = .returned (.bool (hasPrefix s p))∧w' = w:=Tryz.strings_HasPrefix ⟨s.toArray⟩ ⟨p.toArray⟩ w
end
end Go.Proofs.YtonehlkiackhcaaGreatDoor