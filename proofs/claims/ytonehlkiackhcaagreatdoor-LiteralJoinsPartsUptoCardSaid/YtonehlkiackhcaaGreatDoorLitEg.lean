/- The literals: parts are gathered and compared, as the reference does it. Nothing is claimed here. -/
import Derived.Test.YtonehlkiackhcaaGreatDoorLitEe
set_option linter.unusedVariables false
set_option linter.unusedSimpArgs false
set_option maxRecDepth 100000
set_option maxHeartbeats 16000000
namespace Go.Proofs.YtonehlkiackhcaaGreatDoor
section
open Go.RowKit Go.Lib Go.Sort
theorem specS_end {l : List UInt8} {x : Sht} {frm : Nat} : ∀ (f k m:Nat),specS l x frm f k = .ok m → k ≤ m∧m < x.lim
 | 0,k,m,h => by cases h
 | f + 1,k,m,h => by
  unfold specS at h
  by_cases hk : k < x.lim
  ·rw [plainS_in hk] at h;split at h
   ·cases h
   ·rename_i c hc;split at h
    ·injection h with h; subst h; exact ⟨Nat.le_refl _,hk⟩
    ·split at h
     ·cases h
     ·have:=specS_end f (k + 1) m h;omega
  ·rw [plainS_out (by omega)] at h;cases h
def FaPost (w : World) (R : Except Nat (Prt × Nat)) (e : Ending) (w' : World) : Prop :=
 Below w.heap.size w w'∧match R with
 | .ok (p,j) => e = .returned (.tuple #[.agg (prtc p).toArray,.int .i64 (j:Int),.bool true])
 | .error k => ∃ C : Array Value,C.size = 4∧C.all (·.oneCell') = true∧e = .returned (.tuple #[.agg C,.int .i64 (k:Int),.bool false])
theorem hasT {l : List UInt8} {m i : Nat} {S : List UInt8} (hm : m ≤ l.length) : hasB (l.take m) i S = (decide (i < m) && S.contains (at0 l i)):=by
 unfold hasB;rw [List.length_take,Nat.min_eq_left hm]
 by_cases h : i < m
 ·rw [at0_take _ _ _ h]
 ·simp [h]
theorem conv_no1 {l : List UInt8} {x : Sht} {frm i : Nat} (hc : at0 l i = 33) (h : (decide (i + 1 < x.lim) && [114,115].contains (at0 l (i + 1))) = false) : convS l x frm i = .error (if x.lim ≤ i + 1 then frm else i + 1):=by
 unfold convS;rw [if_pos hc]
 by_cases h1 : i + 1 < x.lim
 ·rw [plainS_in h1,if_neg (show ¬ x.lim ≤ i + 1 by omega)];rw [decide_eq_true h1,Bool.true_and] at h;split
  ·rename_i j hj;split at hj
   ·injection hj with hj; rw [hj]
   ·cases hj
  ·rename_i c hj;split at hj
   ·cases hj
   ·injection hj with hj;subst hj;rw [if_pos];simpa using h
 ·rw [plainS_out (by omega),if_pos (by omega)]
theorem conv_ok1 {l : List UInt8} {x : Sht} {frm i : Nat} (hq : x.quo = 34∨x.quo = 39) (hc : at0 l i = 33) (h : (decide (i + 1 < x.lim) && [114,115].contains (at0 l (i + 1))) = true) : convS l x frm i = match plainS l x frm (i + 2) with
   | .error j => .error j
   | .ok d => if d ≠ 58∧d ≠ 125 then .error (i + 2) else .ok (((at0 l (i + 1)).toNat:Int),i + 2):=by
 rw [Bool.and_eq_true,decide_eq_true_eq] at h;obtain ⟨h1,h2⟩:=h;have h2 : at0 l (i + 1) = 114∨at0 l (i + 1) = 115:=by simpa using h2
 unfold convS;rw [if_pos hc,plainS_in h1,if_neg]
 ·simp only;rw [if_neg (by rintro ⟨a,b⟩; rcases h2 with h | h; exact a h; exact b h)];rfl
 ·intro h;rcases hq with hq | hq <;> rw [hq] at h <;> rcases h2 with h2 | h2 <;> rw [h2] at h <;> revert h <;> decide
theorem conv_no2 {l : List UInt8} {x : Sht} {frm i : Nat} (hq : x.quo = 34∨x.quo = 39) (hc : at0 l i = 33) (h : (decide (i + 1 < x.lim) && [114,115].contains (at0 l (i + 1))) = true) (h' : (decide (i + 2 < x.lim) && [58,125].contains (at0 l (i + 2))) = false) : convS l x frm i = .error (if x.lim ≤ i + 2 then frm else i + 2):=by
 rw [conv_ok1 hq hc h]
 by_cases h1 : i + 2 < x.lim
 ·rw [plainS_in h1,if_neg (show ¬ x.lim ≤ i + 2 by omega)];rw [decide_eq_true h1,Bool.true_and] at h';split
  ·rename_i j hj;split at hj
   ·injection hj with hj; rw [hj]
   ·cases hj
  ·rename_i c hj;split at hj
   ·cases hj
   ·injection hj with hj;subst hj;rw [if_pos];simpa using h'
 ·rw [plainS_out (by omega),if_pos (by omega)]
theorem conv_yes {l : List UInt8} {x : Sht} {frm i : Nat} (hq : x.quo = 34∨x.quo = 39) (hc : at0 l i = 33) (h : (decide (i + 1 < x.lim) && [114,115].contains (at0 l (i + 1))) = true) (h' : (decide (i + 2 < x.lim) && [58,125].contains (at0 l (i + 2))) = true) : convS l x frm i = .ok (((at0 l (i + 1)).toNat:Int),i + 2):=by
 rw [conv_ok1 hq hc h];rw [Bool.and_eq_true,decide_eq_true_eq] at h';obtain ⟨h1,h2⟩:=h';have h2 : at0 l (i + 2) = 58∨at0 l (i + 2) = 125:=by simpa using h2
 rw [plainS_in h1,if_neg]
 ·simp only;rw [if_neg (by rintro ⟨a,b⟩; rcases h2 with h | h; exact a h; exact b h)]
 ·intro h;rcases hq with hq | hq <;> rw [hq] at h <;> rcases h2 with h2 | h2 <;> rw [h2] at h <;> revert h <;> decide
theorem fieldAt_any (l : List UInt8) (x : Sht) (frm:Nat) (w : World) (hqu : x.quo = 34∨x.quo = 39) (hf : frm < x.lim) (hx : x.lim < l.length) (hl : l.length ≤ 16000) :
  Calls Tryz.prog 61 #[.string ⟨l.toArray⟩,.int .i64 (frm:Int),.agg (shtC x)] w (FaPost w (fieldS l x frm)):=by
 obtain ⟨R,hR⟩ : ∃ R,fieldS l x frm = R:=⟨_,rfl⟩;rw [hR];have HR : Hid (R = match exprR l frm (exprS l x frm (l.length + 1 - (frm + 1)) (frm + 1) [] 0) with
  | .error j => .error j
  | .ok (t,i) => match convS l x frm i with
   | .error j => .error j
   | .ok (c,j) => tailS l x frm t c j):=hid (by rw [← hR]; rfl)
 have HFE:=hid (fun W => fieldEnd_any l x frm (frm + 1) W hqu (by omega) hx hl);have HEE:=hid (fun k => exprS_end (l:=l) (x:=x) (frm:=frm) (l.length + 1 - (frm + 1)) (frm + 1) [] 0 k);have HQU:=hid hqu;obtain ⟨E,hE⟩ : ∃ E,exprS l x frm (l.length + 1 - (frm + 1)) (frm + 1) [] 0 = E:=⟨_,rfl⟩;rw [hE] at HR HFE HEE;rw [show ((frm + 1:Nat):Int) = (frm:Int) + 1 by omega] at HFE;have hA0:=Blk.new w 85 (shtC x);have hB0:=Blk.new (w.alloc (.cells (shtC x) 85)) 91 #[.bool false,.string ⟨#[]⟩,.int .i64 0,.string ⟨#[]⟩];have hQ0:=Blk.new ((w.alloc (.cells (shtC x) 85)).alloc (.cells #[.bool false,.string ⟨#[]⟩,.int .i64 0,.string ⟨#[]⟩] 91)) 91 #[.bool false,.string ⟨#[]⟩,.int .i64 0,.string ⟨#[]⟩];have hA1:=(hA0.alloc (.cells #[.bool false,.string ⟨#[]⟩,.int .i64 0,.string ⟨#[]⟩] 91)).alloc (.cells #[.bool false,.string ⟨#[]⟩,.int .i64 0,.string ⟨#[]⟩] 91);have hB1:=hB0.alloc (.cells #[.bool false,.string ⟨#[]⟩,.int .i64 0,.string ⟨#[]⟩] 91);have hb1:=(((Below.refl w.heap.size w).alloc (Nat.le_refl _) (.cells (shtC x) 85)).alloc (by simp) (.cells #[.bool false,.string ⟨#[]⟩,.int .i64 0,.string ⟨#[]⟩] 91)).alloc (by simp; omega) (.cells #[.bool false,.string ⟨#[]⟩,.int .i64 0,.string ⟨#[]⟩] 91);obtain ⟨a,ha⟩ : ∃ a,w.heap.size = a:=⟨_,rfl⟩;have e1 : (w.alloc (.cells (shtC x) 85)).heap.size = a + 1:=by simp; omega
 have e2 : ((w.alloc (.cells (shtC x) 85)).alloc (.cells #[.bool false,.string ⟨#[]⟩,.int .i64 0,.string ⟨#[]⟩] 91)).heap.size = a + 2:=by simp; omega
 rw [ha] at hA1 hb1;rw [e1] at hB1;rw [e2] at hQ0;have HAA:=hid ha;clear hA0 hB0 e1 e2 hqu hR hE;unfold shtC at hA1 hB1 hQ0 hb1 HFE ⊢;go_enter Tryz.func61,Tryz.ntmps61
 go_upto_region 1 with fail
 go_upto_region 2 with (refine wpList_store_row rfl 91 (.tmp 9) (.tmp 14) rfl (a + 2) #[.bool true,.string ⟨#[]⟩,.int .i64 0,.string ⟨#[]⟩] rfl rfl 91 #[.bool false,.string ⟨#[]⟩,.int .i64 0,.string ⟨#[]⟩] hQ0 (by kernel_rfl) rfl (by simp [Value.oneCell']) ?_)
 have hA:=hA1.farRow (show a ≠ a + 2 by omega) #[.bool true,.string ⟨#[]⟩,.int .i64 0,.string ⟨#[]⟩];have hB:=hB1.farRow (show a + 1 ≠ a + 2 by omega) #[.bool true,.string ⟨#[]⟩,.int .i64 0,.string ⟨#[]⟩];have hQ:=hQ0.setRow #[.bool true,.string ⟨#[]⟩,.int .i64 0,.string ⟨#[]⟩];have hb:=Go.below_setRow hb1 (show a ≤ a + 2 by omega) #[.bool true,.string ⟨#[]⟩,.int .i64 0,.string ⟨#[]⟩];generalize (((w.alloc (.cells #[.int .u8 (x.pre.toNat:Int),.int .u8 (x.quo.toNat:Int),.int .i64 (x.frm:Int),.int .i64 (x.lim:Int)] 85)).alloc (.cells #[.bool false,.string ⟨#[]⟩,.int .i64 0,.string ⟨#[]⟩] 91)).alloc (.cells #[.bool false,.string ⟨#[]⟩,.int .i64 0,.string ⟨#[]⟩] 91)).setRow (a + 2) #[.bool true,.string ⟨#[]⟩,.int .i64 0,.string ⟨#[]⟩] = w1 at hA hB hQ hb ⊢;clear hA1 hB1 hQ0 hb1 ha;have hbs:=hb.size;go_wp2_with refine wpList_load_row rfl 85 (.tmp 5) rfl a rfl 85 #[.int .u8 (x.pre.toNat:Int),.int .u8 (x.quo.toNat:Int),.int .i64 (x.frm:Int),.int .i64 (x.lim:Int)] (0,0) _ hA Tryz.underlying85 rfl (by kernel_rfl) ?_;refine (HFE.out _).mono ?_;rintro e w3 ⟨hb3,hpost⟩
 replace hA:=hA.belowS hb3
 replace hB:=hB.belowS hb3
 replace hQ:=hQ.belowS hb3
 replace hb:=below_then hb hb3 (by have:=HAA.out; omega)
 clear HFE hbs hb3;rcases E with k | i1
 ·obtain ⟨j,rfl,hjk,hj20⟩:=hpost;have HKK:=hid hjk;have HRR : Hid (R = .error k):=hid (by rw [HR.out]; rfl);clear hjk
  -- a fault: the part as it is, and the fault's offset
  have HBF:=hid (fun W => badField_any #[.bool true,.string ⟨#[]⟩,.int .i64 0,.string ⟨#[]⟩] frm x j k W HKK.out ⟨rfl,by simp [Value.oneCell']⟩);unfold shtC at HBF;rw [show ((j:Nat):Int) = (j:Int) from by first | rfl | omega] at HBF;go_wp2_with (first | refine wpList_load_row rfl 91 (.tmp 9) rfl (a + 2) rfl 91 #[.bool true,.string ⟨#[]⟩,.int .i64 0,.string ⟨#[]⟩] (0,0) _ hQ Tryz.underlying91 rfl (by kernel_rfl) ?_ | refine wpList_load_row rfl 85 (.tmp 5) rfl a rfl 85 #[.int .u8 (x.pre.toNat:Int),.int .u8 (x.quo.toNat:Int),.int .i64 (x.frm:Int),.int .i64 (x.lim:Int)] (0,0) _ hA Tryz.underlying85 rfl (by kernel_rfl) ?_);refine (HBF.out _).mono ?_;rintro e w9 ⟨rfl,hb9⟩;have hB9:=hB.belowS hb9;have hbb9:=below_then hb hb9 (by have:=hb.size; have:=HAA.out; omega);clear hb9;go_wp2_with (refine wpList_store_row rfl 91 (.tmp 6) (.tmp 30) rfl (a + 1) #[.bool true,.string ⟨#[]⟩,.int .i64 0,.string ⟨#[]⟩] rfl rfl 91 #[.bool false,.string ⟨#[]⟩,.int .i64 0,.string ⟨#[]⟩] hB9 (by kernel_rfl) rfl (by simp [Value.oneCell']) ?_);refine ret_blk_tmp2 rfl rfl (hB9.setRow _) _ Tryz.underlying91 rfl (by kernel_rfl) rfl _ _ rfl rfl ⟨by rw [HAA.out]; exact Go.below_setRow hbb9 (by omega) _,?_⟩;rw [HRR.out];exact ⟨_,rfl,by simp [Value.oneCell'],rfl⟩
 ·obtain ⟨rfl,hi1⟩:=hpost;obtain ⟨hfi,_,hend⟩:=HEE.out i1 rfl;have hsub:=run_sub l (frm + 1) i1 hfi (by omega) ((frm:Int) + 1) (i1:Int) (by omega) rfl;have HR2 : Hid (R = match (if Lib.trimB (cutL l (frm + 1) i1) 32 = [] then Except.error frm else .ok (cutL l (frm + 1) i1,i1) : Except Nat (List UInt8 × Nat)) with
   | .error j => .error j
   | .ok (t,i) => match convS l x frm i with
    | .error j => .error j
    | .ok (c,j) => tailS l x frm t c j):=hid (by rw [HR.out]; rfl)
  obtain ⟨t,ht⟩ : ∃ t,cutL l (frm + 1) i1 = t:=⟨_,rfl⟩;have htl : t.length ≤ 16000:=(by rw [← ht]; unfold cutL; rw [List.length_take,List.length_drop]; omega);rw [ht] at HR2;rw [show (l.drop (frm + 1)).take (i1 - (frm + 1)) = t from ht] at hsub;have HTB:=hid (fun W => Tryz.strings_Trim_one ⟨t.toArray⟩ 32 (by decide) W (by show t.toArray.size ≤ _; simp; omega));have hix:=run_idx l i1 (by omega) (i1:Int) rfl;clear ht hfi HEE HR;obtain ⟨q1,q2,q3⟩:=hQ.rules;go_wp2_with fail;refine (HTB.out _).mono ?_;rintro e w5 ⟨rfl,hw5⟩;have hb5 : Below (w3.setCell ⟨a + 2,1,none⟩ (.string ⟨t.toArray⟩)).heap.size (w3.setCell ⟨a + 2,1,none⟩ (.string ⟨t.toArray⟩)) w5:=by
   rcases hw5 with rfl | rfl
   ·exact Below.refl _ _
   ·exact (Below.refl _ _).drew
  replace hA:=(hA.far (p:=⟨a + 2,1,none⟩) (by simp) (.string ⟨t.toArray⟩)).belowS hb5
  replace hB:=(hB.far (p:=⟨a + 2,1,none⟩) (by simp) (.string ⟨t.toArray⟩)).belowS hb5
  replace hQ : Blk w5 (a + 2) 91 #[.bool true,.string ⟨t.toArray⟩,.int .i64 0,.string ⟨#[]⟩]:=(hQ.set_ 1 (.string ⟨t.toArray⟩)).belowS hb5
  replace hb:=below_then (hb.setCell (p:=⟨a + 2,1,none⟩) (by simp) (.string ⟨t.toArray⟩)) hb5 (by have:=(hb.setCell (p:=⟨a + 2,1,none⟩) (by simp) (.string ⟨t.toArray⟩)).size; have:=HAA.out; omega)
  clear q1 q2 q3 hw5 hb5 HTB;cases hst : (Lib.trimB t 32 == [])
  rotate_left
  ·have hne : Lib.trimB t 32 = []:=(by simpa using hst);have HRR : Hid (R = .error frm):=hid (by rw [HR2.out,if_pos hne]);have HKK : Hid ((if x.lim ≤ frm then frm else frm) = frm):=hid (by split <;> rfl);generalize Lib.trimB t 32 = tb at hst hne ⊢;clear hne
   -- a fault: the part as it is, and the fault's offset
   have HBF:=hid (fun W => badField_any #[.bool true,.string ⟨t.toArray⟩,.int .i64 0,.string ⟨#[]⟩] frm x frm frm W HKK.out ⟨rfl,by simp [Value.oneCell']⟩);unfold shtC at HBF;rw [show ((frm:Nat):Int) = (frm:Int) from by first | rfl | omega] at HBF;go_wp2_with (first | refine wpList_load_row rfl 91 (.tmp 9) rfl (a + 2) rfl 91 #[.bool true,.string ⟨t.toArray⟩,.int .i64 0,.string ⟨#[]⟩] (0,0) _ hQ Tryz.underlying91 rfl (by kernel_rfl) ?_ | refine wpList_load_row rfl 85 (.tmp 5) rfl a rfl 85 #[.int .u8 (x.pre.toNat:Int),.int .u8 (x.quo.toNat:Int),.int .i64 (x.frm:Int),.int .i64 (x.lim:Int)] (0,0) _ hA Tryz.underlying85 rfl (by kernel_rfl) ?_);refine (HBF.out _).mono ?_;rintro e w9 ⟨rfl,hb9⟩;have hB9:=hB.belowS hb9;have hbb9:=below_then hb hb9 (by have:=hb.size; have:=HAA.out; omega);clear hb9;go_wp2_with (refine wpList_store_row rfl 91 (.tmp 6) (.tmp 48) rfl (a + 1) #[.bool true,.string ⟨t.toArray⟩,.int .i64 0,.string ⟨#[]⟩] rfl rfl 91 #[.bool false,.string ⟨#[]⟩,.int .i64 0,.string ⟨#[]⟩] hB9 (by kernel_rfl) rfl (by simp [Value.oneCell']) ?_);refine ret_blk_tmp2 rfl rfl (hB9.setRow _) _ Tryz.underlying91 rfl (by kernel_rfl) rfl _ _ rfl rfl ⟨by rw [HAA.out]; exact Go.below_setRow hbb9 (by omega) _,?_⟩;rw [HRR.out];exact ⟨_,rfl,by simp [Value.oneCell'],rfl⟩
  ·have hne : ¬ Lib.trimB t 32 = []:=fun e => by rw [e] at hst; cases hst
   have HR3 : Hid (R = match convS l x frm i1 with
    | .error j => .error j
    | .ok (c,j) => tailS l x frm t c j):=hid (by rw [HR2.out,if_neg hne])
   generalize Lib.trimB t 32 = tb at hst hne ⊢;clear hne HR2
   by_cases c33 : at0 l i1 = 33
   ·have hup:=run_upto l x.lim (by omega) (x.lim:Int) rfl;have HH1:=hid (fun W => has_any (l.take x.lim) [114,115] (i1 + 1) ((i1:Int) + 1) (by omega) W (by rw [List.length_take]; omega) (by omega));have HH2:=hid (fun W => has_any (l.take x.lim) [58,125] (i1 + 2) ((i1:Int) + 2) (by omega) W (by rw [List.length_take]; omega) (by omega));rw [hasT (by omega)] at HH1 HH2;have HN1:=hid (fun h => conv_no1 (l:=l) (x:=x) (frm:=frm) (i:=i1) c33 h);have HN2:=hid (fun h h' => conv_no2 (l:=l) (x:=x) (frm:=frm) (i:=i1) HQU.out c33 h h');have HY:=hid (fun h h' => conv_yes (l:=l) (x:=x) (frm:=frm) (i:=i1) HQU.out c33 h h');have HLT:=hid (fun (h : (decide (i1 + 1 < x.lim) && [114,115].contains (at0 l (i1 + 1))) = true) => show i1 + 1 < x.lim from of_decide_eq_true (Bool.and_eq_true_iff.1 h).1);have HLT2:=hid (fun (h : (decide (i1 + 2 < x.lim) && [58,125].contains (at0 l (i1 + 2))) = true) => show i1 + 2 < x.lim from of_decide_eq_true (Bool.and_eq_true_iff.1 h).1);obtain ⟨T,hT⟩ : ∃ T,l.take x.lim = T:=⟨_,rfl⟩;rw [hT] at hup HH1 HH2;obtain ⟨b1,hb1⟩ : ∃ b1,(decide (i1 + 1 < x.lim) && [114,115].contains (at0 l (i1 + 1))) = b1:=⟨_,rfl⟩;obtain ⟨b2,hb2⟩ : ∃ b2,(decide (i1 + 2 < x.lim) && [58,125].contains (at0 l (i1 + 2))) = b2:=⟨_,rfl⟩;rw [hb1] at HH1 HN1 HN2 HY HLT;rw [hb2] at HH2 HN2 HY HLT2;rw [c33] at hix;clear hT hb1 hb2 c33 hend;obtain ⟨q1,q2,q3⟩:=hA.rules;rcases b1 with _ | _
    ·obtain ⟨kk,hkk⟩ : ∃ kk,(if x.lim ≤ i1 + 1 then frm else i1 + 1) = kk:=⟨_,rfl⟩;have HRR : Hid (R = .error kk):=hid (by rw [HR3.out,HN1.out rfl,hkk]);have HKK:=hid hkk;clear hkk;clear HN1 HN2 HY HLT HLT2 HH2;go_wp2_with fail;refine (HH1.out _).mono ?_;rintro e w6 ⟨rfl,rfl⟩;clear q1 q2 q3
     -- a fault: the part as it is, and the fault's offset
     have HBF:=hid (fun W => badField_any #[.bool true,.string ⟨t.toArray⟩,.int .i64 0,.string ⟨#[]⟩] frm x (i1 + 1) kk W HKK.out ⟨rfl,by simp [Value.oneCell']⟩);unfold shtC at HBF;rw [show (((i1 + 1):Nat):Int) = ((i1:Int) + 1) from by first | rfl | omega] at HBF;go_wp2_with (first | refine wpList_load_row rfl 91 (.tmp 9) rfl (a + 2) rfl 91 #[.bool true,.string ⟨t.toArray⟩,.int .i64 0,.string ⟨#[]⟩] (0,0) _ hQ Tryz.underlying91 rfl (by kernel_rfl) ?_ | refine wpList_load_row rfl 85 (.tmp 5) rfl a rfl 85 #[.int .u8 (x.pre.toNat:Int),.int .u8 (x.quo.toNat:Int),.int .i64 (x.frm:Int),.int .i64 (x.lim:Int)] (0,0) _ hA Tryz.underlying85 rfl (by kernel_rfl) ?_);refine (HBF.out _).mono ?_;rintro e w9 ⟨rfl,hb9⟩;have hB9:=hB.belowS hb9;have hbb9:=below_then hb hb9 (by have:=hb.size; have:=HAA.out; omega);clear hb9;go_wp2_with (refine wpList_store_row rfl 91 (.tmp 6) (.tmp 69) rfl (a + 1) #[.bool true,.string ⟨t.toArray⟩,.int .i64 0,.string ⟨#[]⟩] rfl rfl 91 #[.bool false,.string ⟨#[]⟩,.int .i64 0,.string ⟨#[]⟩] hB9 (by kernel_rfl) rfl (by simp [Value.oneCell']) ?_);refine ret_blk_tmp2 rfl rfl (hB9.setRow _) _ Tryz.underlying91 rfl (by kernel_rfl) rfl _ _ rfl rfl ⟨by rw [HAA.out]; exact Go.below_setRow hbb9 (by omega) _,?_⟩;rw [HRR.out];exact ⟨_,rfl,by simp [Value.oneCell'],rfl⟩
    ·have hlt1:=HLT.out rfl;have hixc:=run_idx l (i1 + 1) (by omega) ((i1:Int) + 1) (by omega);obtain ⟨cv,hcv⟩ : ∃ cv : Int,((at0 l (i1 + 1)).toNat:Int) = cv:=⟨_,rfl⟩;have hcvb : cv ≤ 255∧0 ≤ cv:=(by have:=(at0 l (i1 + 1)).toNat_lt; omega);obtain ⟨hcv1,hcv0⟩:=hcvb;rw [hcv] at hixc HY;clear HN1 HLT hcv;rcases b2 with _ | _
     ·obtain ⟨kk,hkk⟩ : ∃ kk,(if x.lim ≤ i1 + 2 then frm else i1 + 2) = kk:=⟨_,rfl⟩;have HRR : Hid (R = .error kk):=hid (by rw [HR3.out,HN2.out rfl rfl,hkk]);have HKK:=hid hkk;clear HN2 HY HLT2 hkk HR3
      go_upto_region 9 with fail
      go_wp2_with fail;refine (HH1.out _).mono ?_;rintro e w6 ⟨rfl,rfl⟩;clear q1 q2 q3;obtain ⟨p1,p2,p3⟩:=hQ.rules
      go_upto_region 13 with fail
      have hA2:=hA.far (p:=⟨a + 2,2,none⟩) (by simp) (.int .i64 cv);have hB2:=hB.far (p:=⟨a + 2,2,none⟩) (by simp) (.int .i64 cv);have hQ2 : Blk (w5.setCell ⟨a + 2,2,none⟩ (.int .i64 cv)) (a + 2) 91 #[.bool true,.string ⟨t.toArray⟩,.int .i64 cv,.string ⟨#[]⟩]:=hQ.set_ 2 (.int .i64 cv);have hb2':=hb.setCell (p:=⟨a + 2,2,none⟩) (by simp) (.int .i64 cv);generalize w5.setCell ⟨a + 2,2,none⟩ (.int .i64 cv) = w7 at hA2 hB2 hQ2 hb2' ⊢;clear p1 p2 p3 hA hB hQ hb HH1;have hA:=hA2;have hB:=hB2;have hQ:=hQ2;have hb:=hb2';clear hA2 hB2 hQ2 hb2';obtain ⟨q1,q2,q3⟩:=hA.rules;go_wp2_with fail;refine (HH2.out _).mono ?_;rintro e w6 ⟨rfl,rfl⟩;clear q1 q2 q3
      -- a fault: the part as it is, and the fault's offset
      have HBF:=hid (fun W => badField_any #[.bool true,.string ⟨t.toArray⟩,.int .i64 cv,.string ⟨#[]⟩] frm x (i1 + 2) kk W HKK.out ⟨rfl,by simp [Value.oneCell']⟩);unfold shtC at HBF;rw [show (((i1 + 2):Nat):Int) = ((i1:Int) + 2) from by first | rfl | omega] at HBF;go_wp2_with (first | refine wpList_load_row rfl 91 (.tmp 9) rfl (a + 2) rfl 91 #[.bool true,.string ⟨t.toArray⟩,.int .i64 cv,.string ⟨#[]⟩] (0,0) _ hQ Tryz.underlying91 rfl (by kernel_rfl) ?_ | refine wpList_load_row rfl 85 (.tmp 5) rfl a rfl 85 #[.int .u8 (x.pre.toNat:Int),.int .u8 (x.quo.toNat:Int),.int .i64 (x.frm:Int),.int .i64 (x.lim:Int)] (0,0) _ hA Tryz.underlying85 rfl (by kernel_rfl) ?_);refine (HBF.out _).mono ?_;rintro e w9 ⟨rfl,hb9⟩;have hB9:=hB.belowS hb9;have hbb9:=below_then hb hb9 (by have:=hb.size; have:=HAA.out; omega);clear hb9;go_wp2_with (refine wpList_store_row rfl 91 (.tmp 6) (.tmp 92) rfl (a + 1) #[.bool true,.string ⟨t.toArray⟩,.int .i64 cv,.string ⟨#[]⟩] rfl rfl 91 #[.bool false,.string ⟨#[]⟩,.int .i64 0,.string ⟨#[]⟩] hB9 (by kernel_rfl) rfl (by simp [Value.oneCell']) ?_);refine ret_blk_tmp2 rfl rfl (hB9.setRow _) _ Tryz.underlying91 rfl (by kernel_rfl) rfl _ _ rfl rfl ⟨by rw [HAA.out]; exact Go.below_setRow hbb9 (by omega) _,?_⟩;rw [HRR.out];exact ⟨_,rfl,by simp [Value.oneCell'],rfl⟩
     ·have hlt2:=HLT2.out rfl;have HRT : Hid (R = tailS l x frm t cv (i1 + 2)):=hid (by rw [HR3.out,HY.out rfl rfl]);clear HN2 HY HLT2 HR3
      go_upto_region 9 with fail
      go_wp2_with fail;refine (HH1.out _).mono ?_;rintro e w6 ⟨rfl,rfl⟩;clear q1 q2 q3;obtain ⟨p1,p2,p3⟩:=hQ.rules
      go_upto_region 13 with fail
      have hA2:=hA.far (p:=⟨a + 2,2,none⟩) (by simp) (.int .i64 cv);have hB2:=hB.far (p:=⟨a + 2,2,none⟩) (by simp) (.int .i64 cv);have hQ2 : Blk (w5.setCell ⟨a + 2,2,none⟩ (.int .i64 cv)) (a + 2) 91 #[.bool true,.string ⟨t.toArray⟩,.int .i64 cv,.string ⟨#[]⟩]:=hQ.set_ 2 (.int .i64 cv);have hb2':=hb.setCell (p:=⟨a + 2,2,none⟩) (by simp) (.int .i64 cv);generalize w5.setCell ⟨a + 2,2,none⟩ (.int .i64 cv) = w7 at hA2 hB2 hQ2 hb2' ⊢;clear p1 p2 p3 hA hB hQ hb HH1;have hA:=hA2;have hB:=hB2;have hQ:=hQ2;have hb:=hb2';clear hA2 hB2 hQ2 hb2';obtain ⟨q1,q2,q3⟩:=hA.rules;go_wp2_with fail;refine (HH2.out _).mono ?_;rintro e w6 ⟨rfl,rfl⟩;clear q1 q2 q3 HH2
      go_upto_region 15 with fail
      obtain ⟨j0,hj0⟩ : ∃ j0,i1 + 2 = j0:=⟨_,rfl⟩;rw [show ((i1:Int) + 2) = (j0:Int) by omega];rw [hj0] at HRT hlt2;clear hix hst hixc hup hj0
      -- what stands behind the conversion, at j0
      have hixj:=run_idx l j0 (by omega) (j0:Int) rfl
      by_cases h58 : at0 l j0 = 58
      ·have HRT2:=hid (show R = tailR l t cv (j0 + 1) (specS l x frm (l.length + 1 - (j0 + 1)) (j0 + 1)) from by rw [HRT.out]; unfold tailS; rw [if_pos h58]);have HPE:=hid (fun W => plainEnd_any l x frm (j0 + 1) W HQU.out (by omega) hx hl);have HSE:=hid (fun m => specS_end (l:=l) (x:=x) (frm:=frm) (l.length + 1 - (j0 + 1)) (j0 + 1) m);obtain ⟨S,hS⟩ : ∃ S,specS l x frm (l.length + 1 - (j0 + 1)) (j0 + 1) = S:=⟨_,rfl⟩;rw [hS] at HRT2 HPE HSE;rw [show ((j0 + 1:Nat):Int) = (j0:Int) + 1 by omega] at HPE;unfold shtC at HPE;rw [h58] at hixj;clear hS h58;obtain ⟨q1,q2,q3⟩:=hA.rules;go_wp2_with refine wpList_load_row rfl 85 (.tmp 5) rfl a rfl 85 #[.int .u8 (x.pre.toNat:Int),.int .u8 (x.quo.toNat:Int),.int .i64 (x.frm:Int),.int .i64 (x.lim:Int)] (0,0) _ hA Tryz.underlying85 rfl (by kernel_rfl) ?_;refine (HPE.out _).mono ?_;rintro e w7 ⟨hb7,hp7⟩
       replace hA:=hA.belowS hb7
       replace hB:=hB.belowS hb7
       replace hQ:=hQ.belowS hb7
       replace hb:=below_then hb hb7 (by have:=hb.size; have:=HAA.out; omega)
       clear q1 q2 q3 hb7 HPE;rcases S with k | m
       ·obtain ⟨j,rfl,hjk,hj20⟩:=hp7;have HKK:=hid hjk;have HRR : Hid (R = .error k):=hid (by rw [HRT2.out]; rfl);clear hjk
        -- a fault: the part as it is, and the fault's offset
        have HBF:=hid (fun W => badField_any #[.bool true,.string ⟨t.toArray⟩,.int .i64 cv,.string ⟨#[]⟩] frm x j k W HKK.out ⟨rfl,by simp [Value.oneCell']⟩);unfold shtC at HBF;rw [show ((j:Nat):Int) = (j:Int) from by first | rfl | omega] at HBF;go_wp2_with (first | refine wpList_load_row rfl 91 (.tmp 9) rfl (a + 2) rfl 91 #[.bool true,.string ⟨t.toArray⟩,.int .i64 cv,.string ⟨#[]⟩] (0,0) _ hQ Tryz.underlying91 rfl (by kernel_rfl) ?_ | refine wpList_load_row rfl 85 (.tmp 5) rfl a rfl 85 #[.int .u8 (x.pre.toNat:Int),.int .u8 (x.quo.toNat:Int),.int .i64 (x.frm:Int),.int .i64 (x.lim:Int)] (0,0) _ hA Tryz.underlying85 rfl (by kernel_rfl) ?_);refine (HBF.out _).mono ?_;rintro e w9 ⟨rfl,hb9⟩;have hB9:=hB.belowS hb9;have hbb9:=below_then hb hb9 (by have:=hb.size; have:=HAA.out; omega);clear hb9;go_wp2_with (refine wpList_store_row rfl 91 (.tmp 6) (.tmp 114) rfl (a + 1) #[.bool true,.string ⟨t.toArray⟩,.int .i64 cv,.string ⟨#[]⟩] rfl rfl 91 #[.bool false,.string ⟨#[]⟩,.int .i64 0,.string ⟨#[]⟩] hB9 (by kernel_rfl) rfl (by simp [Value.oneCell']) ?_);refine ret_blk_tmp2 rfl rfl (hB9.setRow _) _ Tryz.underlying91 rfl (by kernel_rfl) rfl _ _ rfl rfl ⟨by rw [HAA.out]; exact Go.below_setRow hbb9 (by omega) _,?_⟩;rw [HRR.out];exact ⟨_,rfl,by simp [Value.oneCell'],rfl⟩
       ·obtain ⟨rfl,hm⟩:=hp7;have hjm:=(HSE.out m rfl).1;have hsub2:=run_sub l (j0 + 1) m hjm (by omega) ((j0:Int) + 1) (m:Int) (by omega) rfl;have HRR : Hid (R = .ok (⟨true,t,cv,cutL l (j0 + 1) m⟩,m + 1)):=hid (by rw [HRT2.out]; rfl);obtain ⟨s2,hs2⟩ : ∃ s2,cutL l (j0 + 1) m = s2:=⟨_,rfl⟩;rw [show (l.drop (j0 + 1)).take (m - (j0 + 1)) = s2 from hs2] at hsub2;rw [hs2] at HRR;clear hs2;obtain ⟨q1,q2,q3⟩:=hQ.rules
        go_upto_region 21 with fail
        replace hQ : Blk _ (a + 2) 91 #[.bool true,.string ⟨t.toArray⟩,.int .i64 cv,.string ⟨s2.toArray⟩]:=hQ.set_ 3 (.string ⟨s2.toArray⟩)
        replace hB:=hB.far (p:=⟨a + 2,3,none⟩) (by simp) (.string ⟨s2.toArray⟩)
        replace hb:=hb.setCell (p:=⟨a + 2,3,none⟩) (by simp) (.string ⟨s2.toArray⟩)
        clear q1 q2 q3
        -- the part is handed back
        have hQL:=hQ;have hBL:=hB;go_wp2_with (first | refine wpList_load_row rfl 91 (.tmp 9) rfl (a + 2) rfl 91 #[.bool true,.string ⟨t.toArray⟩,.int .i64 cv,.string ⟨s2.toArray⟩] (0,0) _ hQL Tryz.underlying91 rfl (by kernel_rfl) ?_ | refine wpList_store_row rfl 91 (.tmp 6) (.tmp 124) rfl (a + 1) #[.bool true,.string ⟨t.toArray⟩,.int .i64 cv,.string ⟨s2.toArray⟩] rfl rfl 91 #[.bool false,.string ⟨#[]⟩,.int .i64 0,.string ⟨#[]⟩] hBL (by kernel_rfl) rfl (by simp [Value.oneCell']) ?_);refine ret_blk_tmp2 rfl rfl (hBL.setRow _) _ Tryz.underlying91 rfl (by kernel_rfl) rfl _ _ rfl rfl ⟨by rw [HAA.out]; exact Go.below_setRow hb (by omega) _,?_⟩;rw [HRR.out];rfl
      ·have HRR : Hid (R = .ok (⟨true,t,cv,[]⟩,j0 + 1)):=hid (by rw [HRT.out]; unfold tailS; rw [if_neg h58]);have b58 : (((at0 l j0).toNat:Int) == 58) = false:=u8_ne (d:=58) h58;obtain ⟨cj,hcj⟩ : ∃ cj,at0 l j0 = cj:=⟨_,rfl⟩;rw [hcj] at hixj b58;clear h58 hcj
       -- the part is handed back
       have hQL:=hQ;have hBL:=hB;go_wp2_with (first | refine wpList_load_row rfl 91 (.tmp 9) rfl (a + 2) rfl 91 #[.bool true,.string ⟨t.toArray⟩,.int .i64 cv,.string ⟨#[]⟩] (0,0) _ hQL Tryz.underlying91 rfl (by kernel_rfl) ?_ | refine wpList_store_row rfl 91 (.tmp 6) (.tmp 124) rfl (a + 1) #[.bool true,.string ⟨t.toArray⟩,.int .i64 cv,.string ⟨#[]⟩] rfl rfl 91 #[.bool false,.string ⟨#[]⟩,.int .i64 0,.string ⟨#[]⟩] hBL (by kernel_rfl) rfl (by simp [Value.oneCell']) ?_);refine ret_blk_tmp2 rfl rfl (hBL.setRow _) _ Tryz.underlying91 rfl (by kernel_rfl) rfl _ _ rfl rfl ⟨by rw [HAA.out]; exact Go.below_setRow hb (by omega) _,?_⟩;rw [HRR.out];rfl
   ·have HRT : Hid (R = tailS l x frm t 0 i1):=hid (by rw [HR3.out]; unfold convS; rw [if_neg c33]);have b33 : (((at0 l i1).toNat:Int) == 33) = false:=u8_ne (d:=33) c33;obtain ⟨ci,hci⟩ : ∃ ci,at0 l i1 = ci:=⟨_,rfl⟩;rw [hci] at hix b33;clear c33 hend HR3 hci
    go_upto_region 15 with fail
    obtain ⟨j0,rfl⟩ : ∃ j0,j0 = i1:=⟨_,rfl⟩;clear hix b33 hst
    -- what stands behind the conversion, at j0
    have hixj:=run_idx l j0 (by omega) (j0:Int) rfl
    by_cases h58 : at0 l j0 = 58
    ·have HRT2:=hid (show R = tailR l t 0 (j0 + 1) (specS l x frm (l.length + 1 - (j0 + 1)) (j0 + 1)) from by rw [HRT.out]; unfold tailS; rw [if_pos h58]);have HPE:=hid (fun W => plainEnd_any l x frm (j0 + 1) W HQU.out (by omega) hx hl);have HSE:=hid (fun m => specS_end (l:=l) (x:=x) (frm:=frm) (l.length + 1 - (j0 + 1)) (j0 + 1) m);obtain ⟨S,hS⟩ : ∃ S,specS l x frm (l.length + 1 - (j0 + 1)) (j0 + 1) = S:=⟨_,rfl⟩;rw [hS] at HRT2 HPE HSE;rw [show ((j0 + 1:Nat):Int) = (j0:Int) + 1 by omega] at HPE;unfold shtC at HPE;rw [h58] at hixj;clear hS h58;obtain ⟨q1,q2,q3⟩:=hA.rules;go_wp2_with refine wpList_load_row rfl 85 (.tmp 5) rfl a rfl 85 #[.int .u8 (x.pre.toNat:Int),.int .u8 (x.quo.toNat:Int),.int .i64 (x.frm:Int),.int .i64 (x.lim:Int)] (0,0) _ hA Tryz.underlying85 rfl (by kernel_rfl) ?_;refine (HPE.out _).mono ?_;rintro e w7 ⟨hb7,hp7⟩
     replace hA:=hA.belowS hb7
     replace hB:=hB.belowS hb7
     replace hQ:=hQ.belowS hb7
     replace hb:=below_then hb hb7 (by have:=hb.size; have:=HAA.out; omega)
     clear q1 q2 q3 hb7 HPE;rcases S with k | m
     ·obtain ⟨j,rfl,hjk,hj20⟩:=hp7;have HKK:=hid hjk;have HRR : Hid (R = .error k):=hid (by rw [HRT2.out]; rfl);clear hjk
      -- a fault: the part as it is, and the fault's offset
      have HBF:=hid (fun W => badField_any #[.bool true,.string ⟨t.toArray⟩,.int .i64 0,.string ⟨#[]⟩] frm x j k W HKK.out ⟨rfl,by simp [Value.oneCell']⟩);unfold shtC at HBF;rw [show ((j:Nat):Int) = (j:Int) from by first | rfl | omega] at HBF;go_wp2_with (first | refine wpList_load_row rfl 91 (.tmp 9) rfl (a + 2) rfl 91 #[.bool true,.string ⟨t.toArray⟩,.int .i64 0,.string ⟨#[]⟩] (0,0) _ hQ Tryz.underlying91 rfl (by kernel_rfl) ?_ | refine wpList_load_row rfl 85 (.tmp 5) rfl a rfl 85 #[.int .u8 (x.pre.toNat:Int),.int .u8 (x.quo.toNat:Int),.int .i64 (x.frm:Int),.int .i64 (x.lim:Int)] (0,0) _ hA Tryz.underlying85 rfl (by kernel_rfl) ?_);refine (HBF.out _).mono ?_;rintro e w9 ⟨rfl,hb9⟩;have hB9:=hB.belowS hb9;have hbb9:=below_then hb hb9 (by have:=hb.size; have:=HAA.out; omega);clear hb9;go_wp2_with (refine wpList_store_row rfl 91 (.tmp 6) (.tmp 114) rfl (a + 1) #[.bool true,.string ⟨t.toArray⟩,.int .i64 0,.string ⟨#[]⟩] rfl rfl 91 #[.bool false,.string ⟨#[]⟩,.int .i64 0,.string ⟨#[]⟩] hB9 (by kernel_rfl) rfl (by simp [Value.oneCell']) ?_);refine ret_blk_tmp2 rfl rfl (hB9.setRow _) _ Tryz.underlying91 rfl (by kernel_rfl) rfl _ _ rfl rfl ⟨by rw [HAA.out]; exact Go.below_setRow hbb9 (by omega) _,?_⟩;rw [HRR.out];exact ⟨_,rfl,by simp [Value.oneCell'],rfl⟩
     ·obtain ⟨rfl,hm⟩:=hp7;have hjm:=(HSE.out m rfl).1;have hsub2:=run_sub l (j0 + 1) m hjm (by omega) ((j0:Int) + 1) (m:Int) (by omega) rfl;have HRR : Hid (R = .ok (⟨true,t,0,cutL l (j0 + 1) m⟩,m + 1)):=hid (by rw [HRT2.out]; rfl);obtain ⟨s2,hs2⟩ : ∃ s2,cutL l (j0 + 1) m = s2:=⟨_,rfl⟩;rw [show (l.drop (j0 + 1)).take (m - (j0 + 1)) = s2 from hs2] at hsub2;rw [hs2] at HRR;clear hs2;obtain ⟨q1,q2,q3⟩:=hQ.rules
      go_upto_region 21 with fail
      replace hQ : Blk _ (a + 2) 91 #[.bool true,.string ⟨t.toArray⟩,.int .i64 0,.string ⟨s2.toArray⟩]:=hQ.set_ 3 (.string ⟨s2.toArray⟩)
      replace hB:=hB.far (p:=⟨a + 2,3,none⟩) (by simp) (.string ⟨s2.toArray⟩)
      replace hb:=hb.setCell (p:=⟨a + 2,3,none⟩) (by simp) (.string ⟨s2.toArray⟩)
      clear q1 q2 q3
      -- the part is handed back
      have hQL:=hQ;have hBL:=hB;go_wp2_with (first | refine wpList_load_row rfl 91 (.tmp 9) rfl (a + 2) rfl 91 #[.bool true,.string ⟨t.toArray⟩,.int .i64 0,.string ⟨s2.toArray⟩] (0,0) _ hQL Tryz.underlying91 rfl (by kernel_rfl) ?_ | refine wpList_store_row rfl 91 (.tmp 6) (.tmp 124) rfl (a + 1) #[.bool true,.string ⟨t.toArray⟩,.int .i64 0,.string ⟨s2.toArray⟩] rfl rfl 91 #[.bool false,.string ⟨#[]⟩,.int .i64 0,.string ⟨#[]⟩] hBL (by kernel_rfl) rfl (by simp [Value.oneCell']) ?_);refine ret_blk_tmp2 rfl rfl (hBL.setRow _) _ Tryz.underlying91 rfl (by kernel_rfl) rfl _ _ rfl rfl ⟨by rw [HAA.out]; exact Go.below_setRow hb (by omega) _,?_⟩;rw [HRR.out];rfl
    ·have HRR : Hid (R = .ok (⟨true,t,0,[]⟩,j0 + 1)):=hid (by rw [HRT.out]; unfold tailS; rw [if_neg h58]);have b58 : (((at0 l j0).toNat:Int) == 58) = false:=u8_ne (d:=58) h58;obtain ⟨cj,hcj⟩ : ∃ cj,at0 l j0 = cj:=⟨_,rfl⟩;rw [hcj] at hixj b58;clear h58 hcj
     -- the part is handed back
     have hQL:=hQ;have hBL:=hB;go_wp2_with (first | refine wpList_load_row rfl 91 (.tmp 9) rfl (a + 2) rfl 91 #[.bool true,.string ⟨t.toArray⟩,.int .i64 0,.string ⟨#[]⟩] (0,0) _ hQL Tryz.underlying91 rfl (by kernel_rfl) ?_ | refine wpList_store_row rfl 91 (.tmp 6) (.tmp 124) rfl (a + 1) #[.bool true,.string ⟨t.toArray⟩,.int .i64 0,.string ⟨#[]⟩] rfl rfl 91 #[.bool false,.string ⟨#[]⟩,.int .i64 0,.string ⟨#[]⟩] hBL (by kernel_rfl) rfl (by simp [Value.oneCell']) ?_);refine ret_blk_tmp2 rfl rfl (hBL.setRow _) _ Tryz.underlying91 rfl (by kernel_rfl) rfl _ _ rfl rfl ⟨by rw [HAA.out]; exact Go.below_setRow hb (by omega) _,?_⟩;rw [HRR.out];rfl
theorem flushed_any {w : World} (B:Nat) (t : List UInt8) (v : Value) (out : List Prt) (hown : w.ownsRow B 91 4 v out.length (out.flatMap prtc)) (hol : out.length ≤ 100000) (hB : B ≤ w.heap.size) :
  Calls Tryz.prog 60 #[v,.string ⟨t.toArray⟩] w fun e w' => ∃ v',e = .returned v'∧w'.ownsRow B 91 4 v' (flushP out t).length ((flushP out t).flatMap prtc)∧w.grownBy w' v.ownBlock:=by
 obtain ⟨i0,hi0,hz0,hz1,hz2⟩:=info_parts info_prt;obtain ⟨A,c,rfl,hrow,_⟩:=own_form hown
 by_cases h0 : t = []
 ·subst h0;go_enter Tryz.func60,Tryz.ntmps60;go_wp2_with fail;go_ret;exact ⟨_,rfl,hown,World.grownBy.refl w _⟩
 ·have hne : (t == []) = false:=(by simpa using h0);have hfl : flushP out t = out ++ [⟨false,t,0,[]⟩]:=(by unfold flushP; rw [if_neg h0]);have HFL:=hid hfl;have HOWN:=hid hown;have m1 : out.length + 1 ≤ maxLen:=(by unfold maxLen; omega);have m2 : (out.length + 1) * 48 ≤ 140737488355328:=(by omega);clear hfl h0;go_enter Tryz.func60,Tryz.ntmps60;go_wp2_with (at_builtin; refine wpList_append_row _ rfl (.tmp 8) (.tmp 11) 37 rfl B 91 i0 (.agg #[.bool false,.string ByteArray.empty,.int .i64 0,.string ByteArray.empty]) 4 48 Tryz.underlying37 hi0 hz0 hz1 hz2 rfl (by decide) _ out.length (out.flatMap prtc) rfl (HOWN.out.alloc _) (some ⟨w.heap.size,0,none⟩) 1 1 (prtc ⟨false,t,0,[]⟩) rfl rfl (Row.new w (prtc ⟨false,t,0,[]⟩).toArray 91) (by simp [Value.oneCell',prtc]) m1 m2 (by simp; omega) ?_; intro v3 w3 hown3 hg3 hat3; obtain ⟨A3,c3,rfl,_,_⟩:=own_form hown3);go_ret;refine ⟨_,rfl,?_,(World.grownBy_alloc w (.cells (prtc ⟨false,t,0,[]⟩).toArray 91) _).trans hg3⟩;rw [HFL.out,List.length_append,List.flatMap_append,List.flatMap_singleton];exact hown3
end
end Go.Proofs.YtonehlkiackhcaaGreatDoor