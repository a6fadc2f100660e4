/- Plain words on a scan: every token begins where a character begins; the beginning of a line found backwards. Nothing is claimed here. -/
import Derived.Test.YtonehlkiackhcaaGreatDoorLitNg
set_option linter.unusedVariables false
set_option linter.unusedSimpArgs false
set_option maxRecDepth 100000
set_option maxHeartbeats 16000000
namespace Go.Proofs.YtonehlkiackhcaaGreatDoor
section
open Go.RowKit Go.Lib Go.Sort
theorem lvalid3_any {w : World} (ln ld : List Nat) (A1 A2 : Option Addr) (c1 c2:Nat) (h1 : wellV ln = true) (h2 : wellV ld = true) (hl1 : ln.length ≤ 128) (hl2 : ld.length ≤ 128) (hrn : Row w A1 (u32s ln)) (hrd : Row w A2 (u32s ld)) :
  Calls Tryz.prog 21 #[.agg (valD 3 false (.slice A1 ln.length c1) false (.slice A2 ld.length c2) [] 0)] w fun e w' => e = .returned (.bool true)∧Below w.heap.size w w':=by
 have hB:=Blk.new w 26 (valD 3 false (.slice A1 ln.length c1) false (.slice A2 ld.length c2) [] 0);have hbel:=(Below.refl w.heap.size w).alloc (Nat.le_refl _) (.cells (valD 3 false (.slice A1 ln.length c1) false (.slice A2 ld.length c2) [] 0) 26);have hr1:=hrn.keepB hbel;have hr2:=hrd.keepB hbel;unfold valD at *
 obtain ⟨v1,v2,v3⟩:=hB.rules;go_enter Tryz.func21,Tryz.ntmps21;go_wp2_with fail;refine (well_any ln A1 c1 (by omega) hr1).mono ?_;rintro e w2 ⟨rfl,hbb⟩;rw [h1];have hB2:=hB.belowS hbb;have hbel2:=below_then hbel hbb hbel.size;have hr22:=hr2.keepB hbb;clear hB hbel hbb hr1 hr2 v1 v2 v3;obtain ⟨v1,v2,v3⟩:=hB2.rules;go_wp2_with fail;refine (well_any ld A2 c2 (by omega) hr22).mono ?_;rintro e w3 ⟨rfl,hbb⟩;rw [h2];have hB3:=hB2.belowS hbb;have hbel3:=below_then hbel2 hbb hbel2.size;clear hB2 hbel2 hbb hr22 v1 v2 v3;obtain ⟨v1,v2,v3⟩:=hB3.rules;go_wp2_with fail;go_ret;exact ⟨rfl,hbel3⟩
def PrPost (w : World) (n d:Nat) (e : Ending) (w' : World) : Prop:=Below w.heap.size w w'∧∃ R,FinP n d R∧match R with
 | .error c => e = .returned (.tuple #[.string ⟨#[]⟩,flt c (-1)])
 | .ok t => e = .returned (.tuple #[.string ⟨(if 600 < t.length then [] else t).toArray⟩,if 600 < t.length then flt 3 (-1) else flt 0 0])
theorem lprint3_any {w : World} (n d:Nat) (A1 A2 : Option Addr) (c1 c2:Nat) (hn : (lg n).length ≤ 128) (hd : (lg d).length ≤ 128) (h1 : wellV (lg n) = true) (h2 : wellV (lg d) = true) (hrn : Row w A1 (u32s (lg n))) (hrd : Row w A2 (u32s (lg d))) (htab : Lib.TabIs Tryz.prog w "internal/strconv.uint64pow10" .u64 Lib.pow10Tab) :
  Calls Tryz.prog 8 #[.agg (valD 3 false (.slice A1 (lg n).length c1) false (.slice A2 (lg d).length c2) [] 0)] w (PrPost w n d):=by
 have hC:=FiC.new w (valD 3 false (.slice A1 (lg n).length c1) false (.slice A2 (lg d).length c2) [] 0);obtain ⟨v1,v2,v3⟩:=hC.v.rules;have HV:=hid (fun W (hr1 : Row W A1 (u32s (lg n))) (hr2 : Row W A2 (u32s (lg d))) => lvalid3_any (lg n) (lg d) A1 A2 c1 c2 h1 h2 hn hd hr1 hr2);have HFI:=hid (fun W hr1 hr2 ht => finite_any (w:=W) n d 3 0 false false [] A1 A2 c1 c2 hn hd hr1 hr2 ht);unfold valD at *
 go_enter Tryz.func8,Tryz.ntmps8;go_wp2_with fail;refine (HV.out _ (hrn.keepB hC.bel) (hrd.keepB hC.bel)).mono ?_;rintro e w2 ⟨rfl,hbb⟩;have hC2:=hC.step hbb;clear hC hbb v1 v2 v3;obtain ⟨v1,v2,v3⟩:=hC2.v.rules;go_wp2_with fail;have hF:=Blk.new w2 29 #[.int .i64 0,.int .i64 0];have hba:=(Below.refl w2.heap.size w2).alloc (Nat.le_refl _) (.cells #[.int .i64 0,.int .i64 0] 29);have hC3:=hC2.step hba;have hqs:=hC2.p.lt;have hr1:=hrn.keepB hC3.bel;have hr2:=hrd.keepB hC3.bel;have ht3:=tab_keep htab hC3.bel;obtain ⟨w3,hw3⟩ : ∃ w3,w2.alloc (.cells #[.int .i64 0,.int .i64 0] 29) = w3:=⟨_,rfl⟩;rw [hw3] at hF hC3 hr1 hr2 ht3 ⊢;obtain ⟨q,hq⟩ : ∃ q,w2.heap.size = q:=⟨_,rfl⟩;rw [hq] at hF hqs ⊢;clear hw3 hq hC2 hba v1 v2 v3 hrn hrd htab;refine (HFI.out _ hr1 hr2 ht3).mono ?_;rintro e w4 ⟨hbb,R,hR,hpost⟩;have hC4:=hC3.step hbb;have hF4:=hF.belowS hbb;have HR:=hid hR;clear hC3 hbb hF hR hr1 hr2 ht3;rcases R with c | t
 ·obtain rfl:=hpost;unfold flt;obtain ⟨q1,q2,q3⟩:=hF4.rules;obtain ⟨p1,p2,p3⟩:=hC4.p.rules;go_wp2_with fail;have hF5:=(hF4.set_ 0 (.int .i64 c)).set_ 1 (.int .i64 (-1));have hP5:=(hC4.p.far (p:=⟨q,0,none⟩) (by show w.heap.size + 1 ≠ q; omega) (.int .i64 c)).far (p:=⟨q,1,none⟩) (by show w.heap.size + 1 ≠ q; omega) (.int .i64 (-1));have hb5:=(hC4.bel.setCell (p:=⟨q,0,none⟩) (by show w.heap.size ≤ q; omega) (.int .i64 c)).setCell (p:=⟨q,1,none⟩) (by show w.heap.size ≤ q; omega) (.int .i64 (-1));obtain ⟨w5,hw5⟩ : ∃ w5,(w4.setCell ⟨q,0,none⟩ (.int .i64 c)).setCell ⟨q,1,none⟩ (.int .i64 (-1)) = w5:=⟨_,rfl⟩;rw [hw5] at hF5 hP5 hb5 ⊢;clear hw5 q1 q2 q3 p1 p2 p3 hF4 hC4;obtain ⟨q1,q2,q3⟩:=hF5.rules;obtain ⟨p1,p2,p3⟩:=hP5.rules;go_region
  all_goals go_wp2_with fail
  all_goals exact ret_tmp_blk rfl rfl ((hP5.set_ 0 (.int .i64 c)).set_ 1 (.int .i64 (-1))).drew _ Tryz.underlying29 rfl (by kernel_rfl) rfl _ rfl ⟨((hb5.setCell (p:=⟨w.heap.size + 1,0,none⟩) (Nat.le_succ _) (.int .i64 c)).setCell (p:=⟨w.heap.size + 1,1,none⟩) (Nat.le_succ _) (.int .i64 (-1))).drew,.error c,HR.out,rfl⟩
 ·obtain rfl:=hpost;unfold flt;obtain ⟨q1,q2,q3⟩:=hF4.rules;obtain ⟨p1,p2,p3⟩:=hC4.p.rules
  by_cases ht : 600 < t.length
  ·have hti : (600:Int) < (t.length:Int):=(by omega);have HT:=hid ht;clear ht;go_wp2_with fail;have hF5:=(hF4.set_ 0 (.int .i64 0)).set_ 1 (.int .i64 0);have hP5:=(hC4.p.far (p:=⟨q,0,none⟩) (by show w.heap.size + 1 ≠ q; omega) (.int .i64 0)).far (p:=⟨q,1,none⟩) (by show w.heap.size + 1 ≠ q; omega) (.int .i64 0);have hb5:=(hC4.bel.setCell (p:=⟨q,0,none⟩) (by show w.heap.size ≤ q; omega) (.int .i64 0)).setCell (p:=⟨q,1,none⟩) (by show w.heap.size ≤ q; omega) (.int .i64 0);obtain ⟨w5,hw5⟩ : ∃ w5,(w4.setCell ⟨q,0,none⟩ (.int .i64 0)).setCell ⟨q,1,none⟩ (.int .i64 0) = w5:=⟨_,rfl⟩;rw [hw5] at hF5 hP5 hb5 ⊢;clear hw5 q1 q2 q3 p1 p2 p3 hF4 hC4;obtain ⟨q1,q2,q3⟩:=hF5.rules;obtain ⟨p1,p2,p3⟩:=hP5.rules;refine (lfault_any 3 (-1) _).mono ?_;rintro e w9 ⟨rfl,hbb9⟩;have hP9:=hP5.belowS hbb9;have hb9:=below_then hb5 hbb9 hb5.size;clear q1 q2 q3 p1 p2 p3 hP5 hF5 hb5;obtain ⟨p1,p2,p3⟩:=hP9.rules;go_wp2_with fail;exact ret_tmp_blk rfl rfl ((hP9.set_ 0 (.int .i64 3)).set_ 1 (.int .i64 (-1))) _ Tryz.underlying29 rfl (by kernel_rfl) rfl _ rfl ⟨(hb9.setCell (p:=⟨w.heap.size + 1,0,none⟩) (Nat.le_succ _) (.int .i64 3)).setCell (p:=⟨w.heap.size + 1,1,none⟩) (Nat.le_succ _) (.int .i64 (-1)),.ok t,HR.out,by simp only [if_pos HT.out]; rfl⟩
  ·have hti : ¬ (600:Int) < (t.length:Int):=(by omega);have HT:=hid ht;clear ht;go_wp2_with fail;have hF5:=(hF4.set_ 0 (.int .i64 0)).set_ 1 (.int .i64 0);have hP5:=(hC4.p.far (p:=⟨q,0,none⟩) (by show w.heap.size + 1 ≠ q; omega) (.int .i64 0)).far (p:=⟨q,1,none⟩) (by show w.heap.size + 1 ≠ q; omega) (.int .i64 0);have hb5:=(hC4.bel.setCell (p:=⟨q,0,none⟩) (by show w.heap.size ≤ q; omega) (.int .i64 0)).setCell (p:=⟨q,1,none⟩) (by show w.heap.size ≤ q; omega) (.int .i64 0);obtain ⟨w5,hw5⟩ : ∃ w5,(w4.setCell ⟨q,0,none⟩ (.int .i64 0)).setCell ⟨q,1,none⟩ (.int .i64 0) = w5:=⟨_,rfl⟩;rw [hw5] at hF5 hP5 hb5 ⊢;clear hw5 q1 q2 q3 p1 p2 p3 hF4 hC4;obtain ⟨q1,q2,q3⟩:=hF5.rules;obtain ⟨p1,p2,p3⟩:=hP5.rules;go_region
   all_goals go_wp2_with fail
   all_goals exact ret_tmp_blk rfl rfl ((hP5.set_ 0 (.int .i64 0)).set_ 1 (.int .i64 0)).drew _ Tryz.underlying29 rfl (by kernel_rfl) rfl _ rfl ⟨((hb5.setCell (p:=⟨w.heap.size + 1,0,none⟩) (Nat.le_succ _) (.int .i64 0)).setCell (p:=⟨w.heap.size + 1,1,none⟩) (Nat.le_succ _) (.int .i64 0)).drew,.ok t,HR.out,(by simp only [if_neg HT.out]; rfl)⟩
end
section
open Go.RowKit Go.Shelf Go.Lib
def joinP (p : Prt) : List UInt8 :=
 if p.field = true then [123] ++ p.text ++ (if p.conv ≠ 0 then [33,UInt8.ofNat (p.conv % 256).toNat] else []) ++ (if p.spec ≠ [] then [58] ++ p.spec else []) ++ [125]
 else repl ((runesL p.text).flatMap (charQ 39 ctlB))
def joinL (ps : List Prt) : List UInt8:=[102,39] ++ ps.flatMap joinP ++ [39]
theorem quoted_in (rs : List Nat) : ((quotedS 39 ctlB rs).drop 1).take ((quotedS 39 ctlB rs).length - 1 - 1) = rs.flatMap (charQ 39 ctlB):=by
 unfold quotedS;simp
end
section
open Go.RowKit Go.Shelf Go.Lib Go.Maps
theorem best_succ (r : List UInt8) (k:Nat) (x : List UInt8) (hx : sgR[k]? = some x) : best (sgR.take (k + 1)) r 0 = bestF r (best (sgR.take k) r 0) x:=by
 unfold best;rw [List.take_add_one,hx];show List.foldl (bestF r) 0 (List.take k sgR ++ [x]) = _;rw [List.foldl_append];rfl
theorem sgR_short : ∀ s ∈ sgR,s.length ≤ 3:=by decide
theorem best_le3 (r : List UInt8) (k:Nat) : best (sgR.take k) r 0 ≤ 3:=by
 rcases best_mem r (sgR.take k) 0 with h | ⟨s,hs,_,h⟩
 ·omega
 ·rw [h]; exact sgR_short s (List.mem_of_mem_take hs)
theorem mark_any (l : List UInt8) (i:Nat) (w : World) (hl : l.length ≤ 16000) (hi : i ≤ l.length) (hm : Lim w) :
  Calls Tryz.prog 167 #[.string ⟨l.toArray⟩,.int .i64 (i:Int)] w (PPost w i (lexSign (l.drop i))):=by
 have HL:=hid (lexSign_best (l.drop i));have htail:=run_tail l i hi (i:Int) rfl;have hP:=Blk.new w 188 #[.int .i64 0,.int .i64 0,.int .i64 0,.int .i64 0];have hb:=(Below.refl w.heap.size w).alloc (Nat.le_refl _) (.cells #[.int .i64 0,.int .i64 0,.int .i64 0,.int .i64 0] 188);have hm1:=hm.keepB hb;go_enter Tryz.func167,Tryz.ntmps167;go_wp2_with fail;refine (split_any _ _ (by kernel_rfl) hm1).mono ?_;rintro e w1 ⟨rfl,hw1⟩;have hS : Blk w1 (w.heap.size + 1) 9 (strs sgR).toArray:=by
  rw [hw1,show w.heap.size + 1 = (w.alloc (.cells #[.int .i64 0,.int .i64 0,.int .i64 0,.int .i64 0] 188)).heap.size from by simp];exact Blk.new _ _ _
 have hP1 : Blk w1 w.heap.size 188 #[.int .i64 0,.int .i64 0,.int .i64 0,.int .i64 0]:=by rw [hw1]; exact hP.alloc _
 have hb1 : Below w.heap.size w w1:=by rw [hw1]; exact hb.alloc hb.size _
 rw [show (w.alloc (.cells #[.int .i64 0,.int .i64 0,.int .i64 0,.int .i64 0] 188)).heap.size = w.heap.size + 1 from by simp];clear hw1 hP hb hm hm1;go_wp2_with fail
 go_loop [5,11] (fun b v => ∃ k : Nat,k ≤ 43∧v = .int .i64 (k:Int)∧b = .int .i64 ((best (sgR.take k) (l.drop i) 0:Nat):Int)) (fun _ v => 43 - (RowKit.intOf v).toNat)
 case atStart => exact ⟨0,by omega,rfl,rfl⟩
 case round =>
  obtain ⟨k,hk,rfl,rfl⟩:=hrel;have hb3:=best_le3 (l.drop i) k;obtain ⟨bk,hbk⟩ : ∃ bk,best (sgR.take k) (l.drop i) 0 = bk:=⟨_,rfl⟩;rw [hbk] at hb3 ⊢;have HBK:=hid hbk;clear hbk
  by_cases hlt : k < 43
  ·obtain ⟨x,hx⟩ : ∃ x,sgR[k]? = some x:=⟨sgR[k]'(by rw [sgR_len]; exact hlt),List.getElem?_eq_getElem _⟩;have HX:=hid hx;have hxl:=sgR_short x (List.mem_of_getElem? hx);have hcell : w1.cell? ⟨w.heap.size + 1,k,none⟩ = some (.string ⟨x.toArray⟩):=by
    rw [hS.cell k];simp [strs,hx]
   clear hx;have hsucc:=best_succ (l.drop i) k x HX.out;rw [HBK.out] at hsucc;unfold bestF at hsucc;go_wp2_with fail;refine (pre_any (l.drop i) x w1).mono ?_;rintro e w2 ⟨rfl,rfl⟩;cases hp : x.isPrefixOf (l.drop i)
   ·rw [if_neg (by rw [hp]; rintro ⟨h,_⟩; exact absurd h (by decide))] at hsucc;have HS:=hid hsucc;clear hp hsucc;go_wp2_with fail
    go_round
    case rel => exact ⟨k + 1,by omega,by go_num,by rw [HS.out]⟩
    case measure => simp [RowKit.intOf]; omega
   ·by_cases hg : bk < x.length
    ·rw [if_pos ⟨hp,hg⟩] at hsucc;have HS:=hid hsucc;have c1 : decide ((bk:Int) < (x.length:Int)) = true:=decide_eq_true (by omega);clear hp hsucc;go_wp2_with fail
     go_round
     case rel => exact ⟨k + 1,by omega,by go_num,by rw [HS.out]⟩
     case measure => simp [RowKit.intOf]; omega
    ·rw [if_neg (fun h => hg h.2)] at hsucc;have HS:=hid hsucc;have c1 : decide ((bk:Int) < (x.length:Int)) = false:=decide_eq_false (by omega);clear hp hsucc;go_wp2_with fail
     go_round
     case rel => exact ⟨k + 1,by omega,by go_num,by rw [HS.out]⟩
     case measure => simp [RowKit.intOf]; omega
  ·obtain rfl : k = 43:=(by omega);have hall : best sgR (l.drop i) 0 = bk:=(by rw [← HBK.out,List.take_of_length_le (by rw [sgR_len]; omega)]);have hlx:=HL.out;rw [hall] at hlx;have HLX:=hid hlx;have hPlt:=hP1.lt;obtain ⟨q1,q2,q3⟩:=hP1.rules;have hne : w.heap.size ≠ w1.heap.size:=Nat.ne_of_lt hPlt;clear hall hlx htail hS
   by_cases h0 : bk = 0
   ·have HR:=hid (HLX.out.trans (if_pos h0));subst h0;have hQ:=Blk.new w1 188 #[.int .i64 8,.int .i64 (i:Int),.int .i64 0,.int .i64 0];have hP2:=hP1.alloc (.cells #[.int .i64 8,.int .i64 (i:Int),.int .i64 0,.int .i64 0] 188);have hb2:=hb1.alloc hb1.size (.cells #[.int .i64 8,.int .i64 (i:Int),.int .i64 0,.int .i64 0] 188);go_wp2_with fail;refine (atR_any 1 (i:Int) _).mono ?_;rintro e w5 ⟨rfl,hbb⟩;have hP5:=hP2.belowS hbb;have hQ5:=hQ.belowS hbb;have hb5:=below_then hb2 hbb hb2.size;have hle:=hb1.size;clear hP1 hb1 hQ hP2 hb2 hbb q1 q2 q3;obtain ⟨r,hr⟩ : ∃ r,w1.heap.size = r:=⟨_,rfl⟩;rw [hr] at hQ5 hne hle ⊢;obtain ⟨q1,q2,q3⟩:=hQ5.rules;obtain ⟨p1,p2,p3⟩:=hP5.rules;unfold flt;go_wp2_with fail;have hP6:=(hP5.far (p:=⟨r,2,none⟩) hne (.int .i64 1)).far (p:=⟨r,3,none⟩) hne (.int .i64 (i:Int));have hb6:=(hb5.setCell (p:=⟨r,2,none⟩) hle (.int .i64 1)).setCell (p:=⟨r,3,none⟩) hle (.int .i64 (i:Int));exact ret_blk rfl rfl (hP6.set4 (.int .i64 8) (.int .i64 (i:Int)) (.int .i64 1) (.int .i64 (i:Int))) _ Tryz.underlying188 rfl (by kernel_rfl) rfl (PPost.err HR.out (below_set4 hb6 (Nat.le_refl _) _ _ _ _) rfl (by omega))
   ·have HR:=hid (HLX.out.trans (if_neg h0));have c0 : ((bk:Int) == 0) = false:=(by rw [beq_eq_false_iff_ne]; omega);go_wp2_with fail;exact ret_blk rfl rfl ((hP1.set4 (.int .i64 8) (.int .i64 ((i:Int) + (bk:Int))) (.int .i64 0) (.int .i64 0)).alloc (.cells #[.int .i64 8,.int .i64 ((i:Int) + (bk:Int)),.int .i64 0,.int .i64 0] 188)) _ Tryz.underlying188 rfl (by kernel_rfl) rfl (PPost.ok HR.out ((below_set4 hb1 (Nat.le_refl _) _ _ _ _).alloc (by simpa using hb1.size) _) rfl (by omega))
theorem hasL_any (l : List UInt8) (i:Nat) (x:Int) (hx : x = (i:Int)) (b : Bool) (hb : isLet (at0 l i) = b) (w : World) (hl : l.length ≤ 16000) (hi : i ≤ 20000) :
  Calls Tryz.prog 92 #[.string ⟨l.toArray⟩,.int .i64 x,.string ⟨#[97,98,99,100,101,102,103,104,105,106,107,108,109,110,111,112,113,114,115,116,117,118,119,120,121,122,65,66,67,68,69,70,71,72,73,74,75,76,77,78,79,80,81,82,83,84,85,86,87,88,89,90,95]⟩] w fun e w' => e = .returned (.bool b)∧w = w':=hasp_any isLet letL letL_is rfl l i x hx b hb w hl hi
theorem hasQ_any (l : List UInt8) (i:Nat) (x:Int) (hx : x = (i:Int)) (b : Bool) (hb : isQuo (at0 l i) = b) (w : World) (hl : l.length ≤ 16000) (hi : i ≤ 20000) :
  Calls Tryz.prog 92 #[.string ⟨l.toArray⟩,.int .i64 x,.string ⟨#[39,34]⟩] w fun e w' => e = .returned (.bool b)∧w = w':=hasp_any isQuo [39,34] quL_is rfl l i x hx b hb w hl hi
theorem hasR_any (l : List UInt8) (i:Nat) (x:Int) (hx : x = (i:Int)) (b : Bool) (hb : isPre (at0 l i) = b) (w : World) (hl : l.length ≤ 16000) (hi : i ≤ 20000) :
  Calls Tryz.prog 92 #[.string ⟨l.toArray⟩,.int .i64 x,.string ⟨#[114,98,102]⟩] w fun e w' => e = .returned (.bool b)∧w = w':=hasp_any isPre [114,98,102] prL_is rfl l i x hx b hb w hl hi
theorem PPost.val {w : World} {i : Nat} {r : Lex} {e : Ending} {w' : World} (h : PPost w i r e w') : ∃ k n c d : Int,e = .returned (pcV k n c d)∧Below w.heap.size w w'∧∀ w0 w'' : World,Below w0.heap.size w0 w'' → PPost w0 i r (.returned (pcV k n c d)) w'':=by
 obtain ⟨hb,h⟩:=h;rcases r with ⟨c,d⟩ | ⟨k,n⟩
 ·obtain ⟨k,n,rfl⟩:=h;exact ⟨_,_,_,_,rfl,hb,fun _ _ h => ⟨h,k,n,rfl⟩⟩
 ·exact ⟨_,_,_,_,h,hb,fun _ _ h => ⟨h,rfl⟩⟩
theorem rnext_any (l : List UInt8) (i:Nat) (w : World) (hl : l.length ≤ 16000) (hi : i < l.length) (hm : Lim w) :
  Calls Tryz.prog 128 #[.string ⟨l.toArray⟩,.int .i64 (i:Int)] w (PPost w i (lexTok (l.drop i))):=by
 have hP:=Blk.new w 188 #[.int .i64 0,.int .i64 0,.int .i64 0,.int .i64 0];have hb:=(Below.refl w.heap.size w).alloc (Nat.le_refl _) (.cells #[.int .i64 0,.int .i64 0,.int .i64 0,.int .i64 0] 188);have hm1:=hm.keepB hb;have h00 : at0 (l.drop i) 0 = at0 l i:=at0_drop l i 0;have h01 : at0 (l.drop i) 1 = at0 l (i + 1):=at0_drop l i 1;have hlx : lexTok (l.drop i) = if isQuo (at0 l i) then lexStr 0 (l.drop i) else if isPre (at0 l i) && isQuo (at0 l (i + 1)) then lexStr 1 (l.drop i) else if isLet (at0 l i) then lexName (l.drop i) else if isDig (at0 l i) then lexNum (l.drop i) else lexSign (l.drop i):=by
  unfold lexTok;rw [h00,h01]
 obtain ⟨w0,hw0⟩ : ∃ w0,w.alloc (.cells #[.int .i64 0,.int .i64 0,.int .i64 0,.int .i64 0] 188) = w0:=⟨_,rfl⟩;rw [hw0] at hP hb hm1;clear hm h00 h01;cases h1 : isQuo (at0 l i)
 ·cases h2 : isPre (at0 l i)
  ·have hlx2 : lexTok (l.drop i) = if isLet (at0 l i) then lexName (l.drop i) else if isDig (at0 l i) then lexNum (l.drop i) else lexSign (l.drop i):=(by rw [hlx,h1,h2]; rfl)
   have H1:=hid h1;have H2:=hid h2;clear h1 h2 hlx;cases h4 : isLet (at0 l i)
   ·cases h5 : isDig (at0 l i)
    ·have HT:=hid (show lexTok (l.drop i) = lexSign (l.drop i) from by rw [hlx2,h4,h5]; rfl);have H4:=hid h4;have H5:=hid h5;clear h4 h5 hlx2;go_enter Tryz.func128,Tryz.ntmps128;go_wp2_with fail;refine (hasQ_any l i (i:Int) rfl false H1.out _ hl (by omega)).mono ?_;rintro e w1 ⟨rfl,rfl⟩;go_wp2_with fail;refine (hasR_any l i (i:Int) rfl false H2.out _ hl (by omega)).mono ?_;rintro e w1 ⟨rfl,rfl⟩;go_wp2_with fail;refine (hasL_any l i (i:Int) rfl false H4.out _ hl (by omega)).mono ?_;rintro e w1 ⟨rfl,rfl⟩;go_wp2_with fail;refine (hasD_any l i (i:Int) rfl false H5.out _ hl (by omega)).mono ?_;rintro e w1 ⟨rfl,rfl⟩;go_wp2_with fail;refine (mark_any l i w0 hl (by omega) hm1).mono ?_;rintro e w5 hpost;obtain ⟨pk,pn,pc,pd,rfl,hbb,hback⟩:=hpost.val;have hP5:=hP.belowS hbb;have hb5:=below_then hb hbb hb.size;have HBK:=hid hback;clear hback hbb hpost;obtain ⟨p1,p2,p3⟩:=hP5.rules;unfold pcV;go_wp2_with fail;exact ret_blk rfl rfl (hP5.set4 (.int .i64 pk) (.int .i64 pn) (.int .i64 pc) (.int .i64 pd)) _ Tryz.underlying188 rfl (by kernel_rfl) rfl (by rw [HT.out]; exact HBK.out _ _ (below_set4 hb5 (Nat.le_refl _) _ _ _ _))
    ·have HT:=hid (show lexTok (l.drop i) = lexNum (l.drop i) from by rw [hlx2,h4,h5]; rfl);have H4:=hid h4;have H5:=hid h5;clear h4 h5 hlx2;go_enter Tryz.func128,Tryz.ntmps128;go_wp2_with fail;refine (hasQ_any l i (i:Int) rfl false H1.out _ hl (by omega)).mono ?_;rintro e w1 ⟨rfl,rfl⟩;go_wp2_with fail;refine (hasR_any l i (i:Int) rfl false H2.out _ hl (by omega)).mono ?_;rintro e w1 ⟨rfl,rfl⟩;go_wp2_with fail;refine (hasL_any l i (i:Int) rfl false H4.out _ hl (by omega)).mono ?_;rintro e w1 ⟨rfl,rfl⟩;go_wp2_with fail;refine (hasD_any l i (i:Int) rfl true H5.out _ hl (by omega)).mono ?_;rintro e w1 ⟨rfl,rfl⟩;go_wp2_with fail;refine (numeral_any l i w0 hl hi H5.out).mono ?_;rintro e w5 hpost;obtain ⟨pk,pn,pc,pd,rfl,hbb,hback⟩:=hpost.val;have hP5:=hP.belowS hbb;have hb5:=below_then hb hbb hb.size;have HBK:=hid hback;clear hback hbb hpost;obtain ⟨p1,p2,p3⟩:=hP5.rules;unfold pcV;go_wp2_with fail;exact ret_blk rfl rfl (hP5.set4 (.int .i64 pk) (.int .i64 pn) (.int .i64 pc) (.int .i64 pd)) _ Tryz.underlying188 rfl (by kernel_rfl) rfl (by rw [HT.out]; exact HBK.out _ _ (below_set4 hb5 (Nat.le_refl _) _ _ _ _))
   ·have HT:=hid (show lexTok (l.drop i) = lexName (l.drop i) from by rw [hlx2,h4]; rfl);have H4:=hid h4;clear h4 hlx2;go_enter Tryz.func128,Tryz.ntmps128;go_wp2_with fail;refine (hasQ_any l i (i:Int) rfl false H1.out _ hl (by omega)).mono ?_;rintro e w1 ⟨rfl,rfl⟩;go_wp2_with fail;refine (hasR_any l i (i:Int) rfl false H2.out _ hl (by omega)).mono ?_;rintro e w1 ⟨rfl,rfl⟩;go_wp2_with fail;refine (hasL_any l i (i:Int) rfl true H4.out _ hl (by omega)).mono ?_;rintro e w1 ⟨rfl,rfl⟩;go_wp2_with fail;refine (word_any l i w0 hl (by omega)).mono ?_;rintro e w5 hpost;obtain ⟨pk,pn,pc,pd,rfl,hbb,hback⟩:=hpost.val;have hP5:=hP.belowS hbb;have hb5:=below_then hb hbb hb.size;have HBK:=hid hback;clear hback hbb hpost;obtain ⟨p1,p2,p3⟩:=hP5.rules;unfold pcV;go_wp2_with fail;exact ret_blk rfl rfl (hP5.set4 (.int .i64 pk) (.int .i64 pn) (.int .i64 pc) (.int .i64 pd)) _ Tryz.underlying188 rfl (by kernel_rfl) rfl (by rw [HT.out]; exact HBK.out _ _ (below_set4 hb5 (Nat.le_refl _) _ _ _ _))
  ·cases h3 : isQuo (at0 l (i + 1))
   ·have hlx2 : lexTok (l.drop i) = if isLet (at0 l i) then lexName (l.drop i) else if isDig (at0 l i) then lexNum (l.drop i) else lexSign (l.drop i):=(by rw [hlx,h1,h2,h3]; rfl)
    have H1:=hid h1;have H2:=hid h2;have H3:=hid h3;clear h1 h2 h3 hlx;cases h4 : isLet (at0 l i)
    ·cases h5 : isDig (at0 l i)
     ·have HT:=hid (show lexTok (l.drop i) = lexSign (l.drop i) from by rw [hlx2,h4,h5]; rfl);have H4:=hid h4;have H5:=hid h5;clear h4 h5 hlx2;go_enter Tryz.func128,Tryz.ntmps128;go_wp2_with fail;refine (hasQ_any l i (i:Int) rfl false H1.out _ hl (by omega)).mono ?_;rintro e w1 ⟨rfl,rfl⟩;go_wp2_with fail;refine (hasR_any l i (i:Int) rfl true H2.out _ hl (by omega)).mono ?_;rintro e w1 ⟨rfl,rfl⟩;go_wp2_with fail;refine (hasQ_any l (i + 1) ((i:Int) + 1) (by omega) false H3.out _ hl (by omega)).mono ?_;rintro e w1 ⟨rfl,rfl⟩;go_wp2_with fail;refine (hasL_any l i (i:Int) rfl false H4.out _ hl (by omega)).mono ?_;rintro e w1 ⟨rfl,rfl⟩;go_wp2_with fail;refine (hasD_any l i (i:Int) rfl false H5.out _ hl (by omega)).mono ?_;rintro e w1 ⟨rfl,rfl⟩;go_wp2_with fail;refine (mark_any l i w0 hl (by omega) hm1).mono ?_;rintro e w5 hpost;obtain ⟨pk,pn,pc,pd,rfl,hbb,hback⟩:=hpost.val;have hP5:=hP.belowS hbb;have hb5:=below_then hb hbb hb.size;have HBK:=hid hback;clear hback hbb hpost;obtain ⟨p1,p2,p3⟩:=hP5.rules;unfold pcV;go_wp2_with fail;exact ret_blk rfl rfl (hP5.set4 (.int .i64 pk) (.int .i64 pn) (.int .i64 pc) (.int .i64 pd)) _ Tryz.underlying188 rfl (by kernel_rfl) rfl (by rw [HT.out]; exact HBK.out _ _ (below_set4 hb5 (Nat.le_refl _) _ _ _ _))
     ·have HT:=hid (show lexTok (l.drop i) = lexNum (l.drop i) from by rw [hlx2,h4,h5]; rfl);have H4:=hid h4;have H5:=hid h5;clear h4 h5 hlx2;go_enter Tryz.func128,Tryz.ntmps128;go_wp2_with fail;refine (hasQ_any l i (i:Int) rfl false H1.out _ hl (by omega)).mono ?_;rintro e w1 ⟨rfl,rfl⟩;go_wp2_with fail;refine (hasR_any l i (i:Int) rfl true H2.out _ hl (by omega)).mono ?_;rintro e w1 ⟨rfl,rfl⟩;go_wp2_with fail;refine (hasQ_any l (i + 1) ((i:Int) + 1) (by omega) false H3.out _ hl (by omega)).mono ?_;rintro e w1 ⟨rfl,rfl⟩;go_wp2_with fail;refine (hasL_any l i (i:Int) rfl false H4.out _ hl (by omega)).mono ?_;rintro e w1 ⟨rfl,rfl⟩;go_wp2_with fail;refine (hasD_any l i (i:Int) rfl true H5.out _ hl (by omega)).mono ?_;rintro e w1 ⟨rfl,rfl⟩;go_wp2_with fail;refine (numeral_any l i w0 hl hi H5.out).mono ?_;rintro e w5 hpost;obtain ⟨pk,pn,pc,pd,rfl,hbb,hback⟩:=hpost.val;have hP5:=hP.belowS hbb;have hb5:=below_then hb hbb hb.size;have HBK:=hid hback;clear hback hbb hpost;obtain ⟨p1,p2,p3⟩:=hP5.rules;unfold pcV;go_wp2_with fail;exact ret_blk rfl rfl (hP5.set4 (.int .i64 pk) (.int .i64 pn) (.int .i64 pc) (.int .i64 pd)) _ Tryz.underlying188 rfl (by kernel_rfl) rfl (by rw [HT.out]; exact HBK.out _ _ (below_set4 hb5 (Nat.le_refl _) _ _ _ _))
    ·have HT:=hid (show lexTok (l.drop i) = lexName (l.drop i) from by rw [hlx2,h4]; rfl);have H4:=hid h4;clear h4 hlx2;go_enter Tryz.func128,Tryz.ntmps128;go_wp2_with fail;refine (hasQ_any l i (i:Int) rfl false H1.out _ hl (by omega)).mono ?_;rintro e w1 ⟨rfl,rfl⟩;go_wp2_with fail;refine (hasR_any l i (i:Int) rfl true H2.out _ hl (by omega)).mono ?_;rintro e w1 ⟨rfl,rfl⟩;go_wp2_with fail;refine (hasQ_any l (i + 1) ((i:Int) + 1) (by omega) false H3.out _ hl (by omega)).mono ?_;rintro e w1 ⟨rfl,rfl⟩;go_wp2_with fail;refine (hasL_any l i (i:Int) rfl true H4.out _ hl (by omega)).mono ?_;rintro e w1 ⟨rfl,rfl⟩;go_wp2_with fail;refine (word_any l i w0 hl (by omega)).mono ?_;rintro e w5 hpost;obtain ⟨pk,pn,pc,pd,rfl,hbb,hback⟩:=hpost.val;have hP5:=hP.belowS hbb;have hb5:=below_then hb hbb hb.size;have HBK:=hid hback;clear hback hbb hpost;obtain ⟨p1,p2,p3⟩:=hP5.rules;unfold pcV;go_wp2_with fail;exact ret_blk rfl rfl (hP5.set4 (.int .i64 pk) (.int .i64 pn) (.int .i64 pc) (.int .i64 pd)) _ Tryz.underlying188 rfl (by kernel_rfl) rfl (by rw [HT.out]; exact HBK.out _ _ (below_set4 hb5 (Nat.le_refl _) _ _ _ _))
   ·have HT:=hid (show lexTok (l.drop i) = lexStr 1 (l.drop i) from by rw [hlx,h1,h2,h3]; rfl);clear hlx;have H1:=hid h1;have H2:=hid h2;have H3:=hid h3;clear h1 h2 h3;go_enter Tryz.func128,Tryz.ntmps128;go_wp2_with fail;refine (hasQ_any l i (i:Int) rfl false H1.out _ hl (by omega)).mono ?_;rintro e w1 ⟨rfl,rfl⟩;go_wp2_with fail;refine (hasR_any l i (i:Int) rfl true H2.out _ hl (by omega)).mono ?_;rintro e w1 ⟨rfl,rfl⟩;go_wp2_with fail;refine (hasQ_any l (i + 1) ((i:Int) + 1) (by omega) true H3.out _ hl (by omega)).mono ?_;rintro e w1 ⟨rfl,rfl⟩;go_wp2_with fail;refine (quoted1_any l i w0 hl hi H2.out H3.out).mono ?_;rintro e w5 hpost;obtain ⟨pk,pn,pc,pd,rfl,hbb,hback⟩:=hpost.val;have hP5:=hP.belowS hbb;have hb5:=below_then hb hbb hb.size;have HBK:=hid hback;clear hback hbb hpost;obtain ⟨p1,p2,p3⟩:=hP5.rules;unfold pcV;go_wp2_with fail;exact ret_blk rfl rfl (hP5.set4 (.int .i64 pk) (.int .i64 pn) (.int .i64 pc) (.int .i64 pd)) _ Tryz.underlying188 rfl (by kernel_rfl) rfl (by rw [HT.out]; exact HBK.out _ _ (below_set4 hb5 (Nat.le_refl _) _ _ _ _))
 ·have HT:=hid (show lexTok (l.drop i) = lexStr 0 (l.drop i) from by rw [hlx,h1]; rfl);clear hlx;have H1:=hid h1;clear h1;go_enter Tryz.func128,Tryz.ntmps128;go_wp2_with fail;refine (hasQ_any l i (i:Int) rfl true H1.out _ hl (by omega)).mono ?_;rintro e w1 ⟨rfl,rfl⟩;go_wp2_with fail;refine (quoted0_any l i w0 hl hi H1.out).mono ?_;rintro e w5 hpost;obtain ⟨pk,pn,pc,pd,rfl,hbb,hback⟩:=hpost.val;have hP5:=hP.belowS hbb;have hb5:=below_then hb hbb hb.size;have HBK:=hid hback;clear hback hbb hpost;obtain ⟨p1,p2,p3⟩:=hP5.rules;unfold pcV;go_wp2_with fail;exact ret_blk rfl rfl (hP5.set4 (.int .i64 pk) (.int .i64 pn) (.int .i64 pc) (.int .i64 pd)) _ Tryz.underlying188 rfl (by kernel_rfl) rfl (by rw [HT.out]; exact HBK.out _ _ (below_set4 hb5 (Nat.le_refl _) _ _ _ _))
end
section
open Go.Lib
theorem place_at (cs : List (List UInt8)) (h : ∀ c ∈ cs,Chr c) (j:Nat) : (place (cs.take j)).1 = lineAt cs.flatten (cs.take j).flatten.length∧(place (cs.take j)).2 = colAt cs.flatten (cs.take j).flatten.length:=by
 have hb:=place_bytes (cs.take j) (fun c hc => h c (List.mem_of_mem_take hc));unfold lineAt colAt;rw [take_flatten cs j];exact ⟨hb.1.symm,hb.2.symm⟩
end
section
open Go.RowKit Go.Shelf Go.Lib Go.Maps
def AdPost (B:Nat) (w : World) (v : Value) (ts : List Tok) (e : Ending) (w' : World) : Prop :=
 ∃ v',e = .returned v'∧w'.ownsRow B 130 4 v' ts.length (ts.flatMap tokc)∧∃ w1,Below w.heap.size w w1∧w1.grownBy w' v.ownBlock
theorem added_any (cs : List (List UInt8)) (h : ∀ c ∈ cs,Chr c) (j:Nat) (hj : j ≤ cs.length) (l : List UInt8) (hcl : cs.flatten = l) (i:Nat) (hij : (cs.take j).flatten.length = i) (w : World) (hl : l.length ≤ 16000) (hT : Tabs w)
  (B:Nat) (v : Value) (ts : List Tok) (hown : w.ownsRow B 130 4 v ts.length (ts.flatMap tokc)) (hB : B ≤ w.heap.size) (hts : ts.length ≤ 1000000) (k:Int) (e:Nat) (he : i ≤ e) (hel : e ≤ l.length) :
  Calls Tryz.prog 127 #[v,.string ⟨l.toArray⟩,.int .i64 k,.int .i64 (i:Int),.int .i64 (e:Int)] w (AdPost B w v (ts ++ [tokAt l k ((l.drop i).take (e - i)) i])):=by
 obtain ⟨i0,hi0,hz0,hz1,hz2⟩:=info_parts info_tok;have hpl:=place_any cs h j hj (i:Int) (by rw [hij]) w (by rw [hcl]; exact hl) hT;obtain ⟨p1,p2⟩:=place_at cs h j;rw [p1,p2,hcl,hij] at hpl;obtain ⟨L,hL⟩ : ∃ L,lineAt l i = L:=⟨_,rfl⟩;obtain ⟨C,hC⟩ : ∃ C,colAt l i = C:=⟨_,rfl⟩;obtain ⟨t,ht⟩ : ∃ t,(l.drop i).take (e - i) = t:=⟨_,rfl⟩;rw [hL,hC] at hpl;have HPL:=hid hpl;have hsub:=run_sub l i e he hel (i:Int) (e:Int) rfl rfl;rw [ht] at hsub ⊢;have HT:=hid (show tokc (tokAt l k t i) = [.int .i64 k,.string ⟨t.toArray⟩,.int .i64 L,.int .i64 C] by unfold tokAt tokc; rw [hC,hL]);have HLEN:=hid (show ((ts ++ [tokAt l k t i]).flatMap tokc) = ts.flatMap tokc ++ [.int .i64 k,.string ⟨t.toArray⟩,.int .i64 L,.int .i64 C] by rw [List.flatMap_append,List.flatMap_singleton,HT.out]);have m1 : ts.length + 1 ≤ maxLen:=by unfold maxLen; omega
 have m2 : (ts.length + 1) * 40 ≤ 140737488355328:=by omega
 obtain ⟨A,c,rfl,_,_⟩:=own_form hown;have HO:=hid hown;clear hpl p1 p2 hL hC ht hown hij hcl hj h;go_enter Tryz.func127,Tryz.ntmps127;go_wp2_with fail;refine HPL.out.mono ?_;rintro e0 w1 ⟨rfl,hb1⟩;have hown1:=own_belowS HO.out hb1;have hB1 : B ≤ w1.heap.size:=Nat.le_trans hB hb1.size
 go_wp2_with (at_builtin --
              refine wpList_append_row _ rfl (.tmp 19) (.tmp 28) 126 rfl B 130 i0 (.agg #[.int .i64 0,.string ByteArray.empty,.int .i64 0,.int .i64 0]) 4 40 Tryz.underlying126 hi0 hz0 hz1 hz2 rfl (by decide) (.slice A ts.length c) ts.length (ts.flatMap tokc) rfl (own_belowS hown1 ((Below.refl _ w1).alloc (Nat.le_refl _) _)) (some ⟨w1.heap.size,0,none⟩) 1 1 [.int .i64 k,.string ⟨t.toArray⟩,.int .i64 L,.int .i64 C] rfl rfl (Row.new w1 #[.int .i64 k,.string ⟨t.toArray⟩,.int .i64 L,.int .i64 C] 130) (by simp [Value.oneCell']) m1 m2 (by simp; omega) ?_
              intro v3 w3 hown3 hg3 hat3)
 go_ret;refine ⟨v3,rfl,?_,w1.alloc (.cells #[.int .i64 k,.string ⟨t.toArray⟩,.int .i64 L,.int .i64 C] 130),hb1.alloc hb1.size _,hg3⟩;rw [HLEN.out,List.length_append];exact hown3
end
section
open Go.Lib
def Beg (cs : List (List UInt8)) (i:Nat) : Prop:=∃ j,j ≤ cs.length∧(cs.take j).flatten.length = i
theorem beg_zero (cs : List (List UInt8)) : Beg cs 0:=⟨0,Nat.zero_le _,by simp⟩
theorem beg_end (cs : List (List UInt8)) : Beg cs cs.flatten.length:=⟨cs.length,Nat.le_refl _,by simp⟩
theorem beg_le {cs : List (List UInt8)} {i : Nat} (h : Beg cs i) : i ≤ cs.flatten.length:=by
 obtain ⟨j,_,rfl⟩:=h;have:=congrArg List.length (take_flatten cs j);rw [List.length_take] at this;omega
theorem beg_ascii {cs : List (List UInt8)} (h : ∀ c ∈ cs,Chr c) {i : Nat} (hi : i < cs.flatten.length) (hx : (at0 cs.flatten i).toNat < 128) : Beg cs i∧Beg cs (i + 1):=by
 have hb : bAt cs.flatten i = (at0 cs.flatten i).toNat:=rfl;obtain ⟨k,hk,hik⟩:=start_chars cs i h (by omega) (fun _ => by rw [hb]; omega);refine ⟨⟨k,hk,hik.symm⟩,?_⟩;rcases Nat.lt_or_ge k cs.length with hlt | hge
 ·refine ⟨k + 1,hlt,?_⟩;have htk : cs.take (k + 1) = cs.take k ++ [cs[k]]:=(by rw [List.take_succ_eq_append_getElem hlt]);have hfl : cs.flatten = (cs.take k).flatten ++ (cs[k] ++ (cs.drop (k + 1)).flatten):=by
   conv => lhs; rw [← List.take_append_drop k cs,List.flatten_append,List.drop_eq_getElem_cons hlt,List.flatten_cons]
  have hc:=h cs[k] (List.getElem_mem hlt);have h1 : cs[k].length = 1:=by
   rcases hc.shape with ⟨x,e⟩ | hall
   ·rw [e]; rfl
   ·exfalso;have h0:=hall 0 hc.pos;have e : at0 cs.flatten i = at0 cs[k] 0:=by
     rw [hfl,hik];exact (at0_right (cs.take k).flatten (cs[k] ++ (cs.drop (k + 1)).flatten) 0).trans (at0_left _ _ _ hc.pos)
    rw [e] at hx;have : bAt cs[k] 0 = (at0 cs[k] 0).toNat:=rfl;omega
  rw [htk,List.flatten_append,List.length_append,← hik];simp [h1]
 ·exfalso;rw [List.take_of_length_le hge] at hik;omega
theorem beg_skip {cs : List (List UInt8)} (h : ∀ c ∈ cs,Chr c) {i : Nat} (hi : Beg cs i) : Beg cs (i + skipLen (cs.flatten.drop i)):=by
 have hle:=beg_le hi;obtain ⟨l,hl⟩ : ∃ l,cs.flatten = l:=⟨_,rfl⟩;rw [hl] at hle ⊢;have hsk:=skip_le l i hle;unfold skipLen at hsk ⊢;obtain ⟨b,hb⟩ : ∃ b,span isBlk (l.drop i) = b:=⟨_,rfl⟩;obtain ⟨s1,s2⟩:=span_spec isBlk (l.drop i);rw [hb] at hsk s1 s2 ⊢;split at hsk
 ·rename_i h35;rw [if_pos h35];obtain ⟨m,hm⟩ : ∃ m,span inLn ((l.drop i).drop b) = m:=⟨_,rfl⟩;obtain ⟨_,t2⟩:=span_spec inLn ((l.drop i).drop b);rw [hm] at hsk t2 ⊢;rcases Nat.lt_or_ge (i + (b + m)) l.length with hlt | hge
  ·have:=t2 (by rw [List.length_drop,List.length_drop]; omega);rw [at0_drop,at0_drop] at this;have h10 : at0 l (i + (b + m)) = 10:=(by simpa [inLn] using this);refine (beg_ascii h (i:=i + (b + m)) (by rw [hl]; exact hlt) ?_).1;rw [hl,h10];decide
  ·rw [show i + (b + m) = cs.flatten.length by rw [hl]; omega];exact beg_end cs
 ·rename_i h35;rw [if_neg h35];cases b with
  | zero => exact hi
  | succ b =>
   have:=s1 b (by omega);rw [at0_drop] at this;have h32 : at0 l (i + b) = 32:=(by simpa [isBlk] using this);refine (beg_ascii h (i:=i + b) (by rw [hl]; omega) ?_).2;rw [hl,h32];decide
theorem beg_tok {cs : List (List UInt8)} (h : ∀ c ∈ cs,Chr c) {i n : Nat} (hi : i ≤ cs.flatten.length) {k : Int} (hk : lexTok (cs.flatten.drop i) = .ok (k,n)) : Beg cs (i + n):=by
 obtain ⟨h1,h2,_,h4⟩:=(lex_again _ _ _ hk).2.1;rw [List.length_drop] at h2;rw [at0_drop] at h4;have:=(beg_ascii h (i:=i + (n - 1)) (by omega) h4).2
 rwa [show i + (n - 1) + 1 = i + n by omega] at this
theorem beg_step {cs : List (List UInt8)} (h : ∀ c ∈ cs,Chr c) {s s' : Scn} (hi : Beg cs s.at_) (hs : stepS cs.flatten s = .more s') : Beg cs s'.at_:=by
 have hb:=beg_skip h hi;have hle:=beg_le hb;rw [step_at rfl] at hs;obtain ⟨i,hi⟩ : ∃ i,s.at_ + skipLen (cs.flatten.drop s.at_) = i:=⟨_,rfl⟩;rw [hi] at hs hb hle;have htk : ∀ s1,takeTok cs.flatten i s1 = .more s' → Beg cs s'.at_:=by
  intro s1 ht;unfold takeTok at ht;split at ht
  ·simp at ht
  ·rename_i k n hk;have:=beg_tok h hle hk;split at ht
   ·split at ht
    ·simp at ht
    ·injection ht with ht;subst ht;exact this
   ·injection ht with ht;subst ht;exact this
 unfold stepB at hs;split at hs
 ·split at hs <;> simp at hs
 ·rename_i hlt;split at hs
  ·rename_i h10;have:=(beg_ascii h (i:=i) (by omega) (by rw [h10]; decide)).2;split at hs
   ·injection hs with hs;subst hs;exact this
   ·injection hs with hs;subst hs;exact this
  ·split at hs
   ·split at hs
    ·simp at hs
    ·exact htk _ hs
   ·exact htk _ hs
theorem bol_found (l : List UInt8) (k i:Nat) (hk : k < i) (hi : i ≤ l.length) (h10 : at0 l k = 10) (hno : ∀ j,k < j → j < i → at0 l j ≠ 10) : bol l i = k + 1:=by
 have h1:=bol_nl l k (by omega) h10;have h2:=(same_line l (k + 1) (i - (k + 1)) (by omega) (fun j hj => hno _ (by omega) (by omega))).2;rw [show k + 1 + (i - (k + 1)) = i by omega,h1] at h2;exact h2
theorem bol_kept (l : List UInt8) (a i:Nat) (ha : a ≤ i) (hi : i ≤ l.length) (hno : ∀ j,bol l a ≤ j → j < i → at0 l j ≠ 10) : bol l i = bol l a:=by
 have hb:=bol_le l a;have h2:=(same_line l a (i - a) (by omega) (fun j hj => hno _ (by omega) (by omega))).2;rw [show a + (i - a) = i by omega] at h2;exact h2
theorem bol_skip (l : List UInt8) (a:Nat) (ha : a ≤ l.length) : bol l (a + skipLen (l.drop a)) = bol l a:=by
 have hsk:=skip_le l a ha;unfold skipLen at hsk ⊢;have h1:=(span_line isBlk (by decide) l a _ ha (Nat.le_refl _)).2;obtain ⟨b,hb⟩ : ∃ b,span isBlk (l.drop a) = b:=⟨_,rfl⟩;rw [hb] at hsk h1 ⊢;split at hsk
 ·rename_i h35;rw [if_pos h35,List.drop_drop] at *
  have h2:=(span_line inLn (by decide) l (a + b) _ (by omega) (Nat.le_refl _)).2;rw [← Nat.add_assoc,h2,h1]
 ·rename_i h35;rw [if_neg h35,h1]
end
end Go.Proofs.YtonehlkiackhcaaGreatDoor