/- The reference's strings: what it computes of them. Nothing is claimed here. -/
import Derived.Test.YtonehlkiackhcaaGreatDoorRefR
set_option linter.unusedVariables false
set_option linter.unusedSimpArgs false
set_option maxRecDepth 100000
set_option maxHeartbeats 16000000
namespace Go.Proofs.YtonehlkiackhcaaGreatDoor
open Go.RowKit Go.Shelf Go.Lib Go.Maps
theorem quL_is (c : UInt8) : ([39,34] : List UInt8).contains c = isQuo c:=by
 have:=byte_all (fun c => ([39,34] : List UInt8).contains c == isQuo c) (by decide +kernel) c;simpa using this
theorem prL_is (c : UInt8) : ([114,98,102] : List UInt8).contains c = isPre c:=by
 have:=byte_all (fun c => ([114,98,102] : List UInt8).contains c == isPre c) (by decide +kernel) c;simpa using this
theorem pre_any (a b : List UInt8) (W : World) : Calls Tryz.prog 39 #[.string ⟨a.toArray⟩,.string ⟨b.toArray⟩] W fun e w' => e = .returned (.bool (b.isPrefixOf a))∧W = w' :=
 (Tryz.strings_HasPrefix ⟨a.toArray⟩ ⟨b.toArray⟩ W).mono fun _ _ h' => ⟨h'.1,h'.2.symm⟩
theorem u8f (c d : UInt8) (n:Int) (hd : (d.toNat:Int) = n) (h : c ≠ d) : ((c.toNat:Int) == n) = false:=by
 subst hd;rw [beq_eq_false_iff_ne];intro e;exact h (UInt8.toNat_inj.1 (by omega))
theorem quoted0_any (l : List UInt8) (i:Nat) (w : World) (hl : l.length ≤ 16000) (hi : i < l.length) (hd : isQuo (at0 l i) = true) :
  Calls Tryz.prog 164 #[.string ⟨l.toArray⟩,.int .i64 (i:Int)] w (PPost w i (lexStr 0 (l.drop i))):=by
 have hP : ∀ v : Int,Blk ((w.alloc (.cells #[.int .i64 0,.int .i64 0,.int .i64 0,.int .i64 0] 188)).alloc (.cells #[.int .i64 7,.int .i64 v,.int .i64 0,.int .i64 0] 188)) w.heap.size 188 #[.int .i64 0,.int .i64 0,.int .i64 0,.int .i64 0]:=fun v => (Blk.new w 188 #[.int .i64 0,.int .i64 0,.int .i64 0,.int .i64 0]).alloc (.cells #[.int .i64 7,.int .i64 v,.int .i64 0,.int .i64 0] 188);have hQ : ∀ v : Int,Blk ((w.alloc (.cells #[.int .i64 0,.int .i64 0,.int .i64 0,.int .i64 0] 188)).alloc (.cells #[.int .i64 7,.int .i64 v,.int .i64 0,.int .i64 0] 188)) (w.heap.size + 1) 188 #[.int .i64 7,.int .i64 v,.int .i64 0,.int .i64 0]:=fun v => by
  have h:=Blk.new (w.alloc (.cells #[.int .i64 0,.int .i64 0,.int .i64 0,.int .i64 0] 188)) 188 #[.int .i64 7,.int .i64 v,.int .i64 0,.int .i64 0];rw [show (w.alloc (.cells #[.int .i64 0,.int .i64 0,.int .i64 0,.int .i64 0] 188)).heap.size = w.heap.size + 1 from by simp] at h;exact h
 have hb : ∀ v : Int,Below w.heap.size w ((w.alloc (.cells #[.int .i64 0,.int .i64 0,.int .i64 0,.int .i64 0] 188)).alloc (.cells #[.int .i64 7,.int .i64 v,.int .i64 0,.int .i64 0] 188)):=fun v => ((Below.refl _ w).alloc (Nat.le_refl _) _).alloc (by simp) _;have HP:=hid hP;have HQ:=hid hQ;have HB:=hid hb;clear hP hQ hb;obtain ⟨raw,hrw⟩ : ∃ raw,false = raw:=⟨_,rfl⟩;have hraw : rawAt l 0 i = raw:=by rw [← hrw]; simp [rawAt]
 obtain ⟨E,hE⟩ : ∃ E,endAt l 0 i = E:=⟨_,rfl⟩;have hlx:=lexStr_at l 0 i (by omega);obtain ⟨hq1,hq2,hq3⟩:=quoAt_shape l i hd;obtain ⟨hlo,_,_⟩:=pre_line hq1 hq3 (by omega);rw [hE] at hlx;unfold endAt at hE;rw [Nat.add_zero,hraw,Nat.zero_add] at hE;have h114 : at0 l i ≠ 114:=by intro e; rw [e] at hd; exact absurd hd (by decide)
 have hix:=run_idx l i hi (i:Int) rfl;have hsub:=run_sub l i (i + 1) (by omega) (by omega) (i:Int) ((i:Int) + 1) rfl (by omega);rw [show i + 1 - i = 1 by omega,take_one l i hi] at hsub;have htl:=run_tail l i (by omega) (i:Int) rfl;have c114 : (((at0 l i).toNat:Int) == 114) = raw:=(u8f (at0 l i) 114 114 rfl h114).trans hrw;have HD:=hid hd;have HLX:=hid hlx;clear hraw hlx h114 hd hq1 hrw;cases h3 : three.isPrefixOf (l.drop i)
 ·have hqe : quoAt l i = [at0 l i]:=(by unfold quoAt; rw [h3]; rfl);rw [hqe] at hE hlo hq2 hq3;have H3:=hid h3;clear h3 hqe;have hq0 : 0 < ([at0 l i] : List UInt8).length:=(by simp);go_enter Tryz.func164,Tryz.ntmps164;go_wp2_with fail;refine (hasp_any isQuo [39,34] quL_is rfl l i (i:Int) rfl true HD.out _ hl (by omega)).mono ?_;rintro e w1 ⟨rfl,rfl⟩;go_wp2_with fail;refine (pre_any (l.drop i) [34,34,34] _).mono ?_;rintro e w1 ⟨rfl,rfl⟩;rw [show ([34,34,34] : List UInt8).isPrefixOf (l.drop i) = false from H3.out];go_wp2_with fail;obtain ⟨q,hqq⟩ : ∃ q : List UInt8,[at0 l i] = q:=⟨_,rfl⟩;obtain ⟨lo,hlo2⟩ : ∃ lo,i + q.length = lo:=⟨_,rfl⟩;have hlo3 : (i:Int) + (([at0 l i] : List UInt8).length:Int) = (lo:Int):=(by rw [hqq]; omega);simp only [List.length_cons,List.length_nil] at hlo3;rw [show ([at0 l i] : List UInt8).toArray = q.toArray from by rw [hqq]];rw [hqq] at hE hlo hq2 hq3 hq0;rw [hlo2] at hE hlo;have HE0 : Hid (strEnd q raw (l.drop lo) false (lo - i) = E):=hid (by rw [show lo - i = q.length by omega]; exact hE);clear hqq hE hix hsub htl c114
  -- the loop; q: the closing quotes, raw, E: what the search gives, lo: where it begins
  go_loop [7] (fun v => ∃ j : Nat,i ≤ j∧j ≤ l.length∧v = .int .i64 (j:Int)∧Hid (strEnd q raw (l.drop j) false (j - i) = E)) (fun v => 40000 - (RowKit.intOf v).toNat)
  case atStart => exact ⟨lo,by omega,hlo,congrArg (Value.int IntKind.i64) (by omega),HE0⟩
  case round =>
   clear hlo2 hlo3;obtain ⟨j,hij,hj,rfl,HS⟩:=hrel;have htail:=run_tail l j hj (j:Int) rfl;go_wp2_with fail;refine (pre_any (l.drop j) q _).mono ?_;rintro e w1 ⟨rfl,rfl⟩;cases hp : q.isPrefixOf (l.drop j)
   ·by_cases hlt : j < l.length
    ·have hix:=run_idx l j hlt (j:Int) rfl;have c1 : decide ((l.length:Int) ≤ (j:Int)) = false:=decide_eq_false (by omega);have HPF:=hid hp;clear hp
     by_cases h10 : at0 l j = 10
     ·rw [h10] at hix;rcases hq2 with hq2 | hq2
      ·have HR:=hid (show lexStr 0 (l.drop i) = .error (1,j - i) from by rw [HLX.out,← HS.out,se_nl q raw l j _ hlt HPF.out h10 hq2]);have c2 : ((q.length:Int) == 1) = true:=(by rw [beq_iff_eq]; omega);clear h10;go_wp2_with fail;refine (atR_any 1 (j:Int) _).mono ?_;rintro e0 w5 ⟨rfl,hbb⟩;have hP5:=(HP.out 0).belowS hbb;have hQ5:=(HQ.out 0).belowS hbb;have hb5:=below_then (HB.out 0) hbb (Below.size (HB.out 0));clear hbb;obtain ⟨q1,q2,q3⟩:=hQ5.rules;obtain ⟨p1,p2,p3⟩:=hP5.rules;unfold flt;go_wp2_with fail;have hP6:=(hP5.far (p:=⟨w.heap.size + 1,2,none⟩) (by simp) (.int .i64 1)).far (p:=⟨w.heap.size + 1,3,none⟩) (by simp) (.int .i64 (j:Int));have hb6:=(hb5.setCell (p:=⟨w.heap.size + 1,2,none⟩) (Nat.le_succ _) (.int .i64 1)).setCell (p:=⟨w.heap.size + 1,3,none⟩) (Nat.le_succ _) (.int .i64 (j:Int));exact ret_blk rfl rfl (hP6.set4 (.int .i64 7) (.int .i64 0) (.int .i64 1) (.int .i64 (j:Int))) _ Tryz.underlying188 rfl (by kernel_rfl) rfl (PPost.err HR.out (below_set4 hb6 (Nat.le_refl _) _ _ _ _) rfl (by omega))
      ·have c2 : ((q.length:Int) == 1) = false:=(by rw [beq_eq_false_iff_ne]; omega);have HO:=hid (se_other q raw l j (j - i) hlt HPF.out (by omega) (by rw [h10]; rintro ⟨h,_⟩; exact absurd h (by decide)));clear h10;go_wp2_with fail
       go_round
       case rel => exact ⟨j + 1,by omega,by omega,by go_num,hid (by rw [show j + 1 - i = j - i + 1 by omega,← HO.out]; exact HS.out)⟩
       case measure => simp [RowKit.intOf]; omega
     ·have c2:=u8f (at0 l j) 10 10 rfl h10
      by_cases h92 : at0 l j = 92
      ·rw [h92] at hix;clear c2;cases raw
       ·by_cases hj1 : j + 1 < l.length
        ·have hix1:=run_idx l (j + 1) hj1 ((j:Int) + 1) (by omega);have c3 : decide ((j:Int) + 1 < (l.length:Int)) = true:=decide_eq_true (by omega)
         by_cases hd1 : at0 l (j + 1) = 10
         ·have HO:=hid (se_other q false l j (j - i) hlt HPF.out (fun h => h10 h.1) (fun h => h.2.2.2 hd1));rw [hd1] at hix1;clear h10 h92 hd1;go_wp2_with fail
          go_round
          case rel => exact ⟨j + 1,by omega,by omega,by go_num,hid (by rw [show j + 1 - i = j - i + 1 by omega,← HO.out]; exact HS.out)⟩
          case measure => simp [RowKit.intOf]; omega
         ·have HO:=hid (se_esc q l j (j - i) HPF.out h92 hj1 hd1);have c4 : (((at0 l (j + 1)).toNat:Int) != 10) = true:=(by rw [bne_iff_ne]; intro e; exact hd1 (UInt8.toNat_inj.1 (by show (at0 l (j + 1)).toNat = 10; omega)));clear h10 h92 hd1;go_wp2_with fail
          go_round
          case rel => exact ⟨j + 2,by omega,by omega,by go_num,hid (by rw [show j + 2 - i = j - i + 2 by omega,← HO.out]; exact HS.out)⟩
          case measure => simp [RowKit.intOf]; omega
        ·have HO:=hid (se_other q false l j (j - i) hlt HPF.out (fun h => h10 h.1) (fun h => hj1 h.2.2.1));have c3 : decide ((j:Int) + 1 < (l.length:Int)) = false:=decide_eq_false (by omega);clear h10 h92;go_wp2_with fail
         go_round
         case rel => exact ⟨j + 1,by omega,by omega,by go_num,hid (by rw [show j + 1 - i = j - i + 1 by omega,← HO.out]; exact HS.out)⟩
         case measure => simp [RowKit.intOf]; omega
       ·have HO:=hid (se_other q true l j (j - i) hlt HPF.out (fun h => h10 h.1) (fun h => absurd h.2.1 (by decide)));clear h10 h92;go_wp2_with fail
        go_round
        case rel => exact ⟨j + 1,by omega,by omega,by go_num,hid (by rw [show j + 1 - i = j - i + 1 by omega,← HO.out]; exact HS.out)⟩
        case measure => simp [RowKit.intOf]; omega
      ·have c3:=u8f (at0 l j) 92 92 rfl h92;have HO:=hid (se_other q raw l j (j - i) hlt HPF.out (fun h => h10 h.1) (fun h => h92 h.1));clear h10 h92;go_wp2_with fail
       go_round
       case rel => exact ⟨j + 1,by omega,by omega,by go_num,hid (by rw [show j + 1 - i = j - i + 1 by omega,← HO.out]; exact HS.out)⟩
       case measure => simp [RowKit.intOf]; omega
    ·have HR:=hid (show lexStr 0 (l.drop i) = .error (15,j - i) from by rw [HLX.out,← HS.out,se_end q raw l j _ (by omega)]);have c1 : decide ((l.length:Int) ≤ (j:Int)) = true:=decide_eq_true (by omega);clear hp;go_wp2_with fail;refine (atR_any 15 (j:Int) _).mono ?_;rintro e0 w5 ⟨rfl,hbb⟩;have hP5:=(HP.out 0).belowS hbb;have hQ5:=(HQ.out 0).belowS hbb;have hb5:=below_then (HB.out 0) hbb (Below.size (HB.out 0));clear hbb;obtain ⟨q1,q2,q3⟩:=hQ5.rules;obtain ⟨p1,p2,p3⟩:=hP5.rules;unfold flt;go_wp2_with fail;have hP6:=(hP5.far (p:=⟨w.heap.size + 1,2,none⟩) (by simp) (.int .i64 15)).far (p:=⟨w.heap.size + 1,3,none⟩) (by simp) (.int .i64 (j:Int));have hb6:=(hb5.setCell (p:=⟨w.heap.size + 1,2,none⟩) (Nat.le_succ _) (.int .i64 15)).setCell (p:=⟨w.heap.size + 1,3,none⟩) (Nat.le_succ _) (.int .i64 (j:Int));exact ret_blk rfl rfl (hP6.set4 (.int .i64 7) (.int .i64 0) (.int .i64 15) (.int .i64 (j:Int))) _ Tryz.underlying188 rfl (by kernel_rfl) rfl (PPost.err HR.out (below_set4 hb6 (Nat.le_refl _) _ _ _ _) rfl (by omega))
   ·have HR:=hid (show lexStr 0 (l.drop i) = .ok (7,j - i + q.length) from by rw [HLX.out,← HS.out,se_pre q raw hq0 l j _ hp]);clear hp;go_wp2_with fail;exact ret_blk rfl rfl ((Blk.new w 188 #[.int .i64 7,.int .i64 ((j:Int) + q.length),.int .i64 0,.int .i64 0]).alloc (.cells #[.int .i64 7,.int .i64 ((j:Int) + q.length),.int .i64 0,.int .i64 0] 188)) _ Tryz.underlying188 rfl (by kernel_rfl) rfl (PPost.ok HR.out (((Below.refl _ w).alloc (Nat.le_refl _) _).alloc (by simp) _) rfl (by omega))
 ·have hqe : quoAt l i = [34,34,34]:=(by unfold quoAt; rw [h3]; rfl);rw [hqe] at hE hlo hq2 hq3;have H3:=hid h3;clear h3 hqe;have hq0 : 0 < ([34,34,34] : List UInt8).length:=(by simp);go_enter Tryz.func164,Tryz.ntmps164;go_wp2_with fail;refine (hasp_any isQuo [39,34] quL_is rfl l i (i:Int) rfl true HD.out _ hl (by omega)).mono ?_;rintro e w1 ⟨rfl,rfl⟩;go_wp2_with fail;refine (pre_any (l.drop i) [34,34,34] _).mono ?_;rintro e w1 ⟨rfl,rfl⟩;rw [show ([34,34,34] : List UInt8).isPrefixOf (l.drop i) = true from H3.out];go_wp2_with fail;obtain ⟨q,hqq⟩ : ∃ q : List UInt8,[34,34,34] = q:=⟨_,rfl⟩;obtain ⟨lo,hlo2⟩ : ∃ lo,i + q.length = lo:=⟨_,rfl⟩;have hlo3 : (i:Int) + (([34,34,34] : List UInt8).length:Int) = (lo:Int):=(by rw [hqq]; omega);simp only [List.length_cons,List.length_nil] at hlo3;rw [show ([34,34,34] : List UInt8).toArray = q.toArray from by rw [hqq]];rw [hqq] at hE hlo hq2 hq3 hq0;rw [hlo2] at hE hlo;have HE0 : Hid (strEnd q raw (l.drop lo) false (lo - i) = E):=hid (by rw [show lo - i = q.length by omega]; exact hE);clear hqq hE hix hsub htl c114
  -- the loop; q: the closing quotes, raw, E: what the search gives, lo: where it begins
  go_loop [7] (fun v => ∃ j : Nat,i ≤ j∧j ≤ l.length∧v = .int .i64 (j:Int)∧Hid (strEnd q raw (l.drop j) false (j - i) = E)) (fun v => 40000 - (RowKit.intOf v).toNat)
  case atStart => exact ⟨lo,by omega,hlo,congrArg (Value.int IntKind.i64) (by omega),HE0⟩
  case round =>
   clear hlo2 hlo3;obtain ⟨j,hij,hj,rfl,HS⟩:=hrel;have htail:=run_tail l j hj (j:Int) rfl;go_wp2_with fail;refine (pre_any (l.drop j) q _).mono ?_;rintro e w1 ⟨rfl,rfl⟩;cases hp : q.isPrefixOf (l.drop j)
   ·by_cases hlt : j < l.length
    ·have hix:=run_idx l j hlt (j:Int) rfl;have c1 : decide ((l.length:Int) ≤ (j:Int)) = false:=decide_eq_false (by omega);have HPF:=hid hp;clear hp
     by_cases h10 : at0 l j = 10
     ·rw [h10] at hix;rcases hq2 with hq2 | hq2
      ·have HR:=hid (show lexStr 0 (l.drop i) = .error (1,j - i) from by rw [HLX.out,← HS.out,se_nl q raw l j _ hlt HPF.out h10 hq2]);have c2 : ((q.length:Int) == 1) = true:=(by rw [beq_iff_eq]; omega);clear h10;go_wp2_with fail;refine (atR_any 1 (j:Int) _).mono ?_;rintro e0 w5 ⟨rfl,hbb⟩;have hP5:=(HP.out 0).belowS hbb;have hQ5:=(HQ.out 0).belowS hbb;have hb5:=below_then (HB.out 0) hbb (Below.size (HB.out 0));clear hbb;obtain ⟨q1,q2,q3⟩:=hQ5.rules;obtain ⟨p1,p2,p3⟩:=hP5.rules;unfold flt;go_wp2_with fail;have hP6:=(hP5.far (p:=⟨w.heap.size + 1,2,none⟩) (by simp) (.int .i64 1)).far (p:=⟨w.heap.size + 1,3,none⟩) (by simp) (.int .i64 (j:Int));have hb6:=(hb5.setCell (p:=⟨w.heap.size + 1,2,none⟩) (Nat.le_succ _) (.int .i64 1)).setCell (p:=⟨w.heap.size + 1,3,none⟩) (Nat.le_succ _) (.int .i64 (j:Int));exact ret_blk rfl rfl (hP6.set4 (.int .i64 7) (.int .i64 0) (.int .i64 1) (.int .i64 (j:Int))) _ Tryz.underlying188 rfl (by kernel_rfl) rfl (PPost.err HR.out (below_set4 hb6 (Nat.le_refl _) _ _ _ _) rfl (by omega))
      ·have c2 : ((q.length:Int) == 1) = false:=(by rw [beq_eq_false_iff_ne]; omega);have HO:=hid (se_other q raw l j (j - i) hlt HPF.out (by omega) (by rw [h10]; rintro ⟨h,_⟩; exact absurd h (by decide)));clear h10;go_wp2_with fail
       go_round
       case rel => exact ⟨j + 1,by omega,by omega,by go_num,hid (by rw [show j + 1 - i = j - i + 1 by omega,← HO.out]; exact HS.out)⟩
       case measure => simp [RowKit.intOf]; omega
     ·have c2:=u8f (at0 l j) 10 10 rfl h10
      by_cases h92 : at0 l j = 92
      ·rw [h92] at hix;clear c2;cases raw
       ·by_cases hj1 : j + 1 < l.length
        ·have hix1:=run_idx l (j + 1) hj1 ((j:Int) + 1) (by omega);have c3 : decide ((j:Int) + 1 < (l.length:Int)) = true:=decide_eq_true (by omega)
         by_cases hd1 : at0 l (j + 1) = 10
         ·have HO:=hid (se_other q false l j (j - i) hlt HPF.out (fun h => h10 h.1) (fun h => h.2.2.2 hd1));rw [hd1] at hix1;clear h10 h92 hd1;go_wp2_with fail
          go_round
          case rel => exact ⟨j + 1,by omega,by omega,by go_num,hid (by rw [show j + 1 - i = j - i + 1 by omega,← HO.out]; exact HS.out)⟩
          case measure => simp [RowKit.intOf]; omega
         ·have HO:=hid (se_esc q l j (j - i) HPF.out h92 hj1 hd1);have c4 : (((at0 l (j + 1)).toNat:Int) != 10) = true:=(by rw [bne_iff_ne]; intro e; exact hd1 (UInt8.toNat_inj.1 (by show (at0 l (j + 1)).toNat = 10; omega)));clear h10 h92 hd1;go_wp2_with fail
          go_round
          case rel => exact ⟨j + 2,by omega,by omega,by go_num,hid (by rw [show j + 2 - i = j - i + 2 by omega,← HO.out]; exact HS.out)⟩
          case measure => simp [RowKit.intOf]; omega
        ·have HO:=hid (se_other q false l j (j - i) hlt HPF.out (fun h => h10 h.1) (fun h => hj1 h.2.2.1));have c3 : decide ((j:Int) + 1 < (l.length:Int)) = false:=decide_eq_false (by omega);clear h10 h92;go_wp2_with fail
         go_round
         case rel => exact ⟨j + 1,by omega,by omega,by go_num,hid (by rw [show j + 1 - i = j - i + 1 by omega,← HO.out]; exact HS.out)⟩
         case measure => simp [RowKit.intOf]; omega
       ·have HO:=hid (se_other q true l j (j - i) hlt HPF.out (fun h => h10 h.1) (fun h => absurd h.2.1 (by decide)));clear h10 h92;go_wp2_with fail
        go_round
        case rel => exact ⟨j + 1,by omega,by omega,by go_num,hid (by rw [show j + 1 - i = j - i + 1 by omega,← HO.out]; exact HS.out)⟩
        case measure => simp [RowKit.intOf]; omega
      ·have c3:=u8f (at0 l j) 92 92 rfl h92;have HO:=hid (se_other q raw l j (j - i) hlt HPF.out (fun h => h10 h.1) (fun h => h92 h.1));clear h10 h92;go_wp2_with fail
       go_round
       case rel => exact ⟨j + 1,by omega,by omega,by go_num,hid (by rw [show j + 1 - i = j - i + 1 by omega,← HO.out]; exact HS.out)⟩
       case measure => simp [RowKit.intOf]; omega
    ·have HR:=hid (show lexStr 0 (l.drop i) = .error (15,j - i) from by rw [HLX.out,← HS.out,se_end q raw l j _ (by omega)]);have c1 : decide ((l.length:Int) ≤ (j:Int)) = true:=decide_eq_true (by omega);clear hp;go_wp2_with fail;refine (atR_any 15 (j:Int) _).mono ?_;rintro e0 w5 ⟨rfl,hbb⟩;have hP5:=(HP.out 0).belowS hbb;have hQ5:=(HQ.out 0).belowS hbb;have hb5:=below_then (HB.out 0) hbb (Below.size (HB.out 0));clear hbb;obtain ⟨q1,q2,q3⟩:=hQ5.rules;obtain ⟨p1,p2,p3⟩:=hP5.rules;unfold flt;go_wp2_with fail;have hP6:=(hP5.far (p:=⟨w.heap.size + 1,2,none⟩) (by simp) (.int .i64 15)).far (p:=⟨w.heap.size + 1,3,none⟩) (by simp) (.int .i64 (j:Int));have hb6:=(hb5.setCell (p:=⟨w.heap.size + 1,2,none⟩) (Nat.le_succ _) (.int .i64 15)).setCell (p:=⟨w.heap.size + 1,3,none⟩) (Nat.le_succ _) (.int .i64 (j:Int));exact ret_blk rfl rfl (hP6.set4 (.int .i64 7) (.int .i64 0) (.int .i64 15) (.int .i64 (j:Int))) _ Tryz.underlying188 rfl (by kernel_rfl) rfl (PPost.err HR.out (below_set4 hb6 (Nat.le_refl _) _ _ _ _) rfl (by omega))
   ·have HR:=hid (show lexStr 0 (l.drop i) = .ok (7,j - i + q.length) from by rw [HLX.out,← HS.out,se_pre q raw hq0 l j _ hp]);clear hp;go_wp2_with fail;exact ret_blk rfl rfl ((Blk.new w 188 #[.int .i64 7,.int .i64 ((j:Int) + q.length),.int .i64 0,.int .i64 0]).alloc (.cells #[.int .i64 7,.int .i64 ((j:Int) + q.length),.int .i64 0,.int .i64 0] 188)) _ Tryz.underlying188 rfl (by kernel_rfl) rfl (PPost.ok HR.out (((Below.refl _ w).alloc (Nat.le_refl _) _).alloc (by simp) _) rfl (by omega))
theorem quoted1_any (l : List UInt8) (i:Nat) (w : World) (hl : l.length ≤ 16000) (hi : i < l.length) (hpr : isPre (at0 l i) = true) (hd : isQuo (at0 l (i + 1)) = true) :
  Calls Tryz.prog 164 #[.string ⟨l.toArray⟩,.int .i64 (i:Int)] w (PPost w i (lexStr 1 (l.drop i))):=by
 have hP : ∀ v : Int,Blk ((w.alloc (.cells #[.int .i64 0,.int .i64 0,.int .i64 0,.int .i64 0] 188)).alloc (.cells #[.int .i64 7,.int .i64 v,.int .i64 0,.int .i64 0] 188)) w.heap.size 188 #[.int .i64 0,.int .i64 0,.int .i64 0,.int .i64 0]:=fun v => (Blk.new w 188 #[.int .i64 0,.int .i64 0,.int .i64 0,.int .i64 0]).alloc (.cells #[.int .i64 7,.int .i64 v,.int .i64 0,.int .i64 0] 188);have hQ : ∀ v : Int,Blk ((w.alloc (.cells #[.int .i64 0,.int .i64 0,.int .i64 0,.int .i64 0] 188)).alloc (.cells #[.int .i64 7,.int .i64 v,.int .i64 0,.int .i64 0] 188)) (w.heap.size + 1) 188 #[.int .i64 7,.int .i64 v,.int .i64 0,.int .i64 0]:=fun v => by
  have h:=Blk.new (w.alloc (.cells #[.int .i64 0,.int .i64 0,.int .i64 0,.int .i64 0] 188)) 188 #[.int .i64 7,.int .i64 v,.int .i64 0,.int .i64 0];rw [show (w.alloc (.cells #[.int .i64 0,.int .i64 0,.int .i64 0,.int .i64 0] 188)).heap.size = w.heap.size + 1 from by simp] at h;exact h
 have hb : ∀ v : Int,Below w.heap.size w ((w.alloc (.cells #[.int .i64 0,.int .i64 0,.int .i64 0,.int .i64 0] 188)).alloc (.cells #[.int .i64 7,.int .i64 v,.int .i64 0,.int .i64 0] 188)):=fun v => ((Below.refl _ w).alloc (Nat.le_refl _) _).alloc (by simp) _;have HP:=hid hP;have HQ:=hid hQ;have HB:=hid hb;clear hP hQ hb;have hi1 : i + 1 < l.length:=by
  rcases Nat.lt_or_ge (i + 1) l.length with h | h
  ·exact h
  ·rw [at0_ge l (i + 1) h] at hd; exact absurd hd (by decide)
 have hnq : isQuo (at0 l i) = false:=by
  cases hq : isQuo (at0 l i)
  ·rfl
  ·exfalso;have:=byte_all (fun c => !(isQuo c && isPre c)) (by decide +kernel) (at0 l i);rw [hq,hpr] at this;exact absurd this (by decide)
 obtain ⟨raw,hrw⟩ : ∃ raw,(at0 l i == 114) = raw:=⟨_,rfl⟩;have hraw : rawAt l 1 i = raw:=by rw [← hrw]; simp [rawAt]
 obtain ⟨E,hE⟩ : ∃ E,endAt l 1 i = E:=⟨_,rfl⟩;have hlx:=lexStr_at l 1 i (by omega);obtain ⟨hq1,hq2,hq3⟩:=quoAt_shape l (i + 1) hd;obtain ⟨hlo,_,_⟩:=pre_line hq1 hq3 (by omega);rw [hE] at hlx;unfold endAt at hE;rw [hraw] at hE;have hix:=run_idx l i hi (i:Int) rfl;have hnn : i + 1 = i + 1:=rfl;have hsub:=run_sub l (i + 1) (i + 2) (by omega) (by omega) ((i:Int) + 1) ((i:Int) + 2) (by omega) (by omega);have hsub2:=run_sub l (i + 1) (i + 2) (by omega) (by omega) ((i:Int) + 1) ((i:Int) + 1 + 1) (by omega) (by omega);rw [show i + 2 - (i + 1) = 1 by omega,take_one l (i + 1) hi1] at hsub hsub2;have htl:=run_tail l (i + 1) (by omega) ((i:Int) + 1) (by omega);have c114 : (((at0 l i).toNat:Int) == 114) = raw:=by
  rw [← hrw];cases h : (at0 l i == 114)
  ·exact u8f (at0 l i) 114 114 rfl (by simpa using h)
  ·rw [show at0 l i = 114 from by simpa using h]; rfl
 have HD:=hid hnq;have HLX:=hid hlx;clear hraw hlx hnq hd hq1 hrw hpr hnn;cases h3 : three.isPrefixOf (l.drop (i + 1))
 ·have hqe : quoAt l (i + 1) = [at0 l (i + 1)]:=(by unfold quoAt; rw [h3]; rfl);rw [hqe] at hE hlo hq2 hq3;have H3:=hid h3;clear h3 hqe;have hq0 : 0 < ([at0 l (i + 1)] : List UInt8).length:=(by simp);go_enter Tryz.func164,Tryz.ntmps164;go_wp2_with fail;refine (hasp_any isQuo [39,34] quL_is rfl l i (i:Int) rfl false HD.out _ hl (by omega)).mono ?_;rintro e w1 ⟨rfl,rfl⟩;go_wp2_with fail;refine (pre_any (l.drop (i + 1)) [34,34,34] _).mono ?_;rintro e w1 ⟨rfl,rfl⟩;rw [show ([34,34,34] : List UInt8).isPrefixOf (l.drop (i + 1)) = false from H3.out];go_wp2_with fail;obtain ⟨q,hqq⟩ : ∃ q : List UInt8,[at0 l (i + 1)] = q:=⟨_,rfl⟩;obtain ⟨lo,hlo2⟩ : ∃ lo,i + 1 + q.length = lo:=⟨_,rfl⟩;have hlo3 : (i:Int) + 1 + (([at0 l (i + 1)] : List UInt8).length:Int) = (lo:Int):=(by rw [hqq]; omega);simp only [List.length_cons,List.length_nil] at hlo3;rw [show ([at0 l (i + 1)] : List UInt8).toArray = q.toArray from by rw [hqq]];rw [hqq] at hE hlo hq2 hq3 hq0;rw [hlo2] at hE hlo;have HE0 : Hid (strEnd q raw (l.drop lo) false (lo - i) = E):=hid (by rw [show lo - i = 1 + q.length by omega]; exact hE);clear hqq hE hix hsub hsub2 htl c114
  -- the loop; q: the closing quotes, raw, E: what the search gives, lo: where it begins
  go_loop [7] (fun v => ∃ j : Nat,i ≤ j∧j ≤ l.length∧v = .int .i64 (j:Int)∧Hid (strEnd q raw (l.drop j) false (j - i) = E)) (fun v => 40000 - (RowKit.intOf v).toNat)
  case atStart => exact ⟨lo,by omega,hlo,congrArg (Value.int IntKind.i64) (by omega),HE0⟩
  case round =>
   clear hlo2 hlo3;obtain ⟨j,hij,hj,rfl,HS⟩:=hrel;have htail:=run_tail l j hj (j:Int) rfl;go_wp2_with fail;refine (pre_any (l.drop j) q _).mono ?_;rintro e w1 ⟨rfl,rfl⟩;cases hp : q.isPrefixOf (l.drop j)
   ·by_cases hlt : j < l.length
    ·have hix:=run_idx l j hlt (j:Int) rfl;have c1 : decide ((l.length:Int) ≤ (j:Int)) = false:=decide_eq_false (by omega);have HPF:=hid hp;clear hp
     by_cases h10 : at0 l j = 10
     ·rw [h10] at hix;rcases hq2 with hq2 | hq2
      ·have HR:=hid (show lexStr 1 (l.drop i) = .error (1,j - i) from by rw [HLX.out,← HS.out,se_nl q raw l j _ hlt HPF.out h10 hq2]);have c2 : ((q.length:Int) == 1) = true:=(by rw [beq_iff_eq]; omega);clear h10;go_wp2_with fail;refine (atR_any 1 (j:Int) _).mono ?_;rintro e0 w5 ⟨rfl,hbb⟩;have hP5:=(HP.out 0).belowS hbb;have hQ5:=(HQ.out 0).belowS hbb;have hb5:=below_then (HB.out 0) hbb (Below.size (HB.out 0));clear hbb;obtain ⟨q1,q2,q3⟩:=hQ5.rules;obtain ⟨p1,p2,p3⟩:=hP5.rules;unfold flt;go_wp2_with fail;have hP6:=(hP5.far (p:=⟨w.heap.size + 1,2,none⟩) (by simp) (.int .i64 1)).far (p:=⟨w.heap.size + 1,3,none⟩) (by simp) (.int .i64 (j:Int));have hb6:=(hb5.setCell (p:=⟨w.heap.size + 1,2,none⟩) (Nat.le_succ _) (.int .i64 1)).setCell (p:=⟨w.heap.size + 1,3,none⟩) (Nat.le_succ _) (.int .i64 (j:Int));exact ret_blk rfl rfl (hP6.set4 (.int .i64 7) (.int .i64 0) (.int .i64 1) (.int .i64 (j:Int))) _ Tryz.underlying188 rfl (by kernel_rfl) rfl (PPost.err HR.out (below_set4 hb6 (Nat.le_refl _) _ _ _ _) rfl (by omega))
      ·have c2 : ((q.length:Int) == 1) = false:=(by rw [beq_eq_false_iff_ne]; omega);have HO:=hid (se_other q raw l j (j - i) hlt HPF.out (by omega) (by rw [h10]; rintro ⟨h,_⟩; exact absurd h (by decide)));clear h10;go_wp2_with fail
       go_round
       case rel => exact ⟨j + 1,by omega,by omega,by go_num,hid (by rw [show j + 1 - i = j - i + 1 by omega,← HO.out]; exact HS.out)⟩
       case measure => simp [RowKit.intOf]; omega
     ·have c2:=u8f (at0 l j) 10 10 rfl h10
      by_cases h92 : at0 l j = 92
      ·rw [h92] at hix;clear c2;cases raw
       ·by_cases hj1 : j + 1 < l.length
        ·have hix1:=run_idx l (j + 1) hj1 ((j:Int) + 1) (by omega);have c3 : decide ((j:Int) + 1 < (l.length:Int)) = true:=decide_eq_true (by omega)
         by_cases hd1 : at0 l (j + 1) = 10
         ·have HO:=hid (se_other q false l j (j - i) hlt HPF.out (fun h => h10 h.1) (fun h => h.2.2.2 hd1));rw [hd1] at hix1;clear h10 h92 hd1;go_wp2_with fail
          go_round
          case rel => exact ⟨j + 1,by omega,by omega,by go_num,hid (by rw [show j + 1 - i = j - i + 1 by omega,← HO.out]; exact HS.out)⟩
          case measure => simp [RowKit.intOf]; omega
         ·have HO:=hid (se_esc q l j (j - i) HPF.out h92 hj1 hd1);have c4 : (((at0 l (j + 1)).toNat:Int) != 10) = true:=(by rw [bne_iff_ne]; intro e; exact hd1 (UInt8.toNat_inj.1 (by show (at0 l (j + 1)).toNat = 10; omega)));clear h10 h92 hd1;go_wp2_with fail
          go_round
          case rel => exact ⟨j + 2,by omega,by omega,by go_num,hid (by rw [show j + 2 - i = j - i + 2 by omega,← HO.out]; exact HS.out)⟩
          case measure => simp [RowKit.intOf]; omega
        ·have HO:=hid (se_other q false l j (j - i) hlt HPF.out (fun h => h10 h.1) (fun h => hj1 h.2.2.1));have c3 : decide ((j:Int) + 1 < (l.length:Int)) = false:=decide_eq_false (by omega);clear h10 h92;go_wp2_with fail
         go_round
         case rel => exact ⟨j + 1,by omega,by omega,by go_num,hid (by rw [show j + 1 - i = j - i + 1 by omega,← HO.out]; exact HS.out)⟩
         case measure => simp [RowKit.intOf]; omega
       ·have HO:=hid (se_other q true l j (j - i) hlt HPF.out (fun h => h10 h.1) (fun h => absurd h.2.1 (by decide)));clear h10 h92;go_wp2_with fail
        go_round
        case rel => exact ⟨j + 1,by omega,by omega,by go_num,hid (by rw [show j + 1 - i = j - i + 1 by omega,← HO.out]; exact HS.out)⟩
        case measure => simp [RowKit.intOf]; omega
      ·have c3:=u8f (at0 l j) 92 92 rfl h92;have HO:=hid (se_other q raw l j (j - i) hlt HPF.out (fun h => h10 h.1) (fun h => h92 h.1));clear h10 h92;go_wp2_with fail
       go_round
       case rel => exact ⟨j + 1,by omega,by omega,by go_num,hid (by rw [show j + 1 - i = j - i + 1 by omega,← HO.out]; exact HS.out)⟩
       case measure => simp [RowKit.intOf]; omega
    ·have HR:=hid (show lexStr 1 (l.drop i) = .error (15,j - i) from by rw [HLX.out,← HS.out,se_end q raw l j _ (by omega)]);have c1 : decide ((l.length:Int) ≤ (j:Int)) = true:=decide_eq_true (by omega);clear hp;go_wp2_with fail;refine (atR_any 15 (j:Int) _).mono ?_;rintro e0 w5 ⟨rfl,hbb⟩;have hP5:=(HP.out 0).belowS hbb;have hQ5:=(HQ.out 0).belowS hbb;have hb5:=below_then (HB.out 0) hbb (Below.size (HB.out 0));clear hbb;obtain ⟨q1,q2,q3⟩:=hQ5.rules;obtain ⟨p1,p2,p3⟩:=hP5.rules;unfold flt;go_wp2_with fail;have hP6:=(hP5.far (p:=⟨w.heap.size + 1,2,none⟩) (by simp) (.int .i64 15)).far (p:=⟨w.heap.size + 1,3,none⟩) (by simp) (.int .i64 (j:Int));have hb6:=(hb5.setCell (p:=⟨w.heap.size + 1,2,none⟩) (Nat.le_succ _) (.int .i64 15)).setCell (p:=⟨w.heap.size + 1,3,none⟩) (Nat.le_succ _) (.int .i64 (j:Int));exact ret_blk rfl rfl (hP6.set4 (.int .i64 7) (.int .i64 0) (.int .i64 15) (.int .i64 (j:Int))) _ Tryz.underlying188 rfl (by kernel_rfl) rfl (PPost.err HR.out (below_set4 hb6 (Nat.le_refl _) _ _ _ _) rfl (by omega))
   ·have HR:=hid (show lexStr 1 (l.drop i) = .ok (7,j - i + q.length) from by rw [HLX.out,← HS.out,se_pre q raw hq0 l j _ hp]);clear hp;go_wp2_with fail;exact ret_blk rfl rfl ((Blk.new w 188 #[.int .i64 7,.int .i64 ((j:Int) + q.length),.int .i64 0,.int .i64 0]).alloc (.cells #[.int .i64 7,.int .i64 ((j:Int) + q.length),.int .i64 0,.int .i64 0] 188)) _ Tryz.underlying188 rfl (by kernel_rfl) rfl (PPost.ok HR.out (((Below.refl _ w).alloc (Nat.le_refl _) _).alloc (by simp) _) rfl (by omega))
 ·have hqe : quoAt l (i + 1) = [34,34,34]:=(by unfold quoAt; rw [h3]; rfl);rw [hqe] at hE hlo hq2 hq3;have H3:=hid h3;clear h3 hqe;have hq0 : 0 < ([34,34,34] : List UInt8).length:=(by simp);go_enter Tryz.func164,Tryz.ntmps164;go_wp2_with fail;refine (hasp_any isQuo [39,34] quL_is rfl l i (i:Int) rfl false HD.out _ hl (by omega)).mono ?_;rintro e w1 ⟨rfl,rfl⟩;go_wp2_with fail;refine (pre_any (l.drop (i + 1)) [34,34,34] _).mono ?_;rintro e w1 ⟨rfl,rfl⟩;rw [show ([34,34,34] : List UInt8).isPrefixOf (l.drop (i + 1)) = true from H3.out];go_wp2_with fail;obtain ⟨q,hqq⟩ : ∃ q : List UInt8,[34,34,34] = q:=⟨_,rfl⟩;obtain ⟨lo,hlo2⟩ : ∃ lo,i + 1 + q.length = lo:=⟨_,rfl⟩;have hlo3 : (i:Int) + 1 + (([34,34,34] : List UInt8).length:Int) = (lo:Int):=(by rw [hqq]; omega);simp only [List.length_cons,List.length_nil] at hlo3;rw [show ([34,34,34] : List UInt8).toArray = q.toArray from by rw [hqq]];rw [hqq] at hE hlo hq2 hq3 hq0;rw [hlo2] at hE hlo;have HE0 : Hid (strEnd q raw (l.drop lo) false (lo - i) = E):=hid (by rw [show lo - i = 1 + q.length by omega]; exact hE);clear hqq hE hix hsub hsub2 htl c114
  -- the loop; q: the closing quotes, raw, E: what the search gives, lo: where it begins
  go_loop [7] (fun v => ∃ j : Nat,i ≤ j∧j ≤ l.length∧v = .int .i64 (j:Int)∧Hid (strEnd q raw (l.drop j) false (j - i) = E)) (fun v => 40000 - (RowKit.intOf v).toNat)
  case atStart => exact ⟨lo,by omega,hlo,congrArg (Value.int IntKind.i64) (by omega),HE0⟩
  case round =>
   clear hlo2 hlo3;obtain ⟨j,hij,hj,rfl,HS⟩:=hrel;have htail:=run_tail l j hj (j:Int) rfl;go_wp2_with fail;refine (pre_any (l.drop j) q _).mono ?_;rintro e w1 ⟨rfl,rfl⟩;cases hp : q.isPrefixOf (l.drop j)
   ·by_cases hlt : j < l.length
    ·have hix:=run_idx l j hlt (j:Int) rfl;have c1 : decide ((l.length:Int) ≤ (j:Int)) = false:=decide_eq_false (by omega);have HPF:=hid hp;clear hp
     by_cases h10 : at0 l j = 10
     ·rw [h10] at hix;rcases hq2 with hq2 | hq2
      ·have HR:=hid (show lexStr 1 (l.drop i) = .error (1,j - i) from by rw [HLX.out,← HS.out,se_nl q raw l j _ hlt HPF.out h10 hq2]);have c2 : ((q.length:Int) == 1) = true:=(by rw [beq_iff_eq]; omega);clear h10;go_wp2_with fail;refine (atR_any 1 (j:Int) _).mono ?_;rintro e0 w5 ⟨rfl,hbb⟩;have hP5:=(HP.out 0).belowS hbb;have hQ5:=(HQ.out 0).belowS hbb;have hb5:=below_then (HB.out 0) hbb (Below.size (HB.out 0));clear hbb;obtain ⟨q1,q2,q3⟩:=hQ5.rules;obtain ⟨p1,p2,p3⟩:=hP5.rules;unfold flt;go_wp2_with fail;have hP6:=(hP5.far (p:=⟨w.heap.size + 1,2,none⟩) (by simp) (.int .i64 1)).far (p:=⟨w.heap.size + 1,3,none⟩) (by simp) (.int .i64 (j:Int));have hb6:=(hb5.setCell (p:=⟨w.heap.size + 1,2,none⟩) (Nat.le_succ _) (.int .i64 1)).setCell (p:=⟨w.heap.size + 1,3,none⟩) (Nat.le_succ _) (.int .i64 (j:Int));exact ret_blk rfl rfl (hP6.set4 (.int .i64 7) (.int .i64 0) (.int .i64 1) (.int .i64 (j:Int))) _ Tryz.underlying188 rfl (by kernel_rfl) rfl (PPost.err HR.out (below_set4 hb6 (Nat.le_refl _) _ _ _ _) rfl (by omega))
      ·have c2 : ((q.length:Int) == 1) = false:=(by rw [beq_eq_false_iff_ne]; omega);have HO:=hid (se_other q raw l j (j - i) hlt HPF.out (by omega) (by rw [h10]; rintro ⟨h,_⟩; exact absurd h (by decide)));clear h10;go_wp2_with fail
       go_round
       case rel => exact ⟨j + 1,by omega,by omega,by go_num,hid (by rw [show j + 1 - i = j - i + 1 by omega,← HO.out]; exact HS.out)⟩
       case measure => simp [RowKit.intOf]; omega
     ·have c2:=u8f (at0 l j) 10 10 rfl h10
      by_cases h92 : at0 l j = 92
      ·rw [h92] at hix;clear c2;cases raw
       ·by_cases hj1 : j + 1 < l.length
        ·have hix1:=run_idx l (j + 1) hj1 ((j:Int) + 1) (by omega);have c3 : decide ((j:Int) + 1 < (l.length:Int)) = true:=decide_eq_true (by omega)
         by_cases hd1 : at0 l (j + 1) = 10
         ·have HO:=hid (se_other q false l j (j - i) hlt HPF.out (fun h => h10 h.1) (fun h => h.2.2.2 hd1));rw [hd1] at hix1;clear h10 h92 hd1;go_wp2_with fail
          go_round
          case rel => exact ⟨j + 1,by omega,by omega,by go_num,hid (by rw [show j + 1 - i = j - i + 1 by omega,← HO.out]; exact HS.out)⟩
          case measure => simp [RowKit.intOf]; omega
         ·have HO:=hid (se_esc q l j (j - i) HPF.out h92 hj1 hd1);have c4 : (((at0 l (j + 1)).toNat:Int) != 10) = true:=(by rw [bne_iff_ne]; intro e; exact hd1 (UInt8.toNat_inj.1 (by show (at0 l (j + 1)).toNat = 10; omega)));clear h10 h92 hd1;go_wp2_with fail
          go_round
          case rel => exact ⟨j + 2,by omega,by omega,by go_num,hid (by rw [show j + 2 - i = j - i + 2 by omega,← HO.out]; exact HS.out)⟩
          case measure => simp [RowKit.intOf]; omega
        ·have HO:=hid (se_other q false l j (j - i) hlt HPF.out (fun h => h10 h.1) (fun h => hj1 h.2.2.1));have c3 : decide ((j:Int) + 1 < (l.length:Int)) = false:=decide_eq_false (by omega);clear h10 h92;go_wp2_with fail
         go_round
         case rel => exact ⟨j + 1,by omega,by omega,by go_num,hid (by rw [show j + 1 - i = j - i + 1 by omega,← HO.out]; exact HS.out)⟩
         case measure => simp [RowKit.intOf]; omega
       ·have HO:=hid (se_other q true l j (j - i) hlt HPF.out (fun h => h10 h.1) (fun h => absurd h.2.1 (by decide)));clear h10 h92;go_wp2_with fail
        go_round
        case rel => exact ⟨j + 1,by omega,by omega,by go_num,hid (by rw [show j + 1 - i = j - i + 1 by omega,← HO.out]; exact HS.out)⟩
        case measure => simp [RowKit.intOf]; omega
      ·have c3:=u8f (at0 l j) 92 92 rfl h92;have HO:=hid (se_other q raw l j (j - i) hlt HPF.out (fun h => h10 h.1) (fun h => h92 h.1));clear h10 h92;go_wp2_with fail
       go_round
       case rel => exact ⟨j + 1,by omega,by omega,by go_num,hid (by rw [show j + 1 - i = j - i + 1 by omega,← HO.out]; exact HS.out)⟩
       case measure => simp [RowKit.intOf]; omega
    ·have HR:=hid (show lexStr 1 (l.drop i) = .error (15,j - i) from by rw [HLX.out,← HS.out,se_end q raw l j _ (by omega)]);have c1 : decide ((l.length:Int) ≤ (j:Int)) = true:=decide_eq_true (by omega);clear hp;go_wp2_with fail;refine (atR_any 15 (j:Int) _).mono ?_;rintro e0 w5 ⟨rfl,hbb⟩;have hP5:=(HP.out 0).belowS hbb;have hQ5:=(HQ.out 0).belowS hbb;have hb5:=below_then (HB.out 0) hbb (Below.size (HB.out 0));clear hbb;obtain ⟨q1,q2,q3⟩:=hQ5.rules;obtain ⟨p1,p2,p3⟩:=hP5.rules;unfold flt;go_wp2_with fail;have hP6:=(hP5.far (p:=⟨w.heap.size + 1,2,none⟩) (by simp) (.int .i64 15)).far (p:=⟨w.heap.size + 1,3,none⟩) (by simp) (.int .i64 (j:Int));have hb6:=(hb5.setCell (p:=⟨w.heap.size + 1,2,none⟩) (Nat.le_succ _) (.int .i64 15)).setCell (p:=⟨w.heap.size + 1,3,none⟩) (Nat.le_succ _) (.int .i64 (j:Int));exact ret_blk rfl rfl (hP6.set4 (.int .i64 7) (.int .i64 0) (.int .i64 15) (.int .i64 (j:Int))) _ Tryz.underlying188 rfl (by kernel_rfl) rfl (PPost.err HR.out (below_set4 hb6 (Nat.le_refl _) _ _ _ _) rfl (by omega))
   ·have HR:=hid (show lexStr 1 (l.drop i) = .ok (7,j - i + q.length) from by rw [HLX.out,← HS.out,se_pre q raw hq0 l j _ hp]);clear hp;go_wp2_with fail;exact ret_blk rfl rfl ((Blk.new w 188 #[.int .i64 7,.int .i64 ((j:Int) + q.length),.int .i64 0,.int .i64 0]).alloc (.cells #[.int .i64 7,.int .i64 ((j:Int) + q.length),.int .i64 0,.int .i64 0] 188)) _ Tryz.underlying188 rfl (by kernel_rfl) rfl (PPost.ok HR.out (((Below.refl _ w).alloc (Nat.le_refl _) _).alloc (by simp) _) rfl (by omega))
end Go.Proofs.YtonehlkiackhcaaGreatDoor
