/- The literals: which constants are well formed, as the reference tells it, at more kinds. Nothing is claimed here. -/
import Derived.Test.YtonehlkiackhcaaGreatDoorLitVb
set_option linter.unusedVariables false
set_option linter.unusedSimpArgs false
set_option maxRecDepth 100000
set_option maxHeartbeats 16000000
namespace Go.Proofs.YtonehlkiackhcaaGreatDoor
open Go.RowKit Go.Lib Go.Sort
theorem cfault3_any {w : World} (n1 n2 : Bool) (ln ld : List Nat) (A1 A2 : Option Addr) (c1 c2:Nat) (t : List UInt8) (r:Int) (hl1 : ln.length ≤ 9223372036854775807) (hl2 : ld.length ≤ 9223372036854775807) (ht : t.length ≤ 9223372036854775807) (hrn : Row w A1 (u32s ln)) (hrd : Row w A2 (u32s ld)) (hT : Tabs w) :
  Calls Tryz.prog 30 #[.agg (valD 3 n1 (.slice A1 ln.length c1) n2 (.slice A2 ld.length c2) t r)] w fun e w' => e = .returned (flt (cfR t (validV 3 n1 n2 ln ld t r)).1 (cfR t (validV 3 n1 n2 ln ld t r)).2)∧Below w.heap.size w w':=by
 have hC:=FiC.new w (valD 3 n1 (.slice A1 ln.length c1) n2 (.slice A2 ld.length c2) t r);obtain ⟨v1,v2,v3⟩:=hC.v.rules;obtain ⟨VV,hVV⟩ : ∃ b,validV 3 n1 n2 ln ld t r = b:=⟨_,rfl⟩;rw [hVV];have HVV:=hid hVV;clear hVV;unfold valD at *
 go_enter Tryz.func30,Tryz.ntmps30;have b1 : (n1 = true∨n1 = false):=by cases n1 <;> simp
 have s0 : Hid (okK (!n1 && !n2) ln ld 0 = (!n1 && !n2)):=hid (by simp [okK]);have hz : w.heap.size + 1 + 1 = w.heap.size + 2:=rfl;rcases n1 with _ | _
 ·rcases n2 with _ | _
  ·go_wp2_with fail;have hB4:=Blk.new ((w.alloc (.cells #[.int .i64 3,.bool false,.slice A1 ln.length c1,.bool false,.slice A2 ld.length c2,.string ⟨t.toArray⟩,.int .i64 r] 26)).alloc (.cells #[.int .i64 0,.int .i64 0] 29)) 22 #[.slice A1 ln.length c1,.slice A2 ld.length c2];have hr1:=hrn.keepB (hC.bel.alloc hC.bel.size (.cells #[.slice A1 ln.length c1,.slice A2 ld.length c2] 22));have hr2:=hrd.keepB (hC.bel.alloc hC.bel.size (.cells #[.slice A1 ln.length c1,.slice A2 ld.length c2] 22));obtain ⟨W3,hW3⟩ : ∃ W3,((w.alloc (.cells #[.int .i64 3,.bool false,.slice A1 ln.length c1,.bool false,.slice A2 ld.length c2,.string ⟨t.toArray⟩,.int .i64 r] 26)).alloc (.cells #[.int .i64 0,.int .i64 0] 29)).alloc (.cells #[.slice A1 ln.length c1,.slice A2 ld.length c2] 22) = W3:=⟨_,rfl⟩;rw [show ((w.alloc (.cells #[.int .i64 3,.bool false,.slice A1 ln.length c1,.bool false,.slice A2 ld.length c2,.string ⟨t.toArray⟩,.int .i64 r] 26)).alloc (.cells #[.int .i64 0,.int .i64 0] 29)).heap.size = w.heap.size + 2 from by simp] at hB4;rw [hW3] at hB4 hr1 hr2 ⊢;have hC3 : FiC w #[.int .i64 3,.bool false,.slice A1 ln.length c1,.bool false,.slice A2 ld.length c2,.string ⟨t.toArray⟩,.int .i64 r] W3:=(by rw [← hW3]; exact hC.step ((Below.refl _ _).alloc (Nat.le_refl _) _));have hT3:=hT.keepB hC3.bel;have hg0:=hB4.cell 0;have hg1:=hB4.cell 1;clear hW3 v1 v2 v3
   go_loop [3,5,33] (fun ok _ i => ∃ k : Nat,k ≤ 2∧i = .int .i64 (k:Int)∧ok = .bool (okK true ln ld k)) (fun _ _ i => 2 - (RowKit.intOf i).toNat)
   case atStart => exact ⟨0,by omega,rfl,by simp [okK]⟩
   case round =>
    obtain ⟨k,hk,rfl,rfl⟩:=hrel;rcases (show k = 0∨k = 1∨k = 2 by omega) with rfl | rfl | rfl
    ·rw [show okK true ln ld 0 = true from by simp [okK]];have HW1 : Hid (True = True):=hid rfl;rcases List.eq_nil_or_concat ln with hnil | ⟨a,x,hax⟩
     ·subst hnil;go_wp2_with fail
      go_round
      case rel => exact ⟨1,by omega,rfl,by simp [okK,wellV_nil,HW1.out]⟩
      case measure => simp [RowKit.intOf]
     ·rw [List.concat_eq_append] at hax;subst hax;obtain ⟨b,off,rfl,hc⟩:=row_u32 hr1 (j:=a.length) (by simp);rw [show (a ++ [x])[a.length]'(by simp) = x from by simp] at hc;have HW:=hid (show wellV (a ++ [x]) = (decide (a.length + 1 ≤ 128) && decide (x ≠ 0)) from by unfold wellV; simp);have hlen : (a ++ [x]).length = a.length + 1:=(by simp);rw [hlen] at hg0 ⊢;have hz : ((a.length:Int) + 1 == 0) = false:=(by rw [beq_eq_false_iff_ne]; omega);clear hlen
      by_cases h1 : a.length + 1 ≤ 128
      ·have d1 : decide ((a.length:Int) + 1 ≤ 128) = true:=decide_eq_true (by omega);have H1:=hid h1
       by_cases h2 : x = 0
       ·subst h2;go_wp2_with fail
        go_round
        case rel => exact ⟨1,by omega,rfl,by simp [okK,HW.out,HW1.out]⟩
        case measure => simp [RowKit.intOf]
       ·have d2 : decide ((0:Int) < (x:Int)) = true:=decide_eq_true (by omega);have H2:=hid h2;clear h2;go_wp2_with fail
        go_round
        case rel => exact ⟨1,by omega,rfl,by have e1:=HW.out; rw [decide_eq_true H1.out,decide_eq_true (p:=x ≠ 0) H2.out] at e1; simp [okK,e1,HW1.out]; exact Nat.pos_of_ne_zero H2.out⟩
        case measure => simp [RowKit.intOf]
      ·have d1 : decide ((a.length:Int) + 1 ≤ 128) = false:=decide_eq_false (by omega);have H1:=hid h1;go_wp2_with fail
       go_round
       case rel => exact ⟨1,by omega,rfl,by have:=H1.out; simp [okK,HW.out,HW1.out]; omega⟩
       case measure => simp [RowKit.intOf]
    ·obtain ⟨W1,hW1⟩ : ∃ W1,wellV ln = W1:=⟨_,rfl⟩;rw [show okK true ln ld 1 = W1 from by simp [okK,hW1]];have HW1:=hid hW1;clear hW1;rcases W1 with _ | _
     ·go_wp2_with fail
      go_round
      case rel => exact ⟨2,by omega,rfl,by simp [okK,HW1.out]⟩
      case measure => simp [RowKit.intOf]
     ·rcases List.eq_nil_or_concat ld with hnil | ⟨a,x,hax⟩
      ·subst hnil;go_wp2_with fail
       go_round
       case rel => exact ⟨2,by omega,rfl,by simp [okK,wellV_nil,HW1.out]⟩
       case measure => simp [RowKit.intOf]
      ·rw [List.concat_eq_append] at hax;subst hax;obtain ⟨b,off,rfl,hc⟩:=row_u32 hr2 (j:=a.length) (by simp);rw [show (a ++ [x])[a.length]'(by simp) = x from by simp] at hc;have HW:=hid (show wellV (a ++ [x]) = (decide (a.length + 1 ≤ 128) && decide (x ≠ 0)) from by unfold wellV; simp);have hlen : (a ++ [x]).length = a.length + 1:=(by simp);rw [hlen] at hg1 ⊢;have hz : ((a.length:Int) + 1 == 0) = false:=(by rw [beq_eq_false_iff_ne]; omega);clear hlen
       by_cases h1 : a.length + 1 ≤ 128
       ·have d1 : decide ((a.length:Int) + 1 ≤ 128) = true:=decide_eq_true (by omega);have H1:=hid h1
        by_cases h2 : x = 0
        ·subst h2;go_wp2_with fail
         go_round
         case rel => exact ⟨2,by omega,rfl,by simp [okK,HW.out,HW1.out]⟩
         case measure => simp [RowKit.intOf]
        ·have d2 : decide ((0:Int) < (x:Int)) = true:=decide_eq_true (by omega);have H2:=hid h2;clear h2;go_wp2_with fail
         go_round
         case rel => exact ⟨2,by omega,rfl,by have e1:=HW.out; rw [decide_eq_true H1.out,decide_eq_true (p:=x ≠ 0) H2.out] at e1; simp [okK,e1,HW1.out]; exact Nat.pos_of_ne_zero H2.out⟩
         case measure => simp [RowKit.intOf]
       ·have d1 : decide ((a.length:Int) + 1 ≤ 128) = false:=decide_eq_false (by omega);have H1:=hid h1;go_wp2_with fail
        go_round
        case rel => exact ⟨2,by omega,rfl,by have:=H1.out; simp [okK,HW.out,HW1.out]; omega⟩
        case measure => simp [RowKit.intOf]
    ·obtain ⟨W1,hW1⟩ : ∃ W1,okK true ln ld 2 = W1:=⟨_,rfl⟩;rw [hW1];have HW1:=hid hW1;clear hW1;rcases W1 with _ | _
     ·go_wp2_with fail;refine (atR_any 6 (-1) _).mono ?_;rintro e w9 ⟨rfl,hbb⟩;unfold flt;have hC9:=hC3.step hbb;obtain ⟨p1,p2,p3⟩:=hC9.p.rules;go_wp2_with fail;have HF : VV = false:=by
       have h1:=HVV.out;have h2:=HW1.out;simp [okK] at h2;rw [← h1]
       by_cases h3 : wellV ln = true
       ·simp [validV,h3,h2 h3]
       ·simp [validV,h3]
      exact ret_blk rfl rfl ((hC9.p.set_ 0 (.int .i64 6)).set_ 1 (.int .i64 (-1))) _ Tryz.underlying29 rfl (by kernel_rfl) rfl ⟨by rw [HF]; rfl,(hC9.bel.setCell (p:=⟨w.heap.size + 1,0,none⟩) (Nat.le_succ _) _).setCell (p:=⟨w.heap.size + 1,1,none⟩) (Nat.le_succ _) _⟩
     ·have e1 : wellV ln = true:=(by have h2:=HW1.out; simp [okK] at h2; exact h2.1);have e2 : wellV ld = true:=(by have h2:=HW1.out; simp [okK] at h2; exact h2.2);have E1:=hid e1;have E2:=hid e2;clear e1 e2 hg0 hg1 hr1 hr2 hB4 hrn hrd hT;obtain ⟨v1,v2,v3⟩:=hC3.v.rules;obtain ⟨m2,hm2⟩ : ∃ m,ld.length = m:=⟨_,rfl⟩;rw [hm2] at hC3 v1 ⊢;have HM2:=hid hm2;clear hm2;obtain ⟨m1,hm1⟩ : ∃ m,ln.length = m:=⟨_,rfl⟩;rw [hm1] at hC3 v1 ⊢;have HM1:=hid hm1;clear hm1
      by_cases hz1 : m1 = 0
      ·have b1 : ((m1:Int) == 0) = true:=(by rw [beq_iff_eq]; omega);have HZ1 : Hid (m1 = 0):=hid hz1;subst hz1
       by_cases hz2 : m2 = 0
       ·have b2 : ((m2:Int) == 0) = true:=(by rw [beq_iff_eq]; omega);have HZ : Hid (m2 = 0):=hid hz2;subst hz2
        by_cases hzt : t = []
        ·subst hzt
         by_cases hzr : r = 0
         ·subst hzr;have HF : VV = true:=by
           rw [← HVV.out];simp [validV,E1.out,E2.out,wellV_nil]
          obtain ⟨p1,p2,p3⟩:=hC3.p.rules;go_wp2_with fail;exact ret_blk rfl rfl ((hC3.p.set_ 0 (.int .i64 0)).set_ 1 (.int .i64 0)) _ Tryz.underlying29 rfl (by kernel_rfl) rfl ⟨(by first | rfl | (rw [HF]; rfl)),(hC3.bel.setCell (p:=⟨w.heap.size + 1,0,none⟩) (Nat.le_succ _) _).setCell (p:=⟨w.heap.size + 1,1,none⟩) (Nat.le_succ _) _⟩
         ·have r1 : (r == 0) = false:=(by rw [beq_eq_false_iff_ne]; exact hzr);have HR:=hid hzr
          by_cases hr1 : r = 1
          ·subst hr1;go_wp2_with fail;refine (atR_any 6 (-1) _).mono ?_;rintro e w9 ⟨rfl,hbb⟩;unfold flt;have hC9:=hC3.step hbb;obtain ⟨p1,p2,p3⟩:=hC9.p.rules;go_wp2_with fail;have HF : VV = false:=(by rw [← HVV.out]; simp [validV]);exact ret_blk rfl rfl ((hC9.p.set_ 0 (.int .i64 6)).set_ 1 (.int .i64 (-1))) _ Tryz.underlying29 rfl (by kernel_rfl) rfl ⟨by rw [HF]; rfl,(hC9.bel.setCell (p:=⟨w.heap.size + 1,0,none⟩) (Nat.le_succ _) _).setCell (p:=⟨w.heap.size + 1,1,none⟩) (Nat.le_succ _) _⟩
          ·have r2 : (r == 1) = false:=(by rw [beq_eq_false_iff_ne]; exact hr1);have HR1:=hid hr1;go_wp2_with fail;refine (atR_any 6 (-1) _).mono ?_;rintro e w9 ⟨rfl,hbb⟩;unfold flt;have hC9:=hC3.step hbb;obtain ⟨p1,p2,p3⟩:=hC9.p.rules;go_wp2_with fail;have HF : VV = false:=(by rw [← HVV.out]; simp [validV,HR.out,HR1.out]);exact ret_blk rfl rfl ((hC9.p.set_ 0 (.int .i64 6)).set_ 1 (.int .i64 (-1))) _ Tryz.underlying29 rfl (by kernel_rfl) rfl ⟨by rw [HF]; rfl,(hC9.bel.setCell (p:=⟨w.heap.size + 1,0,none⟩) (Nat.le_succ _) _).setCell (p:=⟨w.heap.size + 1,1,none⟩) (Nat.le_succ _) _⟩
        ·have t1 : (t == []) = false:=(by rw [beq_eq_false_iff_ne]; exact hzt);have t3 : t.isEmpty = false:=by cases t with
          | nil => exact absurd rfl hzt
          | cons a r => rfl
         have HTT:=hid hzt;go_wp2_with fail;refine (atR_any 6 (-1) _).mono ?_;rintro e w9 ⟨rfl,hbb⟩;unfold flt;have hC9:=hC3.step hbb;obtain ⟨p1,p2,p3⟩:=hC9.p.rules;go_wp2_with fail;have HF : VV = false:=(by rw [← HVV.out]; simp [validV,HTT.out]);exact ret_blk rfl rfl ((hC9.p.set_ 0 (.int .i64 6)).set_ 1 (.int .i64 (-1))) _ Tryz.underlying29 rfl (by kernel_rfl) rfl ⟨by rw [HF]; rfl,(hC9.bel.setCell (p:=⟨w.heap.size + 1,0,none⟩) (Nat.le_succ _) _).setCell (p:=⟨w.heap.size + 1,1,none⟩) (Nat.le_succ _) _⟩
       ·have b2 : ((m2:Int) == 0) = false:=by rw [beq_eq_false_iff_ne]; omega
        by_cases hzt : t = []
        ·subst hzt
         by_cases hzr : r = 0
         ·subst hzr;have HF : VV = true:=by
           rw [← HVV.out];simp [validV,E1.out,E2.out,wellV_nil]
          obtain ⟨p1,p2,p3⟩:=hC3.p.rules;go_wp2_with fail;exact ret_blk rfl rfl ((hC3.p.set_ 0 (.int .i64 0)).set_ 1 (.int .i64 0)) _ Tryz.underlying29 rfl (by kernel_rfl) rfl ⟨(by first | rfl | (rw [HF]; rfl)),(hC3.bel.setCell (p:=⟨w.heap.size + 1,0,none⟩) (Nat.le_succ _) _).setCell (p:=⟨w.heap.size + 1,1,none⟩) (Nat.le_succ _) _⟩
         ·have r1 : (r == 0) = false:=(by rw [beq_eq_false_iff_ne]; exact hzr);have HR:=hid hzr
          by_cases hr1 : r = 1
          ·subst hr1;go_wp2_with fail;refine (atR_any 6 (-1) _).mono ?_;rintro e w9 ⟨rfl,hbb⟩;unfold flt;have hC9:=hC3.step hbb;obtain ⟨p1,p2,p3⟩:=hC9.p.rules;go_wp2_with fail;have HF : VV = false:=(by rw [← HVV.out]; simp [validV]);exact ret_blk rfl rfl ((hC9.p.set_ 0 (.int .i64 6)).set_ 1 (.int .i64 (-1))) _ Tryz.underlying29 rfl (by kernel_rfl) rfl ⟨by rw [HF]; rfl,(hC9.bel.setCell (p:=⟨w.heap.size + 1,0,none⟩) (Nat.le_succ _) _).setCell (p:=⟨w.heap.size + 1,1,none⟩) (Nat.le_succ _) _⟩
          ·have r2 : (r == 1) = false:=(by rw [beq_eq_false_iff_ne]; exact hr1);have HR1:=hid hr1;go_wp2_with fail;refine (atR_any 6 (-1) _).mono ?_;rintro e w9 ⟨rfl,hbb⟩;unfold flt;have hC9:=hC3.step hbb;obtain ⟨p1,p2,p3⟩:=hC9.p.rules;go_wp2_with fail;have HF : VV = false:=(by rw [← HVV.out]; simp [validV,HR.out,HR1.out]);exact ret_blk rfl rfl ((hC9.p.set_ 0 (.int .i64 6)).set_ 1 (.int .i64 (-1))) _ Tryz.underlying29 rfl (by kernel_rfl) rfl ⟨by rw [HF]; rfl,(hC9.bel.setCell (p:=⟨w.heap.size + 1,0,none⟩) (Nat.le_succ _) _).setCell (p:=⟨w.heap.size + 1,1,none⟩) (Nat.le_succ _) _⟩
        ·have t1 : (t == []) = false:=(by rw [beq_eq_false_iff_ne]; exact hzt);have t3 : t.isEmpty = false:=by cases t with
          | nil => exact absurd rfl hzt
          | cons a r => rfl
         have HTT:=hid hzt;go_wp2_with fail;refine (atR_any 6 (-1) _).mono ?_;rintro e w9 ⟨rfl,hbb⟩;unfold flt;have hC9:=hC3.step hbb;obtain ⟨p1,p2,p3⟩:=hC9.p.rules;go_wp2_with fail;have HF : VV = false:=(by rw [← HVV.out]; simp [validV,HTT.out]);exact ret_blk rfl rfl ((hC9.p.set_ 0 (.int .i64 6)).set_ 1 (.int .i64 (-1))) _ Tryz.underlying29 rfl (by kernel_rfl) rfl ⟨by rw [HF]; rfl,(hC9.bel.setCell (p:=⟨w.heap.size + 1,0,none⟩) (Nat.le_succ _) _).setCell (p:=⟨w.heap.size + 1,1,none⟩) (Nat.le_succ _) _⟩
      ·have b1 : ((m1:Int) == 0) = false:=by rw [beq_eq_false_iff_ne]; omega
       by_cases hz2 : m2 = 0
       ·have b2 : ((m2:Int) == 0) = true:=(by rw [beq_iff_eq]; omega);have HZ : Hid (m2 = 0):=hid hz2;subst hz2
        by_cases hzt : t = []
        ·subst hzt
         by_cases hzr : r = 0
         ·subst hzr;have HF : VV = true:=by
           rw [← HVV.out];simp [validV,E1.out,E2.out,wellV_nil]
          obtain ⟨p1,p2,p3⟩:=hC3.p.rules;go_wp2_with fail;exact ret_blk rfl rfl ((hC3.p.set_ 0 (.int .i64 0)).set_ 1 (.int .i64 0)) _ Tryz.underlying29 rfl (by kernel_rfl) rfl ⟨(by first | rfl | (rw [HF]; rfl)),(hC3.bel.setCell (p:=⟨w.heap.size + 1,0,none⟩) (Nat.le_succ _) _).setCell (p:=⟨w.heap.size + 1,1,none⟩) (Nat.le_succ _) _⟩
         ·have r1 : (r == 0) = false:=(by rw [beq_eq_false_iff_ne]; exact hzr);have HR:=hid hzr
          by_cases hr1 : r = 1
          ·subst hr1;go_wp2_with fail;refine (atR_any 6 (-1) _).mono ?_;rintro e w9 ⟨rfl,hbb⟩;unfold flt;have hC9:=hC3.step hbb;obtain ⟨p1,p2,p3⟩:=hC9.p.rules;go_wp2_with fail;have HF : VV = false:=(by rw [← HVV.out]; simp [validV]);exact ret_blk rfl rfl ((hC9.p.set_ 0 (.int .i64 6)).set_ 1 (.int .i64 (-1))) _ Tryz.underlying29 rfl (by kernel_rfl) rfl ⟨by rw [HF]; rfl,(hC9.bel.setCell (p:=⟨w.heap.size + 1,0,none⟩) (Nat.le_succ _) _).setCell (p:=⟨w.heap.size + 1,1,none⟩) (Nat.le_succ _) _⟩
          ·have r2 : (r == 1) = false:=(by rw [beq_eq_false_iff_ne]; exact hr1);have HR1:=hid hr1;go_wp2_with fail;refine (atR_any 6 (-1) _).mono ?_;rintro e w9 ⟨rfl,hbb⟩;unfold flt;have hC9:=hC3.step hbb;obtain ⟨p1,p2,p3⟩:=hC9.p.rules;go_wp2_with fail;have HF : VV = false:=(by rw [← HVV.out]; simp [validV,HR.out,HR1.out]);exact ret_blk rfl rfl ((hC9.p.set_ 0 (.int .i64 6)).set_ 1 (.int .i64 (-1))) _ Tryz.underlying29 rfl (by kernel_rfl) rfl ⟨by rw [HF]; rfl,(hC9.bel.setCell (p:=⟨w.heap.size + 1,0,none⟩) (Nat.le_succ _) _).setCell (p:=⟨w.heap.size + 1,1,none⟩) (Nat.le_succ _) _⟩
        ·have t1 : (t == []) = false:=(by rw [beq_eq_false_iff_ne]; exact hzt);have t3 : t.isEmpty = false:=by cases t with
          | nil => exact absurd rfl hzt
          | cons a r => rfl
         have HTT:=hid hzt;go_wp2_with fail;refine (atR_any 6 (-1) _).mono ?_;rintro e w9 ⟨rfl,hbb⟩;unfold flt;have hC9:=hC3.step hbb;obtain ⟨p1,p2,p3⟩:=hC9.p.rules;go_wp2_with fail;have HF : VV = false:=(by rw [← HVV.out]; simp [validV,HTT.out]);exact ret_blk rfl rfl ((hC9.p.set_ 0 (.int .i64 6)).set_ 1 (.int .i64 (-1))) _ Tryz.underlying29 rfl (by kernel_rfl) rfl ⟨by rw [HF]; rfl,(hC9.bel.setCell (p:=⟨w.heap.size + 1,0,none⟩) (Nat.le_succ _) _).setCell (p:=⟨w.heap.size + 1,1,none⟩) (Nat.le_succ _) _⟩
       ·have b2 : ((m2:Int) == 0) = false:=by rw [beq_eq_false_iff_ne]; omega
        by_cases hzt : t = []
        ·subst hzt
         by_cases hzr : r = 0
         ·subst hzr;have HF : VV = true:=by
           rw [← HVV.out];simp [validV,E1.out,E2.out,wellV_nil]
          obtain ⟨p1,p2,p3⟩:=hC3.p.rules;go_wp2_with fail;exact ret_blk rfl rfl ((hC3.p.set_ 0 (.int .i64 0)).set_ 1 (.int .i64 0)) _ Tryz.underlying29 rfl (by kernel_rfl) rfl ⟨(by first | rfl | (rw [HF]; rfl)),(hC3.bel.setCell (p:=⟨w.heap.size + 1,0,none⟩) (Nat.le_succ _) _).setCell (p:=⟨w.heap.size + 1,1,none⟩) (Nat.le_succ _) _⟩
         ·have r1 : (r == 0) = false:=(by rw [beq_eq_false_iff_ne]; exact hzr);have HR:=hid hzr
          by_cases hr1 : r = 1
          ·subst hr1;go_wp2_with fail;refine (atR_any 6 (-1) _).mono ?_;rintro e w9 ⟨rfl,hbb⟩;unfold flt;have hC9:=hC3.step hbb;obtain ⟨p1,p2,p3⟩:=hC9.p.rules;go_wp2_with fail;have HF : VV = false:=(by rw [← HVV.out]; simp [validV]);exact ret_blk rfl rfl ((hC9.p.set_ 0 (.int .i64 6)).set_ 1 (.int .i64 (-1))) _ Tryz.underlying29 rfl (by kernel_rfl) rfl ⟨by rw [HF]; rfl,(hC9.bel.setCell (p:=⟨w.heap.size + 1,0,none⟩) (Nat.le_succ _) _).setCell (p:=⟨w.heap.size + 1,1,none⟩) (Nat.le_succ _) _⟩
          ·have r2 : (r == 1) = false:=(by rw [beq_eq_false_iff_ne]; exact hr1);have HR1:=hid hr1;go_wp2_with fail;refine (atR_any 6 (-1) _).mono ?_;rintro e w9 ⟨rfl,hbb⟩;unfold flt;have hC9:=hC3.step hbb;obtain ⟨p1,p2,p3⟩:=hC9.p.rules;go_wp2_with fail;have HF : VV = false:=(by rw [← HVV.out]; simp [validV,HR.out,HR1.out]);exact ret_blk rfl rfl ((hC9.p.set_ 0 (.int .i64 6)).set_ 1 (.int .i64 (-1))) _ Tryz.underlying29 rfl (by kernel_rfl) rfl ⟨by rw [HF]; rfl,(hC9.bel.setCell (p:=⟨w.heap.size + 1,0,none⟩) (Nat.le_succ _) _).setCell (p:=⟨w.heap.size + 1,1,none⟩) (Nat.le_succ _) _⟩
        ·have t1 : (t == []) = false:=(by rw [beq_eq_false_iff_ne]; exact hzt);have t3 : t.isEmpty = false:=by cases t with
          | nil => exact absurd rfl hzt
          | cons a r => rfl
         have HTT:=hid hzt;go_wp2_with fail;refine (atR_any 6 (-1) _).mono ?_;rintro e w9 ⟨rfl,hbb⟩;unfold flt;have hC9:=hC3.step hbb;obtain ⟨p1,p2,p3⟩:=hC9.p.rules;go_wp2_with fail;have HF : VV = false:=(by rw [← HVV.out]; simp [validV,HTT.out]);exact ret_blk rfl rfl ((hC9.p.set_ 0 (.int .i64 6)).set_ 1 (.int .i64 (-1))) _ Tryz.underlying29 rfl (by kernel_rfl) rfl ⟨by rw [HF]; rfl,(hC9.bel.setCell (p:=⟨w.heap.size + 1,0,none⟩) (Nat.le_succ _) _).setCell (p:=⟨w.heap.size + 1,1,none⟩) (Nat.le_succ _) _⟩
  ·have hC3:=hC.step ((Below.refl _ _).alloc (Nat.le_refl _) (.cells #[.slice A1 ln.length c1,.slice A2 ld.length c2] 22));go_wp2_with fail
   go_loop [3,5,33] (fun ok _ i => ∃ k : Nat,k ≤ 2∧i = .int .i64 (k:Int)∧ok = .bool false) (fun _ _ i => 2 - (RowKit.intOf i).toNat)
   case atStart => exact ⟨0,by omega,rfl,rfl⟩
   case round =>
    obtain ⟨k,hk,rfl,rfl⟩:=hrel;rcases (show k = 0∨k = 1∨k = 2 by omega) with rfl | rfl | rfl
    ·go_wp2_with fail
     go_round
     case rel => exact ⟨1,by omega,rfl,rfl⟩
     case measure => simp [RowKit.intOf]
    ·go_wp2_with fail
     go_round
     case rel => exact ⟨2,by omega,rfl,rfl⟩
     case measure => simp [RowKit.intOf]
    ·go_wp2_with fail;refine (atR_any 6 (-1) _).mono ?_;rintro e w9 ⟨rfl,hbb⟩;unfold flt;have hC9:=hC3.step hbb;obtain ⟨p1,p2,p3⟩:=hC9.p.rules;go_wp2_with fail;have HF : VV = false:=(by rw [← HVV.out]; simp [validV]);exact ret_blk rfl rfl ((hC9.p.set_ 0 (.int .i64 6)).set_ 1 (.int .i64 (-1))) _ Tryz.underlying29 rfl (by kernel_rfl) rfl ⟨by rw [HF]; rfl,(hC9.bel.setCell (p:=⟨w.heap.size + 1,0,none⟩) (Nat.le_succ _) _).setCell (p:=⟨w.heap.size + 1,1,none⟩) (Nat.le_succ _) _⟩
 ·rcases n2 with _ | _
  ·have hC3:=hC.step ((Below.refl _ _).alloc (Nat.le_refl _) (.cells #[.slice A1 ln.length c1,.slice A2 ld.length c2] 22));go_wp2_with fail
   go_loop [3,5,33] (fun ok _ i => ∃ k : Nat,k ≤ 2∧i = .int .i64 (k:Int)∧ok = .bool false) (fun _ _ i => 2 - (RowKit.intOf i).toNat)
   case atStart => exact ⟨0,by omega,rfl,rfl⟩
   case round =>
    obtain ⟨k,hk,rfl,rfl⟩:=hrel;rcases (show k = 0∨k = 1∨k = 2 by omega) with rfl | rfl | rfl
    ·go_wp2_with fail
     go_round
     case rel => exact ⟨1,by omega,rfl,rfl⟩
     case measure => simp [RowKit.intOf]
    ·go_wp2_with fail
     go_round
     case rel => exact ⟨2,by omega,rfl,rfl⟩
     case measure => simp [RowKit.intOf]
    ·go_wp2_with fail;refine (atR_any 6 (-1) _).mono ?_;rintro e w9 ⟨rfl,hbb⟩;unfold flt;have hC9:=hC3.step hbb;obtain ⟨p1,p2,p3⟩:=hC9.p.rules;go_wp2_with fail;have HF : VV = false:=(by rw [← HVV.out]; simp [validV]);exact ret_blk rfl rfl ((hC9.p.set_ 0 (.int .i64 6)).set_ 1 (.int .i64 (-1))) _ Tryz.underlying29 rfl (by kernel_rfl) rfl ⟨by rw [HF]; rfl,(hC9.bel.setCell (p:=⟨w.heap.size + 1,0,none⟩) (Nat.le_succ _) _).setCell (p:=⟨w.heap.size + 1,1,none⟩) (Nat.le_succ _) _⟩
  ·have hC3:=hC.step ((Below.refl _ _).alloc (Nat.le_refl _) (.cells #[.slice A1 ln.length c1,.slice A2 ld.length c2] 22));go_wp2_with fail
   go_loop [3,5,33] (fun ok _ i => ∃ k : Nat,k ≤ 2∧i = .int .i64 (k:Int)∧ok = .bool false) (fun _ _ i => 2 - (RowKit.intOf i).toNat)
   case atStart => exact ⟨0,by omega,rfl,rfl⟩
   case round =>
    obtain ⟨k,hk,rfl,rfl⟩:=hrel;rcases (show k = 0∨k = 1∨k = 2 by omega) with rfl | rfl | rfl
    ·go_wp2_with fail
     go_round
     case rel => exact ⟨1,by omega,rfl,rfl⟩
     case measure => simp [RowKit.intOf]
    ·go_wp2_with fail
     go_round
     case rel => exact ⟨2,by omega,rfl,rfl⟩
     case measure => simp [RowKit.intOf]
    ·go_wp2_with fail;refine (atR_any 6 (-1) _).mono ?_;rintro e w9 ⟨rfl,hbb⟩;unfold flt;have hC9:=hC3.step hbb;obtain ⟨p1,p2,p3⟩:=hC9.p.rules;go_wp2_with fail;have HF : VV = false:=(by rw [← HVV.out]; simp [validV]);exact ret_blk rfl rfl ((hC9.p.set_ 0 (.int .i64 6)).set_ 1 (.int .i64 (-1))) _ Tryz.underlying29 rfl (by kernel_rfl) rfl ⟨by rw [HF]; rfl,(hC9.bel.setCell (p:=⟨w.heap.size + 1,0,none⟩) (Nat.le_succ _) _).setCell (p:=⟨w.heap.size + 1,1,none⟩) (Nat.le_succ _) _⟩
end Go.Proofs.YtonehlkiackhcaaGreatDoor
