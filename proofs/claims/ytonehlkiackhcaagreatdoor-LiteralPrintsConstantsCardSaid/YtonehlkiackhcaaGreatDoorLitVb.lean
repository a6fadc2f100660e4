/- The literals: which constants are well formed, as the reference tells it. Nothing is claimed here. -/
import Derived.Test.YtonehlkiackhcaaGreatDoorLitIr
set_option linter.unusedVariables false
set_option linter.unusedSimpArgs false
set_option maxRecDepth 100000
set_option maxHeartbeats 16000000
namespace Go.Proofs.YtonehlkiackhcaaGreatDoor
section
open Go.RowKit Go.Lib Go.Sort
theorem lprint3b_any {w : World} (n1 n2 : Bool) (ln ld : List Nat) (A1 A2 : Option Addr) (c1 c2:Nat) (t : List UInt8) (r:Int) (hl1 : ln.length ≤ 9223372036854775807) (hl2 : ld.length ≤ 9223372036854775807) (ht : t.length ≤ 9223372036854775807) (hrn : Row w A1 (u32s ln)) (hrd : Row w A2 (u32s ld)) (hT : Tabs w) (hv : validV 3 n1 n2 ln ld t r = false) :
  Calls Tryz.prog 8 #[.agg (valD 3 n1 (.slice A1 ln.length c1) n2 (.slice A2 ld.length c2) t r)] w (LPPost w ([],6,-1)):=by
 have hC:=FiC.new w (valD 3 n1 (.slice A1 ln.length c1) n2 (.slice A2 ld.length c2) t r);obtain ⟨v1,v2,v3⟩:=hC.v.rules;have HV:=hid (fun W hr1 hr2 hT => lvalid3_all (w:=W) n1 n2 ln ld A1 A2 c1 c2 t r hl1 hl2 ht hr1 hr2 hT);rw [hv] at HV;clear hv;unfold valD at *
 go_enter Tryz.func8,Tryz.ntmps8;go_wp2_with fail;refine (HV.out _ (hrn.keepB hC.bel) (hrd.keepB hC.bel) (hT.keepB hC.bel)).mono ?_;rintro e w2 ⟨rfl,hbb⟩;have hC2:=hC.step hbb;clear hC hbb v1 v2 v3 HV;obtain ⟨v1,v2,v3⟩:=hC2.v.rules;go_wp2_with fail;refine (lfault_any 6 (-1) _).mono ?_;rintro e w9 ⟨rfl,hbb9⟩;have hC9:=hC2.step hbb9;clear hC2 hbb9 v1 v2 v3;have hP9:=hC9.p;have hb9:=hC9.bel;obtain ⟨p1,p2,p3⟩:=hP9.rules;go_wp2_with fail;exact ret_tmp_blk rfl rfl ((hP9.set_ 0 (.int .i64 6)).set_ 1 (.int .i64 (-1))) _ Tryz.underlying29 rfl (by kernel_rfl) rfl _ rfl ⟨rfl,(hb9.setCell (p:=⟨w.heap.size + 1,0,none⟩) (Nat.le_succ _) (.int .i64 6)).setCell (p:=⟨w.heap.size + 1,1,none⟩) (Nat.le_succ _) (.int .i64 (-1))⟩
theorem lprintx_any {w : World} (k:Int) (hk : k < 0∨5 < k) (n1 n2 : Bool) (N D : Value) (t : List UInt8) (r:Int) :
  Calls Tryz.prog 8 #[.agg (valD k n1 N n2 D t r)] w (LPPost w ([],13,-1)):=by
 have hC:=FiC.new w (valD k n1 N n2 D t r);obtain ⟨v1,v2,v3⟩:=hC.v.rules;unfold valD at *
 go_enter Tryz.func8,Tryz.ntmps8;rcases hk with hk | hk
 ·have d1 : decide (k < 0) = true:=decide_eq_true hk;go_wp2_with fail;refine (lfault_any 13 (-1) _).mono ?_;rintro e w9 ⟨rfl,hbb9⟩;have hC9:=hC.step hbb9;clear hC hbb9 v1 v2 v3;have hP9:=hC9.p;have hb9:=hC9.bel;obtain ⟨p1,p2,p3⟩:=hP9.rules;go_wp2_with fail;exact ret_tmp_blk rfl rfl ((hP9.set_ 0 (.int .i64 13)).set_ 1 (.int .i64 (-1))) _ Tryz.underlying29 rfl (by kernel_rfl) rfl _ rfl ⟨rfl,(hb9.setCell (p:=⟨w.heap.size + 1,0,none⟩) (Nat.le_succ _) (.int .i64 13)).setCell (p:=⟨w.heap.size + 1,1,none⟩) (Nat.le_succ _) (.int .i64 (-1))⟩
 ·have d1 : decide (k < 0) = false:=decide_eq_false (by omega);have d2 : decide (5 < k) = true:=decide_eq_true hk;go_wp2_with fail;refine (lfault_any 13 (-1) _).mono ?_;rintro e w9 ⟨rfl,hbb9⟩;have hC9:=hC.step hbb9;clear hC hbb9 v1 v2 v3;have hP9:=hC9.p;have hb9:=hC9.bel;obtain ⟨p1,p2,p3⟩:=hP9.rules;go_wp2_with fail;exact ret_tmp_blk rfl rfl ((hP9.set_ 0 (.int .i64 13)).set_ 1 (.int .i64 (-1))) _ Tryz.underlying29 rfl (by kernel_rfl) rfl _ rfl ⟨rfl,(hb9.setCell (p:=⟨w.heap.size + 1,0,none⟩) (Nat.le_succ _) (.int .i64 13)).setCell (p:=⟨w.heap.size + 1,1,none⟩) (Nat.le_succ _) (.int .i64 (-1))⟩
def finO : Except Int (List UInt8) → List UInt8 × Int × Int
 | .error c => ([],c,-1)
 | .ok t => if 600 < t.length then ([],3,-1) else (t,0,0)
def PrR (k:Int) (n1 n2 : Bool) (ln ld : List Nat) (t : List UInt8) (r:Int) (R : List UInt8 × Int × Int) : Prop :=
 if k < 0∨5 < k then R = ([],13,-1)
 else if validV k.toNat n1 n2 ln ld t r = false then R = ([],6,-1)
 else if k = 0 then R = pr0 ln t r
 else if k = 1 then R = pr1 ln t r
 else if k = 2 then R = pr2 ln t r
 else if k = 3 then ∃ X,FinP (V 4294967296 ln) (V 4294967296 ld) X∧R = finO X
 else if k = 4 then R = pr4 ln t r
 else R = pr5 ln t r
theorem PrR.one {k : Int} {n1 n2 : Bool} {ln ld : List Nat} {t : List UInt8} {r : Int} {R R' : List UInt8 × Int × Int} (h : PrR k n1 n2 ln ld t r R) (h' : PrR k n1 n2 ln ld t r R') : R = R':=by
 unfold PrR at h h'
 by_cases hk : k < 0∨5 < k
 ·rw [if_pos hk] at h h';rw [h,h']
 ·rw [if_neg hk] at h h'
  by_cases hv : validV k.toNat n1 n2 ln ld t r = false
  ·rw [if_pos hv] at h h';rw [h,h']
  ·rw [if_neg hv] at h h'
   by_cases h0 : k = 0
   ·rw [if_pos h0] at h h';rw [h,h']
   ·rw [if_neg h0] at h h'
    by_cases h1 : k = 1
    ·rw [if_pos h1] at h h';rw [h,h']
    ·rw [if_neg h1] at h h'
     by_cases h2 : k = 2
     ·rw [if_pos h2] at h h';rw [h,h']
     ·rw [if_neg h2] at h h'
      by_cases h3 : k = 3
      ·rw [if_pos h3] at h h';obtain ⟨X,x1,rfl⟩:=h;obtain ⟨Y,y1,rfl⟩:=h';rw [x1.one y1]
      ·rw [if_neg h3] at h h'
       by_cases h4 : k = 4
       ·rw [if_pos h4] at h h';rw [h,h']
       ·rw [if_neg h4] at h h';rw [h,h']
theorem PrR.mk0 {n1 n2 : Bool} {ln ld : List Nat} {t : List UInt8} {r : Int} : PrR 0 n1 n2 ln ld t r (if validV 0 n1 n2 ln ld t r then pr0 ln t r else ([],6,-1)):=by
 unfold PrR;rw [if_neg (by omega)];show if validV 0 n1 n2 ln ld t r = false then _ else _
 cases validV 0 n1 n2 ln ld t r <;> rfl
theorem PrR.mk1 {n1 n2 : Bool} {ln ld : List Nat} {t : List UInt8} {r : Int} : PrR 1 n1 n2 ln ld t r (if validV 1 n1 n2 ln ld t r then pr1 ln t r else ([],6,-1)):=by
 unfold PrR;rw [if_neg (by omega)];show if validV 1 n1 n2 ln ld t r = false then _ else _
 cases validV 1 n1 n2 ln ld t r <;> rfl
theorem PrR.mk2 {n1 n2 : Bool} {ln ld : List Nat} {t : List UInt8} {r : Int} : PrR 2 n1 n2 ln ld t r (if validV 2 n1 n2 ln ld t r then pr2 ln t r else ([],6,-1)):=by
 unfold PrR;rw [if_neg (by omega)];show if validV 2 n1 n2 ln ld t r = false then _ else _
 cases validV 2 n1 n2 ln ld t r <;> rfl
theorem PrR.mk4 {n1 n2 : Bool} {ln ld : List Nat} {t : List UInt8} {r : Int} : PrR 4 n1 n2 ln ld t r (if validV 4 n1 n2 ln ld t r then pr4 ln t r else ([],6,-1)):=by
 unfold PrR;rw [if_neg (by omega)];show if validV 4 n1 n2 ln ld t r = false then _ else _
 cases validV 4 n1 n2 ln ld t r <;> rfl
theorem PrR.mk5 {n1 n2 : Bool} {ln ld : List Nat} {t : List UInt8} {r : Int} : PrR 5 n1 n2 ln ld t r (if validV 5 n1 n2 ln ld t r then pr5 ln t r else ([],6,-1)):=by
 unfold PrR;rw [if_neg (by omega)];show if validV 5 n1 n2 ln ld t r = false then _ else _
 cases validV 5 n1 n2 ln ld t r <;> rfl
theorem valid3_form {n1 n2 : Bool} {ln ld : List Nat} {t : List UInt8} {r : Int} (h : validV 3 n1 n2 ln ld t r = true) : n1 = false∧n2 = false∧wellV ln = true∧wellV ld = true∧t = []∧r = 0:=by
 simp [validV] at h;simp [h]
theorem ir_rune (n:Nat) (h : RuneOk n) : IrOk n:=by
 by_cases h2 : n < 128
 ·exact ir_ascii n h2
 ·exact ir_high n h (by omega)
theorem dec_256 : ∀ i : Fin 128,(decodeN (runeB (128 + i.val)).length (bAt (runeB (128 + i.val)) 0) (bAt (runeB (128 + i.val)) 1) (bAt (runeB (128 + i.val)) 2) (bAt (runeB (128 + i.val)) 3)).1 = 128 + i.val:=by decide
theorem rune_256 (r:Nat) (h : r < 256) : RuneOk r:=by
 by_cases h2 : r < 128
 ·exact rune_ascii h2
 ·have h3:=dec_256 ⟨r - 128,by omega⟩;simp only [show 128 + (r - 128) = r by omega] at h3;rw [← decodeL_eq] at h3;have hl:=runeB_len r;have:=rune_ok (runeB r) (by intro e; rw [e] at hl; simp at hl)
  rwa [h3] at this
theorem lprint_any {w : World} (k:Int) (n1 n2 : Bool) (ln ld : List Nat) (A1 A2 : Option Addr) (c1 c2:Nat) (t : List UInt8) (r:Int) (hl1 : ln.length ≤ 9223372036854775807) (hl2 : ld.length ≤ 9223372036854775807) (ht : t.length ≤ 9223372036854775807) (h32 : ∀ x ∈ ln,x < 4294967296) (h32d : ∀ x ∈ ld,x < 4294967296) (hrn : Row w A1 (u32s ln)) (hrd : Row w A2 (u32s ld)) (hT : Tabs w) (htab : Lib.TabIs Tryz.prog w "internal/strconv.uint64pow10" .u64 Lib.pow10Tab) :
  Calls Tryz.prog 8 #[.agg (valD k n1 (.slice A1 ln.length c1) n2 (.slice A2 ld.length c2) t r)] w fun e w' => ∃ R,PrR k n1 n2 ln ld t r R∧LPPost w R e w':=by
 by_cases hk : k < 0∨5 < k
 ·exact (lprintx_any k hk n1 n2 _ _ t r).mono fun e w' h => ⟨_,by unfold PrR; rw [if_pos hk],h⟩
 ·rcases (show k = 0∨k = 1∨k = 2∨k = 3∨k = 4∨k = 5 by omega) with rfl | rfl | rfl | rfl | rfl | rfl
  ·exact (lprint0_any n1 n2 ln ld A1 A2 c1 c2 t r hl1 hl2 ht hrn hrd hT).mono fun e w' h => ⟨_,PrR.mk0,h⟩
  ·exact (lprint1_any n1 n2 ln ld A1 A2 c1 c2 t r hl1 hl2 ht hrn hrd hT).mono fun e w' h => ⟨_,PrR.mk1,h⟩
  ·exact (lprint2_any n1 n2 ln ld A1 A2 c1 c2 t r hl1 hl2 ht hrn hrd hT h32 htab).mono fun e w' h => ⟨_,PrR.mk2,h⟩
  ·cases hv : validV 3 n1 n2 ln ld t r
   ·exact (lprint3b_any n1 n2 ln ld A1 A2 c1 c2 t r hl1 hl2 ht hrn hrd hT hv).mono fun e w' h => ⟨_,by unfold PrR; rw [if_neg hk]; show if validV 3 n1 n2 ln ld t r = false then _ else _; rw [if_pos hv],h⟩
   ·obtain ⟨rfl,rfl,w1,w2,rfl,rfl⟩:=valid3_form hv;have e1:=well_lg w1 h32;have e2:=well_lg w2 h32d;have l1:=well_len w1;have l2:=well_len w2;have H:=lprint3_any (w:=w) (V 4294967296 ln) (V 4294967296 ld) A1 A2 c1 c2 (by rw [e1]; exact l1) (by rw [e2]; exact l2) (by rw [e1]; exact w1) (by rw [e2]; exact w2) (by rw [e1]; exact hrn) (by rw [e2]; exact hrd) htab;rw [e1,e2] at H;refine H.mono ?_;rintro e w' ⟨hb,X,hX,h⟩;refine ⟨finO X,?_,?_,hb⟩
    ·unfold PrR;rw [if_neg hk];show if validV 3 false false ln ld [] 0 = false then _ else _
     rw [if_neg (by rw [hv]; decide)];exact ⟨X,hX,rfl⟩
    ·rcases X with c | t
     ·exact h
     ·rw [h];unfold finO
      by_cases h6 : 600 < t.length
      ·simp only [if_pos h6]
      ·simp only [if_neg h6]
  ·exact (lprint4_any n1 n2 ln ld A1 A2 c1 c2 t r hl1 hl2 ht hrn hrd hT (fun q hq => ir_rune q (runes_ok t q hq))).mono fun e w' h => ⟨_,PrR.mk4,h⟩
  ·exact (lprint5_any n1 n2 ln ld A1 A2 c1 c2 t r hl1 hl2 ht hrn hrd hT (fun q hq => ir_rune q (rune_256 q (octL_lt t q hq)))).mono fun e w' h => ⟨_,PrR.mk5,h⟩
def cfR (t : List UInt8) (b : Bool) : Int × Int:=if b then (if 4000 < t.length then (14,-1) else (0,0)) else (6,-1)
def okK (b : Bool) (ln ld : List Nat) (k:Nat) : Bool:=b && (decide (k = 0) || wellV ln) && (decide (k ≤ 1) || wellV ld)
theorem cfault2_any {w : World} (n1 n2 : Bool) (ln ld : List Nat) (A1 A2 : Option Addr) (c1 c2:Nat) (t : List UInt8) (r:Int) (hl1 : ln.length ≤ 9223372036854775807) (hl2 : ld.length ≤ 9223372036854775807) (ht : t.length ≤ 9223372036854775807) (hrn : Row w A1 (u32s ln)) (hrd : Row w A2 (u32s ld)) (hT : Tabs w) :
  Calls Tryz.prog 30 #[.agg (valD 2 n1 (.slice A1 ln.length c1) n2 (.slice A2 ld.length c2) t r)] w fun e w' => e = .returned (flt (cfR t (validV 2 n1 n2 ln ld t r)).1 (cfR t (validV 2 n1 n2 ln ld t r)).2)∧Below w.heap.size w w':=by
 have hC:=FiC.new w (valD 2 n1 (.slice A1 ln.length c1) n2 (.slice A2 ld.length c2) t r);obtain ⟨v1,v2,v3⟩:=hC.v.rules;obtain ⟨VV,hVV⟩ : ∃ b,validV 2 n1 n2 ln ld t r = b:=⟨_,rfl⟩;rw [hVV];have HVV:=hid hVV;clear hVV;unfold valD at *
 go_enter Tryz.func30,Tryz.ntmps30;have b1 : (n1 = true∨n1 = false):=by cases n1 <;> simp
 have s0 : Hid (okK (!n1 && !n2) ln ld 0 = (!n1 && !n2)):=hid (by simp [okK]);have hz : w.heap.size + 1 + 1 = w.heap.size + 2:=rfl;rcases n1 with _ | _
 ·rcases n2 with _ | _
  ·go_wp2_with fail;have hB4:=Blk.new ((w.alloc (.cells #[.int .i64 2,.bool false,.slice A1 ln.length c1,.bool false,.slice A2 ld.length c2,.string ⟨t.toArray⟩,.int .i64 r] 26)).alloc (.cells #[.int .i64 0,.int .i64 0] 29)) 22 #[.slice A1 ln.length c1,.slice A2 ld.length c2];have hr1:=hrn.keepB (hC.bel.alloc hC.bel.size (.cells #[.slice A1 ln.length c1,.slice A2 ld.length c2] 22));have hr2:=hrd.keepB (hC.bel.alloc hC.bel.size (.cells #[.slice A1 ln.length c1,.slice A2 ld.length c2] 22));obtain ⟨W3,hW3⟩ : ∃ W3,((w.alloc (.cells #[.int .i64 2,.bool false,.slice A1 ln.length c1,.bool false,.slice A2 ld.length c2,.string ⟨t.toArray⟩,.int .i64 r] 26)).alloc (.cells #[.int .i64 0,.int .i64 0] 29)).alloc (.cells #[.slice A1 ln.length c1,.slice A2 ld.length c2] 22) = W3:=⟨_,rfl⟩;rw [show ((w.alloc (.cells #[.int .i64 2,.bool false,.slice A1 ln.length c1,.bool false,.slice A2 ld.length c2,.string ⟨t.toArray⟩,.int .i64 r] 26)).alloc (.cells #[.int .i64 0,.int .i64 0] 29)).heap.size = w.heap.size + 2 from by simp] at hB4;rw [hW3] at hB4 hr1 hr2 ⊢;have hC3 : FiC w #[.int .i64 2,.bool false,.slice A1 ln.length c1,.bool false,.slice A2 ld.length c2,.string ⟨t.toArray⟩,.int .i64 r] W3:=(by rw [← hW3]; exact hC.step ((Below.refl _ _).alloc (Nat.le_refl _) _));have hT3:=hT.keepB hC3.bel;have hg0:=hB4.cell 0;have hg1:=hB4.cell 1;clear hW3 v1 v2 v3
   go_loop [3,5,33] (fun ok _ i => ∃ k : Nat,k ≤ 2∧i = .int .i64 (k:Int)∧ok = .bool (okK true ln ld k)) (fun _ _ i => 2 - (RowKit.intOf i).toNat)
   case atStart => exact ⟨0,by omega,rfl,by simp [okK]⟩
   case round =>
    obtain ⟨k,hk,rfl,rfl⟩:=hrel;rcases (show k = 0∨k = 1∨k = 2 by omega) with rfl | rfl | rfl
    ·rw [show okK true ln ld 0 = true from by simp [okK]];have HW1 : Hid (True = True):=hid rfl;rcases List.eq_nil_or_concat ln with hnil | ⟨a,x,hax⟩
     ·subst hnil;go_wp2_with fail
      go_round
      case rel => exact ⟨1,by omega,rfl,by simp [okK,wellV_nil,HW1.out]⟩
      case measure => simp [RowKit.intOf]
     ·rw [List.concat_eq_append] at hax;subst hax;obtain ⟨b,off,rfl,hc⟩:=row_u32 hr1 (j:=a.length) (by simp);rw [show (a ++ [x])[a.length]'(by simp) = x from by simp] at hc;have HW:=hid (show wellV (a ++ [x]) = (decide (a.length + 1 ≤ 128) && decide (x ≠ 0)) from by unfold wellV; simp);have hlen : (a ++ [x]).length = a.length + 1:=(by simp);rw [hlen] at hg0 ⊢;have hz : ((a.length:Int) + 1 == 0) = false:=(by rw [beq_eq_false_iff_ne]; omega);clear hlen
      by_cases h1 : a.length + 1 ≤ 128
      ·have d1 : decide ((a.length:Int) + 1 ≤ 128) = true:=decide_eq_true (by omega);have H1:=hid h1
       by_cases h2 : x = 0
       ·subst h2;go_wp2_with fail
        go_round
        case rel => exact ⟨1,by omega,rfl,by simp [okK,HW.out,HW1.out]⟩
        case measure => simp [RowKit.intOf]
       ·have d2 : decide ((0:Int) < (x:Int)) = true:=decide_eq_true (by omega);have H2:=hid h2;clear h2;go_wp2_with fail
        go_round
        case rel => exact ⟨1,by omega,rfl,by have e1:=HW.out; rw [decide_eq_true H1.out,decide_eq_true (p:=x ≠ 0) H2.out] at e1; simp [okK,e1,HW1.out]; exact Nat.pos_of_ne_zero H2.out⟩
        case measure => simp [RowKit.intOf]
      ·have d1 : decide ((a.length:Int) + 1 ≤ 128) = false:=decide_eq_false (by omega);have H1:=hid h1;go_wp2_with fail
       go_round
       case rel => exact ⟨1,by omega,rfl,by have:=H1.out; simp [okK,HW.out,HW1.out]; omega⟩
       case measure => simp [RowKit.intOf]
    ·obtain ⟨W1,hW1⟩ : ∃ W1,wellV ln = W1:=⟨_,rfl⟩;rw [show okK true ln ld 1 = W1 from by simp [okK,hW1]];have HW1:=hid hW1;clear hW1;rcases W1 with _ | _
     ·go_wp2_with fail
      go_round
      case rel => exact ⟨2,by omega,rfl,by simp [okK,HW1.out]⟩
      case measure => simp [RowKit.intOf]
     ·rcases List.eq_nil_or_concat ld with hnil | ⟨a,x,hax⟩
      ·subst hnil;go_wp2_with fail
       go_round
       case rel => exact ⟨2,by omega,rfl,by simp [okK,wellV_nil,HW1.out]⟩
       case measure => simp [RowKit.intOf]
      ·rw [List.concat_eq_append] at hax;subst hax;obtain ⟨b,off,rfl,hc⟩:=row_u32 hr2 (j:=a.length) (by simp);rw [show (a ++ [x])[a.length]'(by simp) = x from by simp] at hc;have HW:=hid (show wellV (a ++ [x]) = (decide (a.length + 1 ≤ 128) && decide (x ≠ 0)) from by unfold wellV; simp);have hlen : (a ++ [x]).length = a.length + 1:=(by simp);rw [hlen] at hg1 ⊢;have hz : ((a.length:Int) + 1 == 0) = false:=(by rw [beq_eq_false_iff_ne]; omega);clear hlen
       by_cases h1 : a.length + 1 ≤ 128
       ·have d1 : decide ((a.length:Int) + 1 ≤ 128) = true:=decide_eq_true (by omega);have H1:=hid h1
        by_cases h2 : x = 0
        ·subst h2;go_wp2_with fail
         go_round
         case rel => exact ⟨2,by omega,rfl,by simp [okK,HW.out,HW1.out]⟩
         case measure => simp [RowKit.intOf]
        ·have d2 : decide ((0:Int) < (x:Int)) = true:=decide_eq_true (by omega);have H2:=hid h2;clear h2;go_wp2_with fail
         go_round
         case rel => exact ⟨2,by omega,rfl,by have e1:=HW.out; rw [decide_eq_true H1.out,decide_eq_true (p:=x ≠ 0) H2.out] at e1; simp [okK,e1,HW1.out]; exact Nat.pos_of_ne_zero H2.out⟩
         case measure => simp [RowKit.intOf]
       ·have d1 : decide ((a.length:Int) + 1 ≤ 128) = false:=decide_eq_false (by omega);have H1:=hid h1;go_wp2_with fail
        go_round
        case rel => exact ⟨2,by omega,rfl,by have:=H1.out; simp [okK,HW.out,HW1.out]; omega⟩
        case measure => simp [RowKit.intOf]
    ·obtain ⟨W1,hW1⟩ : ∃ W1,okK true ln ld 2 = W1:=⟨_,rfl⟩;rw [hW1];have HW1:=hid hW1;clear hW1;rcases W1 with _ | _
     ·go_wp2_with fail;refine (atR_any 6 (-1) _).mono ?_;rintro e w9 ⟨rfl,hbb⟩;unfold flt;have hC9:=hC3.step hbb;obtain ⟨p1,p2,p3⟩:=hC9.p.rules;go_wp2_with fail;have HF : VV = false:=by
       have h1:=HVV.out;have h2:=HW1.out;simp [okK] at h2;rw [← h1]
       by_cases h3 : wellV ln = true
       ·simp [validV,h3,h2 h3]
       ·simp [validV,h3]
      exact ret_blk rfl rfl ((hC9.p.set_ 0 (.int .i64 6)).set_ 1 (.int .i64 (-1))) _ Tryz.underlying29 rfl (by kernel_rfl) rfl ⟨by rw [HF]; rfl,(hC9.bel.setCell (p:=⟨w.heap.size + 1,0,none⟩) (Nat.le_succ _) _).setCell (p:=⟨w.heap.size + 1,1,none⟩) (Nat.le_succ _) _⟩
     ·have e1 : wellV ln = true:=(by have h2:=HW1.out; simp [okK] at h2; exact h2.1);have e2 : wellV ld = true:=(by have h2:=HW1.out; simp [okK] at h2; exact h2.2);have E1:=hid e1;have E2:=hid e2;clear e1 e2 hg0 hg1 hr1 hr2 hB4 hrn hrd hT;obtain ⟨v1,v2,v3⟩:=hC3.v.rules;obtain ⟨m2,hm2⟩ : ∃ m,ld.length = m:=⟨_,rfl⟩;rw [hm2] at hC3 v1 ⊢;have HM2:=hid hm2;clear hm2;obtain ⟨m1,hm1⟩ : ∃ m,ln.length = m:=⟨_,rfl⟩;rw [hm1] at hC3 v1 ⊢;clear hm1
      by_cases hz2 : m2 = 0
      ·subst hz2;have HZ : Hid (ld = []):=hid (List.eq_nil_of_length_eq_zero HM2.out)
       by_cases hz1 : m1 = 0
       ·have b1 : ((m1:Int) == 0) = true:=(by rw [beq_iff_eq]; omega);subst hz1
        by_cases hzt : t = []
        ·subst hzt
         by_cases hzr : r = 0
         ·subst hzr;have HF : VV = true:=(by rw [← HVV.out]; simp [validV,HZ.out,E1.out,wellV_nil]);obtain ⟨p1,p2,p3⟩:=hC3.p.rules;go_wp2_with fail;exact ret_blk rfl rfl ((hC3.p.set_ 0 (.int .i64 0)).set_ 1 (.int .i64 0)) _ Tryz.underlying29 rfl (by kernel_rfl) rfl ⟨rfl,(hC3.bel.setCell (p:=⟨w.heap.size + 1,0,none⟩) (Nat.le_succ _) _).setCell (p:=⟨w.heap.size + 1,1,none⟩) (Nat.le_succ _) _⟩
         ·have r1 : (r == 0) = false:=(by rw [beq_eq_false_iff_ne]; exact hzr);have HR:=hid hzr
          by_cases hr1 : r = 1
          ·subst hr1;go_wp2_with fail;refine (atR_any 6 (-1) _).mono ?_;rintro e w9 ⟨rfl,hbb⟩;unfold flt;have hC9:=hC3.step hbb;obtain ⟨p1,p2,p3⟩:=hC9.p.rules;go_wp2_with fail;have HF : VV = false:=(by rw [← HVV.out]; simp [validV]);exact ret_blk rfl rfl ((hC9.p.set_ 0 (.int .i64 6)).set_ 1 (.int .i64 (-1))) _ Tryz.underlying29 rfl (by kernel_rfl) rfl ⟨by rw [HF]; rfl,(hC9.bel.setCell (p:=⟨w.heap.size + 1,0,none⟩) (Nat.le_succ _) _).setCell (p:=⟨w.heap.size + 1,1,none⟩) (Nat.le_succ _) _⟩
          ·have r2 : (r == 1) = false:=(by rw [beq_eq_false_iff_ne]; exact hr1);go_wp2_with fail;refine (atR_any 6 (-1) _).mono ?_;rintro e w9 ⟨rfl,hbb⟩;unfold flt;have hC9:=hC3.step hbb;obtain ⟨p1,p2,p3⟩:=hC9.p.rules;go_wp2_with fail;have HF : VV = false:=(by rw [← HVV.out]; simp [validV,HR.out]);exact ret_blk rfl rfl ((hC9.p.set_ 0 (.int .i64 6)).set_ 1 (.int .i64 (-1))) _ Tryz.underlying29 rfl (by kernel_rfl) rfl ⟨by rw [HF]; rfl,(hC9.bel.setCell (p:=⟨w.heap.size + 1,0,none⟩) (Nat.le_succ _) _).setCell (p:=⟨w.heap.size + 1,1,none⟩) (Nat.le_succ _) _⟩
        ·have t1 : (t == []) = false:=(by rw [beq_eq_false_iff_ne]; exact hzt);have t3 : t.isEmpty = false:=by cases t with
          | nil => exact absurd rfl hzt
          | cons a r => rfl
         have HTT:=hid hzt;go_wp2_with fail;refine (atR_any 6 (-1) _).mono ?_;rintro e w9 ⟨rfl,hbb⟩;unfold flt;have hC9:=hC3.step hbb;obtain ⟨p1,p2,p3⟩:=hC9.p.rules;go_wp2_with fail;have HF : VV = false:=(by rw [← HVV.out]; simp [validV,HTT.out]);exact ret_blk rfl rfl ((hC9.p.set_ 0 (.int .i64 6)).set_ 1 (.int .i64 (-1))) _ Tryz.underlying29 rfl (by kernel_rfl) rfl ⟨by rw [HF]; rfl,(hC9.bel.setCell (p:=⟨w.heap.size + 1,0,none⟩) (Nat.le_succ _) _).setCell (p:=⟨w.heap.size + 1,1,none⟩) (Nat.le_succ _) _⟩
       ·have b1 : ((m1:Int) == 0) = false:=by rw [beq_eq_false_iff_ne]; omega
        by_cases hzt : t = []
        ·subst hzt
         by_cases hzr : r = 0
         ·subst hzr;have HF : VV = true:=(by rw [← HVV.out]; simp [validV,HZ.out,E1.out,wellV_nil]);obtain ⟨p1,p2,p3⟩:=hC3.p.rules;go_wp2_with fail;exact ret_blk rfl rfl ((hC3.p.set_ 0 (.int .i64 0)).set_ 1 (.int .i64 0)) _ Tryz.underlying29 rfl (by kernel_rfl) rfl ⟨rfl,(hC3.bel.setCell (p:=⟨w.heap.size + 1,0,none⟩) (Nat.le_succ _) _).setCell (p:=⟨w.heap.size + 1,1,none⟩) (Nat.le_succ _) _⟩
         ·have r1 : (r == 0) = false:=(by rw [beq_eq_false_iff_ne]; exact hzr);have HR:=hid hzr
          by_cases hr1 : r = 1
          ·subst hr1;go_wp2_with fail;refine (atR_any 6 (-1) _).mono ?_;rintro e w9 ⟨rfl,hbb⟩;unfold flt;have hC9:=hC3.step hbb;obtain ⟨p1,p2,p3⟩:=hC9.p.rules;go_wp2_with fail;have HF : VV = false:=(by rw [← HVV.out]; simp [validV]);exact ret_blk rfl rfl ((hC9.p.set_ 0 (.int .i64 6)).set_ 1 (.int .i64 (-1))) _ Tryz.underlying29 rfl (by kernel_rfl) rfl ⟨by rw [HF]; rfl,(hC9.bel.setCell (p:=⟨w.heap.size + 1,0,none⟩) (Nat.le_succ _) _).setCell (p:=⟨w.heap.size + 1,1,none⟩) (Nat.le_succ _) _⟩
          ·have r2 : (r == 1) = false:=(by rw [beq_eq_false_iff_ne]; exact hr1);go_wp2_with fail;refine (atR_any 6 (-1) _).mono ?_;rintro e w9 ⟨rfl,hbb⟩;unfold flt;have hC9:=hC3.step hbb;obtain ⟨p1,p2,p3⟩:=hC9.p.rules;go_wp2_with fail;have HF : VV = false:=(by rw [← HVV.out]; simp [validV,HR.out]);exact ret_blk rfl rfl ((hC9.p.set_ 0 (.int .i64 6)).set_ 1 (.int .i64 (-1))) _ Tryz.underlying29 rfl (by kernel_rfl) rfl ⟨by rw [HF]; rfl,(hC9.bel.setCell (p:=⟨w.heap.size + 1,0,none⟩) (Nat.le_succ _) _).setCell (p:=⟨w.heap.size + 1,1,none⟩) (Nat.le_succ _) _⟩
        ·have t1 : (t == []) = false:=(by rw [beq_eq_false_iff_ne]; exact hzt);have t3 : t.isEmpty = false:=by cases t with
          | nil => exact absurd rfl hzt
          | cons a r => rfl
         have HTT:=hid hzt;go_wp2_with fail;refine (atR_any 6 (-1) _).mono ?_;rintro e w9 ⟨rfl,hbb⟩;unfold flt;have hC9:=hC3.step hbb;obtain ⟨p1,p2,p3⟩:=hC9.p.rules;go_wp2_with fail;have HF : VV = false:=(by rw [← HVV.out]; simp [validV,HTT.out]);exact ret_blk rfl rfl ((hC9.p.set_ 0 (.int .i64 6)).set_ 1 (.int .i64 (-1))) _ Tryz.underlying29 rfl (by kernel_rfl) rfl ⟨by rw [HF]; rfl,(hC9.bel.setCell (p:=⟨w.heap.size + 1,0,none⟩) (Nat.le_succ _) _).setCell (p:=⟨w.heap.size + 1,1,none⟩) (Nat.le_succ _) _⟩
      ·have HZ : Hid (¬ ld = []):=hid (by intro e; have h:=HM2.out; rw [e] at h; exact hz2 h.symm);have b2 : ((m2:Int) == 0) = false:=by rw [beq_eq_false_iff_ne]; omega
       by_cases hz1 : m1 = 0
       ·have b1 : ((m1:Int) == 0) = true:=(by rw [beq_iff_eq]; omega);subst hz1;go_wp2_with fail;refine (atR_any 6 (-1) _).mono ?_;rintro e w9 ⟨rfl,hbb⟩;unfold flt;have hC9:=hC3.step hbb;obtain ⟨p1,p2,p3⟩:=hC9.p.rules;go_wp2_with fail;have HF : VV = false:=(by rw [← HVV.out]; simp [validV,HZ.out]);exact ret_blk rfl rfl ((hC9.p.set_ 0 (.int .i64 6)).set_ 1 (.int .i64 (-1))) _ Tryz.underlying29 rfl (by kernel_rfl) rfl ⟨by rw [HF]; rfl,(hC9.bel.setCell (p:=⟨w.heap.size + 1,0,none⟩) (Nat.le_succ _) _).setCell (p:=⟨w.heap.size + 1,1,none⟩) (Nat.le_succ _) _⟩
       ·have b1 : ((m1:Int) == 0) = false:=(by rw [beq_eq_false_iff_ne]; omega);go_wp2_with fail;refine (atR_any 6 (-1) _).mono ?_;rintro e w9 ⟨rfl,hbb⟩;unfold flt;have hC9:=hC3.step hbb;obtain ⟨p1,p2,p3⟩:=hC9.p.rules;go_wp2_with fail;have HF : VV = false:=(by rw [← HVV.out]; simp [validV,HZ.out]);exact ret_blk rfl rfl ((hC9.p.set_ 0 (.int .i64 6)).set_ 1 (.int .i64 (-1))) _ Tryz.underlying29 rfl (by kernel_rfl) rfl ⟨by rw [HF]; rfl,(hC9.bel.setCell (p:=⟨w.heap.size + 1,0,none⟩) (Nat.le_succ _) _).setCell (p:=⟨w.heap.size + 1,1,none⟩) (Nat.le_succ _) _⟩
  ·have hC3:=hC.step ((Below.refl _ _).alloc (Nat.le_refl _) (.cells #[.slice A1 ln.length c1,.slice A2 ld.length c2] 22));go_wp2_with fail
   go_loop [3,5,33] (fun ok _ i => ∃ k : Nat,k ≤ 2∧i = .int .i64 (k:Int)∧ok = .bool false) (fun _ _ i => 2 - (RowKit.intOf i).toNat)
   case atStart => exact ⟨0,by omega,rfl,rfl⟩
   case round =>
    obtain ⟨k,hk,rfl,rfl⟩:=hrel;rcases (show k = 0∨k = 1∨k = 2 by omega) with rfl | rfl | rfl
    ·go_wp2_with fail
     go_round
     case rel => exact ⟨1,by omega,rfl,rfl⟩
     case measure => simp [RowKit.intOf]
    ·go_wp2_with fail
     go_round
     case rel => exact ⟨2,by omega,rfl,rfl⟩
     case measure => simp [RowKit.intOf]
    ·go_wp2_with fail;refine (atR_any 6 (-1) _).mono ?_;rintro e w9 ⟨rfl,hbb⟩;unfold flt;have hC9:=hC3.step hbb;obtain ⟨p1,p2,p3⟩:=hC9.p.rules;go_wp2_with fail;have HF : VV = false:=(by rw [← HVV.out]; simp [validV]);exact ret_blk rfl rfl ((hC9.p.set_ 0 (.int .i64 6)).set_ 1 (.int .i64 (-1))) _ Tryz.underlying29 rfl (by kernel_rfl) rfl ⟨by rw [HF]; rfl,(hC9.bel.setCell (p:=⟨w.heap.size + 1,0,none⟩) (Nat.le_succ _) _).setCell (p:=⟨w.heap.size + 1,1,none⟩) (Nat.le_succ _) _⟩
 ·rcases n2 with _ | _
  ·have hC3:=hC.step ((Below.refl _ _).alloc (Nat.le_refl _) (.cells #[.slice A1 ln.length c1,.slice A2 ld.length c2] 22));go_wp2_with fail
   go_loop [3,5,33] (fun ok _ i => ∃ k : Nat,k ≤ 2∧i = .int .i64 (k:Int)∧ok = .bool false) (fun _ _ i => 2 - (RowKit.intOf i).toNat)
   case atStart => exact ⟨0,by omega,rfl,rfl⟩
   case round =>
    obtain ⟨k,hk,rfl,rfl⟩:=hrel;rcases (show k = 0∨k = 1∨k = 2 by omega) with rfl | rfl | rfl
    ·go_wp2_with fail
     go_round
     case rel => exact ⟨1,by omega,rfl,rfl⟩
     case measure => simp [RowKit.intOf]
    ·go_wp2_with fail
     go_round
     case rel => exact ⟨2,by omega,rfl,rfl⟩
     case measure => simp [RowKit.intOf]
    ·go_wp2_with fail;refine (atR_any 6 (-1) _).mono ?_;rintro e w9 ⟨rfl,hbb⟩;unfold flt;have hC9:=hC3.step hbb;obtain ⟨p1,p2,p3⟩:=hC9.p.rules;go_wp2_with fail;have HF : VV = false:=(by rw [← HVV.out]; simp [validV]);exact ret_blk rfl rfl ((hC9.p.set_ 0 (.int .i64 6)).set_ 1 (.int .i64 (-1))) _ Tryz.underlying29 rfl (by kernel_rfl) rfl ⟨by rw [HF]; rfl,(hC9.bel.setCell (p:=⟨w.heap.size + 1,0,none⟩) (Nat.le_succ _) _).setCell (p:=⟨w.heap.size + 1,1,none⟩) (Nat.le_succ _) _⟩
  ·have hC3:=hC.step ((Below.refl _ _).alloc (Nat.le_refl _) (.cells #[.slice A1 ln.length c1,.slice A2 ld.length c2] 22));go_wp2_with fail
   go_loop [3,5,33] (fun ok _ i => ∃ k : Nat,k ≤ 2∧i = .int .i64 (k:Int)∧ok = .bool false) (fun _ _ i => 2 - (RowKit.intOf i).toNat)
   case atStart => exact ⟨0,by omega,rfl,rfl⟩
   case round =>
    obtain ⟨k,hk,rfl,rfl⟩:=hrel;rcases (show k = 0∨k = 1∨k = 2 by omega) with rfl | rfl | rfl
    ·go_wp2_with fail
     go_round
     case rel => exact ⟨1,by omega,rfl,rfl⟩
     case measure => simp [RowKit.intOf]
    ·go_wp2_with fail
     go_round
     case rel => exact ⟨2,by omega,rfl,rfl⟩
     case measure => simp [RowKit.intOf]
    ·go_wp2_with fail;refine (atR_any 6 (-1) _).mono ?_;rintro e w9 ⟨rfl,hbb⟩;unfold flt;have hC9:=hC3.step hbb;obtain ⟨p1,p2,p3⟩:=hC9.p.rules;go_wp2_with fail;have HF : VV = false:=(by rw [← HVV.out]; simp [validV]);exact ret_blk rfl rfl ((hC9.p.set_ 0 (.int .i64 6)).set_ 1 (.int .i64 (-1))) _ Tryz.underlying29 rfl (by kernel_rfl) rfl ⟨by rw [HF]; rfl,(hC9.bel.setCell (p:=⟨w.heap.size + 1,0,none⟩) (Nat.le_succ _) _).setCell (p:=⟨w.heap.size + 1,1,none⟩) (Nat.le_succ _) _⟩
end
end Go.Proofs.YtonehlkiackhcaaGreatDoor