/- The literals: texts of digits only. Nothing is claimed here. -/
import Derived.Test.YtonehlkiackhcaaGreatDoorLitNb
import Derived.Shelf.Strings.SlTrimAscii
set_option linter.unusedVariables false
set_option linter.unusedSimpArgs false
set_option maxRecDepth 100000
set_option maxHeartbeats 16000000
namespace Go.Proofs.YtonehlkiackhcaaGreatDoor
section
open Go.RowKit Go.Lib Go.Sort
def valD (k:Int) (sn : Bool) (N : Value) (sd : Bool) (D : Value) (t : List UInt8) (r:Int) : Array Value:=#[.int .i64 k,.bool sn,N,.bool sd,D,.string ⟨t.toArray⟩,.int .i64 r]
def padP (p:Nat) (s : List UInt8) : List UInt8:=List.replicate (p + 1 - s.length) 48 ++ s
def pointed (p:Nat) (s : List UInt8) : List UInt8:=(padP p s).take ((padP p s).length - p) ++ [46] ++ (padP p s).drop ((padP p s).length - p)
def FinP (n d:Nat) (R : Except Int (List UInt8)) : Prop:=∃ a m1 b m,d = m1 * 2 ^ a∧(m1 % 2 ≠ 0∨m1 = 0)∧(d = 0 → a = 0)∧m1 = m * 5 ^ b∧(m % 5 ≠ 0∨m = 0)∧(m1 = 0 → b = 0) ∧
 R = if m ≠ 1 then .error 26 else if a + b = 0∨(0 < a∧n % 2 = 0)∨(0 < b∧n % 5 = 0) then .error 6 else .ok (pointed (max a b) (decDigits (n * 2 ^ (max a b - a) * 5 ^ (max a b - b))))
def FinPost (w : World) (n d:Nat) (e : Ending) (w' : World) : Prop:=Below w.heap.size w w'∧∃ R,FinP n d R∧match R with
 | .error c => e = .returned (.tuple #[.string ⟨#[]⟩,flt c (-1)])
 | .ok t => e = .returned (.tuple #[.string ⟨t.toArray⟩,flt 0 0])
theorem lg_pow (n K:Nat) (h : (lg n).length ≤ K) : n < 2 ^ (32 * K):=by
 have h1:=V_lt (B:=4294967296) (by decide) (lg n) (lg_lt n);have h2 : V 4294967296 (lg n) = n:=V_dig (by decide) n;rw [h2] at h1;refine Nat.lt_of_lt_of_le h1 ?_;rw [Nat.pow_mul];exact Nat.pow_le_pow_right (by decide) h
theorem lg_one : lg 1 = [1]:=by
 unfold lg;rw [dig_pos (by decide) (by decide),show 1 / 4294967296 = 0 from rfl,dig_zero]
theorem lg_len_le (N K:Nat) (h : N < 2 ^ (32 * K)) : (lg N).length ≤ K:=by
 refine dig_len (by decide) K N ?_;rw [Nat.pow_mul] at h;exact h
theorem dec_len_pow (N k:Nat) (h : N < 2 ^ (k + 1)) : (decDigits N).length ≤ k + 1 :=
 (padL_eq k N (Nat.lt_of_lt_of_le h (Nat.pow_le_pow_left (by decide) _))).2.1
theorem big_bd (n K i j T:Nat) (h : n < 2 ^ K) (hT : K + i + 3 * j ≤ T) : n * 2 ^ i * 5 ^ j < 2 ^ T:=by
 have h1 : n * 2 ^ i < 2 ^ (K + i):=by
  rw [Nat.pow_add];exact Nat.mul_lt_mul_of_pos_right h (Nat.pow_pos (by decide))
 have h2 : 5 ^ j ≤ 2 ^ (3 * j):=by
  rw [Nat.pow_mul];exact Nat.pow_le_pow_left (by decide) _
 have h3 : n * 2 ^ i * 5 ^ j < 2 ^ (K + i) * 2 ^ (3 * j) :=
  Nat.lt_of_le_of_lt (Nat.mul_le_mul_left _ h2) (Nat.mul_lt_mul_of_pos_right h1 (Nat.pow_pos (by decide)))
 rw [← Nat.pow_add] at h3;exact Nat.lt_of_lt_of_le h3 (Nat.pow_le_pow_right (by decide) hT)
theorem lim_any (n i j:Nat) (hn : (lg n).length ≤ 128) (hi : i ≤ 4096) (hj : j ≤ 4096) : (lg (n * 2 ^ i * 5 ^ j)).length ≤ 640∧(decDigits (n * 2 ^ i * 5 ^ j)).length ≤ 20480:=by
 have h:=lg_pow n 128 hn;obtain ⟨a,ha⟩ : ∃ a,32 * 128 = a:=⟨_,rfl⟩;rw [ha] at h;obtain ⟨K,hK⟩ : ∃ K,640 = K:=⟨_,rfl⟩;obtain ⟨L,hL⟩ : ∃ L,20479 = L:=⟨_,rfl⟩;have h1:=lg_len_le _ K (big_bd n a i j (32 * K) h (by omega));have h2:=dec_len_pow _ L (big_bd n a i j (L + 1) h (by omega));exact ⟨by omega,by omega⟩
structure FiC (w : World) (cs : Array Value) (wi : World) : Prop where
 v : Blk wi w.heap.size 26 cs
 p : Blk wi (w.heap.size + 1) 29 #[.int .i64 0,.int .i64 0]
 bel : Below w.heap.size w wi
theorem FiC.step {w wi wj : World} {cs : Array Value} (h : FiC w cs wi) (hb : Below wi.heap.size wi wj) : FiC w cs wj:=⟨h.v.belowS hb,h.p.belowS hb,below_then h.bel hb h.bel.size⟩
theorem FiC.new (w : World) (cs : Array Value) : FiC w cs ((w.alloc (.cells cs 26)).alloc (.cells #[.int .i64 0,.int .i64 0] 29)):=by
 refine ⟨(Blk.new w 26 cs).alloc _,?_,((Below.refl _ w).alloc (Nat.le_refl _) _).alloc (by simp) _⟩;have h:=Blk.new (w.alloc (.cells cs 26)) 29 #[.int .i64 0,.int .i64 0]
 rwa [show (w.alloc (.cells cs 26)).heap.size = w.heap.size + 1 from by simp] at h
theorem finite_any {w : World} (n d:Nat) (k r:Int) (sn sd : Bool) (t : List UInt8) (A1 A2 : Option Addr) (c1 c2:Nat) (hn : (lg n).length ≤ 128) (hd : (lg d).length ≤ 128) (hrn : Row w A1 (u32s (lg n))) (hrd : Row w A2 (u32s (lg d))) (htab : Lib.TabIs Tryz.prog w "internal/strconv.uint64pow10" .u64 Lib.pow10Tab) :
  Calls Tryz.prog 24 #[.agg (valD k sn (.slice A1 (lg n).length c1) sd (.slice A2 (lg d).length c2) t r)] w (FinPost w n d):=by
 have hdK:=lg_pow d 128 hd;obtain ⟨K,hK⟩ : ∃ K,32 * 128 = K:=⟨_,rfl⟩;rw [hK] at hdK;have hK2 : K ≤ 4096:=by omega
 have hC:=FiC.new w (valD k sn (.slice A1 (lg n).length c1) sd (.slice A2 (lg d).length c2) t r);unfold valD at *
 clear hK;go_enter Tryz.func24,Tryz.ntmps24;go_wp2_with fail;refine (factor_any d 2 A2 c2 (by omega) K hdK (by omega) (by decide) (by decide) (hrd.keepB hC.bel)).mono ?_;rintro e w2 ⟨⟨a,m1,A3,c3,hdm,hm1,hd0,haK,rfl,hr3⟩,hbb⟩;have hC2:=hC.step hbb;have hp2 : 0 < 2 ^ a:=Nat.pow_pos (by decide);have hm1d : m1 ≤ d:=by rw [hdm]; exact Nat.le_mul_of_pos_right _ hp2
 have H1:=hid (And.intro hdm (And.intro hm1 hd0));have hl1:=Nat.le_trans (lg_mono hm1d) hd;have hm1K : m1 < 2 ^ K:=Nat.lt_of_le_of_lt hm1d hdK;clear hC hbb hdm hm1 hd0 hp2 hm1d;go_wp2_with fail;refine (factor_any m1 5 A3 c3 (by omega) K hm1K (by omega) (by decide) (by decide) hr3).mono ?_;rintro e w3 ⟨⟨b,m,A4,c4,hdm,hm2,hd0,hbK,rfl,hr4⟩,hbb⟩;have hC3:=hC2.step hbb;have H2:=hid (And.intro hdm (And.intro hm2 hd0));clear hC2 hbb hdm hm2 hd0 hr3 hm1K hl1 hdK;obtain ⟨p1,p2,p3⟩:=hC3.p.rules;obtain ⟨v1,v2,v3⟩:=hC3.v.rules
 by_cases hm : m = 1
 ·subst hm;obtain ⟨g,off,rfl,hc⟩:=row_u32 hr4 (j:=0) (by rw [lg_one]; decide);have hc : w3.cell? ⟨g,off,none⟩ = some (.int .u32 1):=(by simpa [lg_one] using hc);have hl1 : (lg 1).length = 1:=(by rw [lg_one]; rfl);rw [hl1];clear hr4 hl1;go_wp2_with fail;refine (quo_any n 2 A1 c1 (by omega) (by decide) (by decide) (hrn.keepB hC3.bel)).mono ?_;rintro e w4 ⟨⟨A5,c5,rfl,hr5⟩,hbb⟩;have hC4:=hC3.step hbb;obtain ⟨v1,v2,v3⟩:=hC4.v.rules;clear hC3 hbb hr5 p1 p2 p3;obtain ⟨x2,hx2⟩ : ∃ x2,n % 2 = x2:=⟨_,rfl⟩;rw [hx2];have HX2:=hid hx2;clear hx2;go_wp2_with fail;refine (quo_any n 5 A1 c1 (by omega) (by decide) (by decide) (hrn.keepB hC4.bel)).mono ?_;rintro e w5 ⟨⟨A6,c6,rfl,hr6⟩,hbb⟩;have hC5:=hC4.step hbb;clear hC4 hbb hr6 v1 v2 v3;obtain ⟨x5,hx5⟩ : ∃ x5,n % 5 = x5:=⟨_,rfl⟩;rw [hx5];have HX5:=hid hx5;clear hx5
  go_upto_region 8 with fail
  go_cut [68] from 49 to 68 (fun s68 wx => s68 = .bool (decide (a + b = 0∨(0 < a∧x2 = 0)∨(0 < b∧x5 = 0)))∧wx = w5)
  case first =>
   have ew : IntKind.i64.wrap ((a:Int) + (b:Int)) = (a:Int) + (b:Int):=IntWalk.i64_in _ (by omega)
   by_cases h0 : a + b = 0
   ·have hfact : (a:Int) + (b:Int) = 0:=(by first | omega | (rw [beq_iff_eq]; omega));have HD : decide (a + b = 0∨(0 < a∧x2 = 0)∨(0 < b∧x5 = 0)) = true:=(by simp; omega);have HDD:=hid HD;clear HD h0;go_wp2_with fail;go_meet;exact ⟨by rw [HDD.out],rfl⟩
   ·have h0b : (((a:Int) + (b:Int)) == 0) = false:=by rw [beq_eq_false_iff_ne]; omega
    by_cases ha : 0 < a
    ·have hai : (0:Int) < (a:Int):=by omega
     by_cases h2 : x2 = 0
     ·have hfact : ((x2:Int) == 0) = true:=(by first | omega | (rw [beq_iff_eq]; omega));have HD : decide (a + b = 0∨(0 < a∧x2 = 0)∨(0 < b∧x5 = 0)) = true:=(by simp; omega);have HDD:=hid HD;clear HD h2;go_wp2_with fail;go_meet;exact ⟨by rw [HDD.out],rfl⟩
     ·have h2b : ((x2:Int) == 0) = false:=by rw [beq_eq_false_iff_ne]; omega
      by_cases hb : 0 < b
      ·have hbi : (0:Int) < (b:Int):=by omega
       by_cases h5 : x5 = 0
       ·have hfact : ((x5:Int) == 0) = true:=(by first | omega | (rw [beq_iff_eq]; omega));have HD : decide (a + b = 0∨(0 < a∧x2 = 0)∨(0 < b∧x5 = 0)) = true:=(by simp; omega);have HDD:=hid HD;clear HD h5;go_wp2_with fail;go_meet;exact ⟨by rw [HDD.out],rfl⟩
       ·have h5b : ((x5:Int) == 0) = false:=(by rw [beq_eq_false_iff_ne]; omega);have hfact : (0:Int) ≤ 0:=(by first | omega | (rw [beq_iff_eq]; omega));have HD : decide (a + b = 0∨(0 < a∧x2 = 0)∨(0 < b∧x5 = 0)) = false:=(by simp; omega);have HDD:=hid HD;clear HD h5;go_wp2_with fail;go_meet;exact ⟨by rw [HDD.out],rfl⟩
      ·have hfact : ¬ (0:Int) < (b:Int):=(by first | omega | (rw [beq_iff_eq]; omega));have HD : decide (a + b = 0∨(0 < a∧x2 = 0)∨(0 < b∧x5 = 0)) = false:=(by simp; omega);have HDD:=hid HD;clear HD hb;go_wp2_with fail;go_meet;exact ⟨by rw [HDD.out],rfl⟩
    ·have hbi : (0:Int) < (b:Int):=by omega
     by_cases h5 : x5 = 0
     ·have hfact2 : ¬ (0:Int) < (a:Int):=(by omega);have hfact : ((x5:Int) == 0) = true:=(by first | omega | (rw [beq_iff_eq]; omega));have HD : decide (a + b = 0∨(0 < a∧x2 = 0)∨(0 < b∧x5 = 0)) = true:=(by simp; omega);have HDD:=hid HD;clear HD h5;go_wp2_with fail;go_meet;exact ⟨by rw [HDD.out],rfl⟩
     ·have h5b : ((x5:Int) == 0) = false:=(by rw [beq_eq_false_iff_ne]; omega);have hfact : ¬ (0:Int) < (a:Int):=(by first | omega | (rw [beq_iff_eq]; omega));have HD : decide (a + b = 0∨(0 < a∧x2 = 0)∨(0 < b∧x5 = 0)) = false:=(by simp; omega);have HDD:=hid HD;clear HD ha;go_wp2_with fail;go_meet;exact ⟨by rw [HDD.out],rfl⟩
  case rest =>
   obtain ⟨rfl,rfl⟩:=hcut
   by_cases hcd : a + b = 0∨(0 < a∧x2 = 0)∨(0 < b∧x5 = 0)
   ·have hF : FinP n d (.error 6):=⟨a,m1,b,1,H1.out.1,H1.out.2.1,H1.out.2.2,H2.out.1,H2.out.2.1,H2.out.2.2,by rw [if_neg (by decide),if_pos (by rw [HX2.out,HX5.out]; exact hcd)]⟩;have HF:=hid hF;rw [decide_eq_true hcd];clear hF hcd;go_wp2_with fail;refine (lfault_any (6) (-1) _).mono ?_;rintro e w9 ⟨rfl,hbb9⟩;have hC9:=FiC.step hC5 hbb9;obtain ⟨p1,p2,p3⟩:=hC9.p.rules;go_wp2_with fail;have hPz:=(hC9.p.set_ 0 (.int .i64 (6))).set_ 1 (.int .i64 (-1));exact ret_tmp_blk rfl rfl hPz _ Tryz.underlying29 rfl (by kernel_rfl) rfl _ rfl ⟨(hC9.bel.setCell (p:=⟨w.heap.size + 1,0,none⟩) (Nat.le_succ _) _).setCell (p:=⟨w.heap.size + 1,1,none⟩) (Nat.le_succ _) _,.error (6),HF.out,rfl⟩
   ·have hF : FinP n d (.ok (pointed (max a b) (decDigits (n * 2 ^ (max a b - a) * 5 ^ (max a b - b))))):=⟨a,m1,b,1,H1.out.1,H1.out.2.1,H1.out.2.2,H2.out.1,H2.out.2.1,H2.out.2.2,by rw [if_neg (by decide),if_neg (by rw [HX2.out,HX5.out]; exact hcd)]⟩;have HF:=hid hF;rw [decide_eq_false hcd];clear hF hcd H1 H2 HX2 HX5;obtain ⟨p,hp⟩ : ∃ p,max a b = p:=⟨_,rfl⟩;have hpi : max (a:Int) (b:Int) = (p:Int):=(by rw [← hp]; omega);have hpa : a ≤ p:=(by omega);have hpb : b ≤ p:=(by omega);have hpK : p ≤ 4096:=(by omega);obtain ⟨e1,he1⟩ : ∃ e1,p - a = e1:=⟨_,rfl⟩;obtain ⟨e2,he2⟩ : ∃ e2,p - b = e2:=⟨_,rfl⟩;have he1i : (p:Int) - (a:Int) = (e1:Int):=(by omega);have he2i : (p:Int) - (b:Int) = (e2:Int):=(by omega);rw [hp,he1,he2] at HF;have he1K : e1 ≤ 4096:=(by omega);have he2K : e2 ≤ 4096:=(by omega);clear hp he1 he2;have hlim:=fun i j => lim_any n i j hn;go_wp2_with fail
    go_loopw [7,76] (fun v i wr => ∃ (j:Nat) (A7 : Option Addr) (c7:Nat),j ≤ e1∧i = .int .i64 (j:Int)∧v = .slice A7 (lg (n * 2 ^ j)).length c7∧Row wr A7 (u32s (lg (n * 2 ^ j)))∧FiC w #[.int .i64 k,.bool sn,.slice A1 (lg n).length c1,.bool sd,.slice A2 (lg d).length c2,.string ⟨t.toArray⟩,.int .i64 r] wr) (fun _ i _ => e1 - (RowKit.intOf i).toNat)
    case atStart => exact ⟨0,A1,c1,Nat.zero_le _,rfl,by rw [Nat.pow_zero,Nat.mul_one],by rw [Nat.pow_zero,Nat.mul_one]; exact hrn.keepB hC5.bel,hC5⟩
    case round =>
     obtain ⟨j,A7,c7,hj,rfl,rfl,hrj,hCj⟩:=hrel;have hlj:=(hlim j 0 (by omega) (by omega)).1;rw [Nat.pow_zero,Nat.mul_one] at hlj
     by_cases hlt : j < e1
     ·go_wp2_with fail;refine (prod_any (n * 2 ^ j) 2 0 A7 c7 (by omega) (by decide) (by decide) (by decide) hrj).mono ?_;rintro e w6 ⟨⟨A8,c8,rfl,hr8⟩,hbb⟩;have hC6:=hCj.step hbb;rw [Nat.add_zero,Nat.mul_assoc,← Nat.pow_succ] at hr8 ⊢;clear hCj hbb hrj hC5;go_wp2_with fail;go_roundw
      case rel => exact ⟨j + 1,A8,c8,by omega,by go_num,rfl,hr8,hC6⟩
      case measure => simp [RowKit.intOf]; omega
     ·have hje : j = e1:=(by omega);subst hje;obtain ⟨N,hN⟩ : ∃ N,n * 2 ^ j = N:=⟨_,rfl⟩;rw [hN] at hrj hlj HF ⊢;have hlim2:=fun i => hlim j i (by omega);rw [hN] at hlim2;clear hN hC5;go_wp2_with fail
      go_loopw [7,84] (fun v i wr => ∃ (y:Nat) (A7 : Option Addr) (c7:Nat),y ≤ e2∧i = .int .i64 (y:Int)∧v = .slice A7 (lg (N * 5 ^ y)).length c7∧Row wr A7 (u32s (lg (N * 5 ^ y)))∧FiC w #[.int .i64 k,.bool sn,.slice A1 (lg n).length c1,.bool sd,.slice A2 (lg d).length c2,.string ⟨t.toArray⟩,.int .i64 r] wr) (fun _ i _ => e2 - (RowKit.intOf i).toNat)
      case atStart => exact ⟨0,A7,c7,Nat.zero_le _,rfl,by rw [Nat.pow_zero,Nat.mul_one],by rw [Nat.pow_zero,Nat.mul_one]; exact hrj,hCj⟩
      case round =>
       obtain ⟨y,A9,c9,hy,rfl,rfl,hry,hCy⟩:=hrel;have hly:=(hlim2 y (by omega)).1
       by_cases hlt2 : y < e2
       ·go_wp2_with fail;refine (prod_any (N * 5 ^ y) 5 0 A9 c9 (by omega) (by decide) (by decide) (by decide) hry).mono ?_;rintro e w6 ⟨⟨A8,c8,rfl,hr8⟩,hbb⟩;have hC6:=hCy.step hbb;rw [Nat.add_zero,Nat.mul_assoc,← Nat.pow_succ] at hr8 ⊢;clear hCy hbb hry hrj hCj;go_wp2_with fail;go_roundw
        case rel => exact ⟨y + 1,A8,c8,by omega,by go_num,rfl,hr8,hC6⟩
        case measure => simp [RowKit.intOf]; omega
       ·have hye : y = e2:=(by omega);subst hye;have hld:=(hlim2 y (by omega)).2;obtain ⟨M,hM⟩ : ∃ M,N * 5 ^ y = M:=⟨_,rfl⟩;rw [hM] at hry hly hld HF ⊢;clear hM hCj hrj hlim2 hlim;go_wp2_with fail;refine (decimal_any M A9 c9 (by omega) (by omega) hry (tab_keep htab hCy.bel)).mono ?_;rintro e w7 ⟨rfl,hbb⟩;have hC7:=hCy.step hbb;clear hCy hbb hry;obtain ⟨S,hS⟩ : ∃ S,decDigits M = S:=⟨_,rfl⟩;rw [hS] at hld HF ⊢;clear hS;have hpl : p < (padP p S).length:=(by unfold padP; simp; omega);have hpl2 : (padP p S).length ≤ 30000:=(by unfold padP; simp; omega);have HPO:=hid (show pointed p S = (padP p S).take ((padP p S).length - p) ++ [46] ++ (padP p S).drop ((padP p S).length - p) from rfl);obtain ⟨X,hX⟩ : ∃ X,padP p S = X:=⟨_,rfl⟩;rw [hX] at hpl hpl2 HPO
        by_cases hsp : S.length ≤ p
        ·have hspi : (S.length:Int) ≤ (p:Int):=(by omega);obtain ⟨z,hz⟩ : ∃ z,p + 1 - S.length = z:=⟨_,rfl⟩;have hzi : (p:Int) + 1 - (S.length:Int) = (z:Int):=(by omega);have hzl : z ≤ 4097:=(by omega);obtain ⟨Z,hZ⟩ : ∃ Z,List.replicate z (48 : UInt8) = Z:=⟨_,rfl⟩;have hZl : Z.length ≤ 4097:=(by rw [← hZ]; simpa using hzl);have hadd : ∀ W : World,(Op.stringOp .add ⟨Z.toArray⟩ ⟨S.toArray⟩).run Tryz.prog W = .ok (.string ⟨X.toArray⟩) W:=fun W => by
          rw [← hX,show padP p S = Z ++ S from by unfold padP; rw [hz,hZ]];exact run_string_add_lists W Z S (by omega) (by omega)
         clear hz hX;go_wp2_with fail;refine (zeros_any z (by omega) _).mono ?_;rintro e w8 ⟨rfl,hbb⟩;have hC8:=hC7.step hbb;rw [hZ];clear hC7 hbb hZ hzi;go_wp2_with fail;obtain ⟨q,hq⟩ : ∃ q,X.length - p = q:=⟨_,rfl⟩;obtain ⟨j9,hj9⟩ : ∃ j9 : Int,(X.length:Int) - (p:Int) = j9:=⟨_,rfl⟩;have hqj : j9 = (q:Int):=(by omega);rw [hqj] at hj9;have hqw : IntKind.i64.wrap (q:Int) = (q:Int):=IntWalk.i64_in _ (by omega);have hs1:=fun W => run_upto X q (by omega) (q:Int) rfl W;have hs2 : ∀ W : World,(Instr.slice 9 (.string ⟨X.toArray⟩) (some (.int .i64 (q:Int))) none none).run Tryz.prog W = .ok (.string ⟨(X.drop q).toArray⟩) W:=fun W => by
          rw [run_slice_string_from_if W 9 ⟨X.toArray⟩ .i64 _ Tryz.underlying9,if_pos ⟨by omega,by simp [ByteArray.size]; omega⟩,Int.toNat_natCast,extract_from _ _ _ (by simp [ByteArray.size])]
         have ha1 : (X.take q).length ≤ 30000:=(by rw [List.length_take]; omega);have ha2 : (X.drop q).length ≤ 30000:=(by rw [List.length_drop]; omega);obtain ⟨U,hU⟩ : ∃ U,X.take q = U:=⟨_,rfl⟩;obtain ⟨V9,hV9⟩ : ∃ V9,X.drop q = V9:=⟨_,rfl⟩;obtain ⟨U2,hU2⟩ : ∃ U2,U ++ [46] = U2:=⟨_,rfl⟩;obtain ⟨U3,hU3⟩ : ∃ U3,U2 ++ V9 = U3:=⟨_,rfl⟩;rw [hU] at hs1 ha1;rw [hV9] at hs2 ha2;have hl2 : U2.length ≤ 30001:=(by rw [← hU2]; simp; omega);have had1 : ∀ W : World,(Op.stringOp .add ⟨U.toArray⟩ ⟨#[46]⟩).run Tryz.prog W = .ok (.string ⟨U2.toArray⟩) W:=fun W => by rw [← hU2]; exact run_string_add_lists W U [46] (by omega) (by simp)
         have had2 : ∀ W : World,(Op.stringOp .add ⟨U2.toArray⟩ ⟨V9.toArray⟩).run Tryz.prog W = .ok (.string ⟨U3.toArray⟩) W:=fun W => by rw [← hU3]; exact run_string_add_lists W U2 V9 (by omega) (by omega)
         have HPP : Hid (pointed p S = U3):=hid (by rw [HPO.out,hq,hU,hV9,hU2,hU3]);have hq0 : (0:Int) ≤ (q:Int):=(by omega);have hq1 : (q:Int) ≤ (X.length:Int):=(by omega);clear hq hqj hU hV9 hU2 hU3 HPO;obtain ⟨p1,p2,p3⟩:=hC8.p.rules
         go_region_with (fail)
         all_goals go_wp2_with fail
         all_goals exact ret_tmp_blk rfl rfl ((hC8.p.drew.set_ 0 (.int .i64 0)).set_ 1 (.int .i64 0)) _ Tryz.underlying29 rfl (by kernel_rfl) rfl _ rfl ⟨(hC8.bel.drew.setCell (p:=⟨w.heap.size + 1,0,none⟩) (Nat.le_succ _) _).setCell (p:=⟨w.heap.size + 1,1,none⟩) (Nat.le_succ _) _,.ok (pointed p S),HF.out,by rw [HPP.out]; rfl⟩
        ·have hspi : ¬ (S.length:Int) ≤ (p:Int):=(by omega);have hpp : S = X:=(by rw [← hX]; unfold padP; rw [show p + 1 - S.length = 0 by omega]; rfl);clear hX;rw [hpp] at hspi ⊢;clear hpp;go_wp2_with fail;obtain ⟨q,hq⟩ : ∃ q,X.length - p = q:=⟨_,rfl⟩;obtain ⟨j9,hj9⟩ : ∃ j9 : Int,(X.length:Int) - (p:Int) = j9:=⟨_,rfl⟩;have hqj : j9 = (q:Int):=(by omega);rw [hqj] at hj9;have hqw : IntKind.i64.wrap (q:Int) = (q:Int):=IntWalk.i64_in _ (by omega);have hs1:=fun W => run_upto X q (by omega) (q:Int) rfl W;have hs2 : ∀ W : World,(Instr.slice 9 (.string ⟨X.toArray⟩) (some (.int .i64 (q:Int))) none none).run Tryz.prog W = .ok (.string ⟨(X.drop q).toArray⟩) W:=fun W => by
          rw [run_slice_string_from_if W 9 ⟨X.toArray⟩ .i64 _ Tryz.underlying9,if_pos ⟨by omega,by simp [ByteArray.size]; omega⟩,Int.toNat_natCast,extract_from _ _ _ (by simp [ByteArray.size])]
         have ha1 : (X.take q).length ≤ 30000:=(by rw [List.length_take]; omega);have ha2 : (X.drop q).length ≤ 30000:=(by rw [List.length_drop]; omega);obtain ⟨U,hU⟩ : ∃ U,X.take q = U:=⟨_,rfl⟩;obtain ⟨V9,hV9⟩ : ∃ V9,X.drop q = V9:=⟨_,rfl⟩;obtain ⟨U2,hU2⟩ : ∃ U2,U ++ [46] = U2:=⟨_,rfl⟩;obtain ⟨U3,hU3⟩ : ∃ U3,U2 ++ V9 = U3:=⟨_,rfl⟩;rw [hU] at hs1 ha1;rw [hV9] at hs2 ha2;have hl2 : U2.length ≤ 30001:=(by rw [← hU2]; simp; omega);have had1 : ∀ W : World,(Op.stringOp .add ⟨U.toArray⟩ ⟨#[46]⟩).run Tryz.prog W = .ok (.string ⟨U2.toArray⟩) W:=fun W => by rw [← hU2]; exact run_string_add_lists W U [46] (by omega) (by simp)
         have had2 : ∀ W : World,(Op.stringOp .add ⟨U2.toArray⟩ ⟨V9.toArray⟩).run Tryz.prog W = .ok (.string ⟨U3.toArray⟩) W:=fun W => by rw [← hU3]; exact run_string_add_lists W U2 V9 (by omega) (by omega)
         have HPP : Hid (pointed p S = U3):=hid (by rw [HPO.out,hq,hU,hV9,hU2,hU3]);have hq0 : (0:Int) ≤ (q:Int):=(by omega);have hq1 : (q:Int) ≤ (X.length:Int):=(by omega);clear hq hqj hU hV9 hU2 hU3 HPO;obtain ⟨p1,p2,p3⟩:=hC7.p.rules
         go_region_with (fail)
         all_goals go_wp2_with fail
         all_goals exact ret_tmp_blk rfl rfl ((hC7.p.drew.set_ 0 (.int .i64 0)).set_ 1 (.int .i64 0)) _ Tryz.underlying29 rfl (by kernel_rfl) rfl _ rfl ⟨(hC7.bel.drew.setCell (p:=⟨w.heap.size + 1,0,none⟩) (Nat.le_succ _) _).setCell (p:=⟨w.heap.size + 1,1,none⟩) (Nat.le_succ _) _,.ok (pointed p S),HF.out,by rw [HPP.out]; rfl⟩
 ·have hlm : (lg m).length ≠ 1∨(∃ (x g off:Nat),A4 = some ⟨g,off,none⟩∧(lg m).length = 1∧w3.cell? ⟨g,off,none⟩ = some (.int .u32 (x:Int))∧x ≠ 1):=by
   by_cases h : (lg m).length = 1
   ·obtain ⟨g,off,h1,h2⟩:=row_u32 hr4 (j:=0) (by rw [h]; decide);refine .inr ⟨_,g,off,h1,h,h2,?_⟩;intro h3;have h4 : V 4294967296 (lg m) = m:=V_dig (by decide) m;obtain ⟨x,hx⟩:=List.length_eq_one_iff.1 h;rw [hx] at h4;simp only [hx] at h3;simp [V] at h4;simp at h3;omega
   ·exact .inl h
  have hF : FinP n d (.error 26):=⟨a,m1,b,m,H1.out.1,H1.out.2.1,H1.out.2.2,H2.out.1,H2.out.2.1,H2.out.2.2,by rw [if_pos hm]⟩;have HF:=hid hF;clear hm hF;rcases hlm with hl | ⟨x,g,off,rfl,hl,hc,hx⟩
  ·have hlb : (((lg m).length:Int) != 1) = true:=(by rw [bne_iff_ne]; omega);clear hl;go_wp2_with fail;refine (lfault_any (26) (-1) _).mono ?_;rintro e w9 ⟨rfl,hbb9⟩;have hC9:=FiC.step hC3 hbb9;obtain ⟨p1,p2,p3⟩:=hC9.p.rules;go_wp2_with fail;have hPz:=(hC9.p.set_ 0 (.int .i64 (26))).set_ 1 (.int .i64 (-1));exact ret_tmp_blk rfl rfl hPz _ Tryz.underlying29 rfl (by kernel_rfl) rfl _ rfl ⟨(hC9.bel.setCell (p:=⟨w.heap.size + 1,0,none⟩) (Nat.le_succ _) _).setCell (p:=⟨w.heap.size + 1,1,none⟩) (Nat.le_succ _) _,.error (26),HF.out,rfl⟩
  ·have hxb : ((x:Int) != 1) = true:=(by rw [bne_iff_ne]; omega);rw [hl];clear hl hx;go_wp2_with fail;refine (lfault_any (26) (-1) _).mono ?_;rintro e w9 ⟨rfl,hbb9⟩;have hC9:=FiC.step hC3 hbb9;obtain ⟨p1,p2,p3⟩:=hC9.p.rules;go_wp2_with fail;have hPz:=(hC9.p.set_ 0 (.int .i64 (26))).set_ 1 (.int .i64 (-1));exact ret_tmp_blk rfl rfl hPz _ Tryz.underlying29 rfl (by kernel_rfl) rfl _ rfl ⟨(hC9.bel.setCell (p:=⟨w.heap.size + 1,0,none⟩) (Nat.le_succ _) _).setCell (p:=⟨w.heap.size + 1,1,none⟩) (Nat.le_succ _) _,.error (26),HF.out,rfl⟩
theorem trim_any (s cs : List UInt8) (w : World) (hs : s.length ≤ 4294967) (hcs : cs.length < 4294967) (hac : cs.all (fun b => decide (b.toNat < 128)) = true) :
  Calls Tryz.prog 81 #[.string ⟨s.toArray⟩,.string ⟨cs.toArray⟩] w fun e w' => e = .returned (.string ⟨(Lib.trimS s cs).toArray⟩)∧Below w.heap.size w w':=by
 refine (Any.strings_Trim_laid Tryz.lays160 (by kernel_rfl) ⟨s.toArray⟩ ⟨cs.toArray⟩ w (by simp [ByteArray.size]; omega) (by simp [ByteArray.size]; omega) (ascii_of_all hac)).mono ?_;rintro e w' ⟨rfl,h⟩;exact ⟨rfl,h⟩
theorem dropWhile_nil (p : UInt8 → Bool) : ∀ l : List UInt8,l.dropWhile p = [] ↔ l.all p = true
 | [] => by simp
 | a :: l => by
  rw [List.dropWhile_cons];cases h : p a
  ·simp [h]
  ·simp [h,dropWhile_nil p l]
theorem trimS_nil (s cs : List UInt8) : trimS s cs = [] ↔ s.all (cs.contains ·) = true:=by
 unfold trimS trimLeftS trimRightS;rw [dropWhile_nil];constructor
 ·intro h;cases hr : s.reverse.dropWhile (cs.contains ·) with
  | nil =>
   rw [dropWhile_nil] at hr;simpa using hr
  | cons a l =>
   rw [hr] at h;have h1 : cs.contains a = true:=by
    have:=List.all_eq_true.1 h a (by simp);exact this
   have h2:=List.head?_dropWhile_not (cs.contains ·) s.reverse;rw [hr] at h2;simp at h2;simp at h1;exact absurd h1 h2
 ·intro h;have h1 : s.reverse.all (cs.contains ·) = true:=(by simpa using h);rw [(dropWhile_nil _ _).2 h1];rfl
def onlyV (s cs : List UInt8) : Bool:=decide (s ≠ []) && s.all (cs.contains ·)
theorem only_any (s cs : List UInt8) (w : World) (hs : s.length ≤ 4294967) (hcs : cs.length < 4294967) (hac : cs.all (fun b => decide (b.toNat < 128)) = true) :
  Calls Tryz.prog 38 #[.string ⟨s.toArray⟩,.string ⟨cs.toArray⟩] w fun e w' => e = .returned (.bool (onlyV s cs))∧Below w.heap.size w w':=by
 have HT:=hid (trim_any s cs w hs hcs hac);have hiff:=trimS_nil s cs;obtain ⟨T,hT⟩ : ∃ T,trimS s cs = T:=⟨_,rfl⟩;rw [hT] at HT hiff
 by_cases h0 : s = []
 ·subst h0;clear hiff hT;go_enter Tryz.func38,Tryz.ntmps38;go_wp2_with fail;go_ret;exact ⟨rfl,Below.refl _ _⟩
 ·have h0b : (s != []) = true:=(by simpa using h0);have h0c : (s == []) = false:=by simpa using h0
  by_cases h1 : T = []
  ·have HV:=hid (show onlyV s cs = true from by unfold onlyV; rw [hiff.1 h1]; simpa using h0);have h1b : (T == []) = true:=(by simpa using h1);clear hiff hT h0 h1;go_enter Tryz.func38,Tryz.ntmps38;go_wp2_with fail;refine HT.out.mono ?_;rintro e w2 ⟨rfl,hb⟩;go_wp2_with fail;go_ret;exact ⟨ret_bool (by rw [HV.out]),hb⟩
  ·have HV:=hid (show onlyV s cs = false from by
    unfold onlyV;cases h : s.all (cs.contains ·)
    ·simp
    ·exact absurd (hiff.2 h) h1)
   have h1b : (T == []) = false:=(by simpa using h1);clear hiff hT h0 h1;go_enter Tryz.func38,Tryz.ntmps38;go_wp2_with fail;refine HT.out.mono ?_;rintro e w2 ⟨rfl,hb⟩;go_wp2_with fail;go_ret;exact ⟨ret_bool (by rw [HV.out]),hb⟩
end
end Go.Proofs.YtonehlkiackhcaaGreatDoor