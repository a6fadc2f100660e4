/- Plain words on the faults of a scan: none has the code 0. Nothing is claimed here. -/
import Derived.Test.YtonehlkiackhcaaGreatDoorLitShelf2
import Derived.Test.YtonehlkiackhcaaGreatDoorLitD
import Derived.Test.YtonehlkiackhcaaGreatDoorLitShelf3
import Derived.Lib.QuietBelow
import Derived.Test.YtonehlkiackhcaaGreatDoorTokF
set_option linter.unusedVariables false
set_option maxRecDepth 100000
set_option maxHeartbeats 16000000
namespace Go.Proofs.YtonehlkiackhcaaGreatDoor
open Go.RowKit Go.Lib
theorem byteAll (p : UInt8 → Bool) (h : ((List.range 256).all fun n => p (UInt8.ofNat n)) = true) (c : UInt8) : p c = true:=by
 have:=List.all_eq_true.1 h c.toNat (List.mem_range.2 c.toNat_lt);simpa using this
def lo (c : UInt8) : Nat:=(c ||| 32).toNat
theorem lo_bits (c : UInt8) : bits .or .u8 (c.toNat : Int) 32 = (lo c : Int):=by
 have:=byteAll (fun c => bits .or .u8 (c.toNat : Int) 32 == (lo c : Int)) (by decide +kernel) c;simpa using this
theorem hex_kind (c : UInt8) : (48 ≤ c.toNat ∧ c.toNat ≤ 57 ∧ hexD c = some (c.toNat - 48)) ∨
  (¬ (48 ≤ c.toNat ∧ c.toNat ≤ 57) ∧ 97 ≤ lo c ∧ lo c ≤ 102 ∧ hexD c = some (lo c - 87)) ∨
  (¬ (48 ≤ c.toNat ∧ c.toNat ≤ 57) ∧ 103 ≤ lo c ∧ lo c ≤ 122 ∧ hexD c = none) ∨
  (¬ (48 ≤ c.toNat ∧ c.toNat ≤ 57) ∧ lo c < 97 ∧ hexD c = none) ∨ (¬ (48 ≤ c.toNat ∧ c.toNat ≤ 57) ∧ 122 < lo c ∧ hexD c = none):=by
 have:=byteAll (fun c => decide ((48 ≤ c.toNat ∧ c.toNat ≤ 57 ∧ hexD c = some (c.toNat - 48)) ∨
  (¬ (48 ≤ c.toNat ∧ c.toNat ≤ 57) ∧ 97 ≤ lo c ∧ lo c ≤ 102 ∧ hexD c = some (lo c - 87)) ∨
  (¬ (48 ≤ c.toNat ∧ c.toNat ≤ 57) ∧ 103 ≤ lo c ∧ lo c ≤ 122 ∧ hexD c = none) ∨
  (¬ (48 ≤ c.toNat ∧ c.toNat ≤ 57) ∧ lo c < 97 ∧ hexD c = none) ∨ (¬ (48 ≤ c.toNat ∧ c.toNat ≤ 57) ∧ 122 < lo c ∧ hexD c = none))) (by decide +kernel) c
 exact of_decide_eq_true this
theorem lower_any (c : UInt8) (w : World) : Calls Tryz.prog 193 #[.int .u8 (c.toNat : Int)] w fun e w' => e = .returned (.int .u8 (lo c : Int)) ∧ w' = w :=
 (Tryz.internal_strconv_lower (c.toNat : Int) w).mono fun _ _ h => ⟨by rw [h.1,lo_bits],h.2⟩
theorem ne95 (c : UInt8) (h : lo c ≠ 127) : ((c.toNat : Int) == 95) = false:=by
 rw [beq_eq_false_iff_ne];intro e;refine h ?_;unfold lo;rw [show c = 95 from UInt8.toNat_inj.1 (by show c.toNat = 95; omega)];rfl
def hexE : Nat → List UInt8 → Int
 | _,[] => 0
 | n,c :: r => match hexD c with
  | none => 0
  | some d => if n * 16 + d < 4294967296 then hexE (n * 16 + d) r else 4294967295
def PuPost (R : Option Nat) (U : Int) (e : Ending) : Prop:=match R with
 | some n => e = .returned (.tuple #[.int .u64 (n : Int),.nilIface])
 | none => ∃ (k : Int),e = .returned (.tuple #[.int .u64 U,.iface 238 (.int .i64 k)]) ∧ (k = 1 ∨ k = 2)
theorem hex0_any (r : List UInt8) (w : World) (hl : r.length ≤ 16000) :
  Calls Tryz.prog 158 #[.string ⟨r.toArray⟩,.int .i64 16,.int .i64 32] w fun e w' => PuPost (hexS r) (hexE 0 r) e ∧ Below w.heap.size w w':=by
 have hmi : ∀ (k : Int) (w : World),(Instr.makeInterface 238 (.int .i64 k)).run Tryz.prog w = .ok (.iface 238 (.int .i64 k)) w:=fun _ _ => by kernel_rfl
 rcases r with _ | ⟨c0,r0⟩
 ·go_enter Tryz.func158,Tryz.ntmps158;go_wp2_with fail;go_ret2;exact ⟨⟨_,rfl,.inr rfl⟩,Below.refl _ _⟩
 ·obtain ⟨r,hr⟩ : ∃ r,c0 :: r0 = r:=⟨_,rfl⟩;have hpos : 0 < r.length:=(by rw [← hr]; simp);have hS : hexS r = hexF 0 r:=(by rw [← hr]; rfl);rw [hr] at hl ⊢;rw [hS];clear hS hr c0 r0;obtain ⟨R,U,hR⟩ : ∃ R U,(hexF 0 r,hexE 0 r) = (R,U):=⟨_,_,rfl⟩;rw [show hexF 0 r = R from congrArg Prod.fst hR,show hexE 0 r = U from congrArg Prod.snd hR];have HR0:=Lib.hid hR;clear hR
  have hne : (r == []) = false := by rcases r with _ | ⟨a, t⟩; · simp at hpos --
                                     · rfl
  obtain ⟨b,hbb⟩ : ∃ b,w.heap.size = b:=⟨_,rfl⟩;have HB:=Lib.hid hbb;obtain ⟨c1,w1,hcv,hcell,hb1,hlt1⟩:=bytes_of r w;have hb0 : Below b w w1:=(by rw [← HB.out]; exact hb1);have hbl : b < w1.heap.size:=(by rw [← HB.out]; exact hlt1);rw [hbb] at hcv hcell;have HC:=Lib.hid hcell;clear hcell hb1 hlt1 hbb;go_enter Tryz.func158,Tryz.ntmps158;go_wp2_with fail;clear hcv
  go_loopw [12,13,101] (fun us nv i wr => us = .bool false ∧ ∃ (k n : Nat),k ≤ r.length ∧ i = .int .i64 (k : Int) ∧ nv = .int .u64 (n : Int) ∧ n < 4294967296 ∧ Hid ((hexF n (r.drop k),hexE n (r.drop k)) = (R,U)) ∧ wr = w1) (fun _ _ i _ => r.length - (RowKit.intOf i).toNat)
  case atStart => exact ⟨rfl,0,0,Nat.zero_le _,rfl,rfl,by decide,Lib.hid (by rw [List.drop_zero]; exact HR0.out),rfl⟩
  case round =>
   obtain ⟨rfl,k,n,hk,rfl,rfl,hn,HR,rfl⟩:=hrel
   by_cases hlt : k < r.length
   ·obtain ⟨c,hc⟩ : ∃ c,r[k]? = some c:=⟨r[k],List.getElem?_eq_getElem hlt⟩;have hcell:=HC.out k c hc;have hdr : r.drop k = c :: r.drop (k + 1):=by
     rw [List.drop_eq_getElem_cons hlt];rw [List.getElem?_eq_getElem hlt] at hc;injection hc with hc;rw [hc]
    have hHR:=HR.out;rw [hdr,hexF,hexE] at hHR;clear hdr hc;have hc256:=c.toNat_lt;have hlo : lo c < 256:=(c ||| 32).toNat_lt;have hbb : Below b w wr:=hb0;have h95 : (lo c : Int) - 97 < 256:=(by omega);rcases hex_kind c with ⟨h1,h2,h3⟩ | ⟨h0,h1,h2,h3⟩ | ⟨h0,h1,h2,h3⟩ | ⟨h0,h1,h3⟩ | ⟨h0,h1,h3⟩
    ·rw [h3] at hHR;have f1 : decide ((48 : Int) ≤ (c.toNat : Int)) = true:=(by simp; omega);have f2 : decide ((c.toNat : Int) ≤ 57) = true:=(by simp; omega);have f3 : ((c.toNat : Int) == 95) = false:=(by rw [beq_eq_false_iff_ne]; omega);obtain ⟨d,hd⟩ : ∃ d,c.toNat - 48 = d:=⟨_,rfl⟩;rw [hd] at hHR;have HR2:=Lib.hid (show ((if n * 16 + d < 4294967296 then hexF (n * 16 + d) (r.drop (k + 1)) else none),(if n * 16 + d < 4294967296 then hexE (n * 16 + d) (r.drop (k + 1)) else 4294967295)) = (R,U) from hHR);have hd16 : d < 16:=(by omega);have f4 : IntKind.u8.wrap ((c.toNat : Int) - 48) = (d : Int):=(by rw [IntKind.wrap_u8]; omega);have f4' : ((c.toNat : Int) - 48) % 256 = (d : Int):=(by omega);clear hHR HR h1 h2 h3 hd
     -- the digit's value is known
     have f5 : IntKind.u8.wrap 16 = 16:=(by decide);have f6 : decide ((d : Int) ≥ 16) = false:=(by simp; omega);have f7 : IntKind.u64.wrap ((n : Int) * 16) = (n : Int) * 16:=IntWalk.u64_in _ (by omega);have f11 : IntKind.u64.wrap (d : Int) = (d : Int):=IntWalk.u64_in _ (by omega);have f12 : IntKind.u64.wrap ((n : Int) * 16 + (d : Int)) = (n : Int) * 16 + (d : Int):=IntWalk.u64_in _ (by omega);have f13 : decide ((n : Int) ≥ 1152921504606846976) = false:=decide_eq_false (by omega);have f14 : decide ((n : Int) * 16 + (d : Int) < (n : Int) * 16) = false:=decide_eq_false (by omega);have f15 : IntKind.u64.wrap 16 = 16:=by decide
     by_cases hov : n * 16 + d < 4294967296
     ·have HR3:=Lib.hid (show (hexF (n * 16 + d) (r.drop (k + 1)),hexE (n * 16 + d) (r.drop (k + 1))) = (R,U) from by rw [← HR2.out,if_pos hov,if_pos hov]);have g1 : decide (((n : Int) * 16 + (d : Int)) > 4294967295) = false:=decide_eq_false (by omega);go_wp2_with fail;go_roundw
      case rel => exact ⟨rfl,k + 1,n * 16 + d,by omega,by go_num,by go_num,hov,HR3,trivial⟩
      case measure => simp [RowKit.intOf]; omega
     ·have HN:=Lib.hid (show R = none ∧ U = 4294967295 from by have h:=HR2.out; rw [if_neg hov,if_neg hov] at h; injection h with h1 h2; exact ⟨h1.symm,h2.symm⟩);have g1 : decide (((n : Int) * 16 + (d : Int)) > 4294967295) = true:=decide_eq_true (by omega);go_wp2_with fail;go_ret2;exact ⟨by rw [HN.out.1,HN.out.2]; exact ⟨_,rfl,.inl rfl⟩,by rw [HB.out]; exact hbb⟩
    ·rw [h3] at hHR;obtain ⟨d,hd⟩ : ∃ d,lo c - 87 = d:=⟨_,rfl⟩;rw [hd] at hHR;have HR2:=Lib.hid (show ((if n * 16 + d < 4294967296 then hexF (n * 16 + d) (r.drop (k + 1)) else none),(if n * 16 + d < 4294967296 then hexE (n * 16 + d) (r.drop (k + 1)) else 4294967295)) = (R,U) from hHR);have hd16 : d < 16:=(by omega);have f1 : decide ((97 : Int) ≤ (lo c : Int)) = true:=(by simp; omega);have f2 : decide ((lo c : Int) ≤ 122) = true:=(by simp; omega);have f4 : IntKind.u8.wrap ((lo c : Int) - 97) = (lo c : Int) - 97:=(by rw [IntKind.wrap_u8]; omega);have f4' : ((lo c : Int) - 97) % 256 = (lo c : Int) - 97:=(by omega);have f8 : IntKind.u8.wrap ((lo c : Int) - 97 + 10) = (d : Int):=(by rw [IntKind.wrap_u8]; omega);have f8' : ((lo c : Int) - 97 + 10) % 256 = (d : Int):=(by omega);have f3:=ne95 c (by omega);clear hHR HR h1 h2 h3 hd
     by_cases h48 : 48 ≤ c.toNat
     ·have k1 : decide ((48 : Int) ≤ (c.toNat : Int)) = true:=(by simp; omega);have k2 : decide ((c.toNat : Int) ≤ 57) = false:=(by simp; omega);clear h0
      -- the digit's value is known
      have f5 : IntKind.u8.wrap 16 = 16:=(by decide);have f6 : decide ((d : Int) ≥ 16) = false:=(by simp; omega);have f7 : IntKind.u64.wrap ((n : Int) * 16) = (n : Int) * 16:=IntWalk.u64_in _ (by omega);have f11 : IntKind.u64.wrap (d : Int) = (d : Int):=IntWalk.u64_in _ (by omega);have f12 : IntKind.u64.wrap ((n : Int) * 16 + (d : Int)) = (n : Int) * 16 + (d : Int):=IntWalk.u64_in _ (by omega);have f13 : decide ((n : Int) ≥ 1152921504606846976) = false:=decide_eq_false (by omega);have f14 : decide ((n : Int) * 16 + (d : Int) < (n : Int) * 16) = false:=decide_eq_false (by omega);have f15 : IntKind.u64.wrap 16 = 16:=by decide
      by_cases hov : n * 16 + d < 4294967296
      ·have HR3:=Lib.hid (show (hexF (n * 16 + d) (r.drop (k + 1)),hexE (n * 16 + d) (r.drop (k + 1))) = (R,U) from by rw [← HR2.out,if_pos hov,if_pos hov]);have g1 : decide (((n : Int) * 16 + (d : Int)) > 4294967295) = false:=decide_eq_false (by omega);go_wp2_with fail;refine (lower_any c _).mono ?_;rintro e w2 ⟨rfl,rfl⟩;go_wp2_with fail;refine (lower_any c _).mono ?_;rintro e w2 ⟨rfl,rfl⟩;go_wp2_with fail;refine (lower_any c _).mono ?_;rintro e w2 ⟨rfl,rfl⟩;go_wp2_with fail;go_roundw
       case rel => exact ⟨rfl,k + 1,n * 16 + d,by omega,by go_num,by go_num,hov,HR3,trivial⟩
       case measure => simp [RowKit.intOf]; omega
      ·have HN:=Lib.hid (show R = none ∧ U = 4294967295 from by have h:=HR2.out; rw [if_neg hov,if_neg hov] at h; injection h with h1 h2; exact ⟨h1.symm,h2.symm⟩);have g1 : decide (((n : Int) * 16 + (d : Int)) > 4294967295) = true:=decide_eq_true (by omega);go_wp2_with fail;refine (lower_any c _).mono ?_;rintro e w2 ⟨rfl,rfl⟩;go_wp2_with fail;refine (lower_any c _).mono ?_;rintro e w2 ⟨rfl,rfl⟩;go_wp2_with fail;refine (lower_any c _).mono ?_;rintro e w2 ⟨rfl,rfl⟩;go_wp2_with fail;go_ret2;exact ⟨by rw [HN.out.1,HN.out.2]; exact ⟨_,rfl,.inl rfl⟩,by rw [HB.out]; exact hbb⟩
     ·have k1 : decide ((48 : Int) ≤ (c.toNat : Int)) = false:=(by simp; omega);clear h0
      -- the digit's value is known
      have f5 : IntKind.u8.wrap 16 = 16:=(by decide);have f6 : decide ((d : Int) ≥ 16) = false:=(by simp; omega);have f7 : IntKind.u64.wrap ((n : Int) * 16) = (n : Int) * 16:=IntWalk.u64_in _ (by omega);have f11 : IntKind.u64.wrap (d : Int) = (d : Int):=IntWalk.u64_in _ (by omega);have f12 : IntKind.u64.wrap ((n : Int) * 16 + (d : Int)) = (n : Int) * 16 + (d : Int):=IntWalk.u64_in _ (by omega);have f13 : decide ((n : Int) ≥ 1152921504606846976) = false:=decide_eq_false (by omega);have f14 : decide ((n : Int) * 16 + (d : Int) < (n : Int) * 16) = false:=decide_eq_false (by omega);have f15 : IntKind.u64.wrap 16 = 16:=by decide
      by_cases hov : n * 16 + d < 4294967296
      ·have HR3:=Lib.hid (show (hexF (n * 16 + d) (r.drop (k + 1)),hexE (n * 16 + d) (r.drop (k + 1))) = (R,U) from by rw [← HR2.out,if_pos hov,if_pos hov]);have g1 : decide (((n : Int) * 16 + (d : Int)) > 4294967295) = false:=decide_eq_false (by omega);go_wp2_with fail;refine (lower_any c _).mono ?_;rintro e w2 ⟨rfl,rfl⟩;go_wp2_with fail;refine (lower_any c _).mono ?_;rintro e w2 ⟨rfl,rfl⟩;go_wp2_with fail;refine (lower_any c _).mono ?_;rintro e w2 ⟨rfl,rfl⟩;go_wp2_with fail;go_roundw
       case rel => exact ⟨rfl,k + 1,n * 16 + d,by omega,by go_num,by go_num,hov,HR3,trivial⟩
       case measure => simp [RowKit.intOf]; omega
      ·have HN:=Lib.hid (show R = none ∧ U = 4294967295 from by have h:=HR2.out; rw [if_neg hov,if_neg hov] at h; injection h with h1 h2; exact ⟨h1.symm,h2.symm⟩);have g1 : decide (((n : Int) * 16 + (d : Int)) > 4294967295) = true:=decide_eq_true (by omega);go_wp2_with fail;refine (lower_any c _).mono ?_;rintro e w2 ⟨rfl,rfl⟩;go_wp2_with fail;refine (lower_any c _).mono ?_;rintro e w2 ⟨rfl,rfl⟩;go_wp2_with fail;refine (lower_any c _).mono ?_;rintro e w2 ⟨rfl,rfl⟩;go_wp2_with fail;go_ret2;exact ⟨by rw [HN.out.1,HN.out.2]; exact ⟨_,rfl,.inl rfl⟩,by rw [HB.out]; exact hbb⟩
    ·rw [h3] at hHR;have HN:=Lib.hid (show R = none ∧ U = 0 from by injection hHR with h1 h2; exact ⟨h1.symm,h2.symm⟩);have f1 : decide ((97 : Int) ≤ (lo c : Int)) = true:=(by simp; omega);have f2 : decide ((lo c : Int) ≤ 122) = true:=(by simp; omega);have f4 : IntKind.u8.wrap ((lo c : Int) - 97) = (lo c : Int) - 97:=(by rw [IntKind.wrap_u8]; omega);have f4' : ((lo c : Int) - 97) % 256 = (lo c : Int) - 97:=(by omega);have f8 : IntKind.u8.wrap ((lo c : Int) - 97 + 10) = (lo c : Int) - 97 + 10:=(by rw [IntKind.wrap_u8]; omega);have f8' : ((lo c : Int) - 97 + 10) % 256 = (lo c : Int) - 97 + 10:=(by omega);have f9 : decide ((lo c : Int) - 97 + 10 ≥ 16) = true:=(by simp; omega);have f10 : IntKind.u8.wrap 16 = 16:=(by decide);have f3:=ne95 c (by omega);clear hHR HR h3
     by_cases h48 : 48 ≤ c.toNat
     ·have k1 : decide ((48 : Int) ≤ (c.toNat : Int)) = true:=(by simp; omega);have k2 : decide ((c.toNat : Int) ≤ 57) = false:=(by simp; omega);clear h0 h1 h2;go_wp2_with fail;refine (lower_any c _).mono ?_;rintro e w2 ⟨rfl,rfl⟩;go_wp2_with fail;refine (lower_any c _).mono ?_;rintro e w2 ⟨rfl,rfl⟩;go_wp2_with fail;refine (lower_any c _).mono ?_;rintro e w2 ⟨rfl,rfl⟩;go_wp2_with fail;go_ret2;exact ⟨by rw [HN.out.1,HN.out.2]; exact ⟨_,rfl,.inr rfl⟩,by rw [HB.out]; exact hbb⟩
     ·have k1 : decide ((48 : Int) ≤ (c.toNat : Int)) = false:=(by simp; omega);clear h0 h1 h2;go_wp2_with fail;refine (lower_any c _).mono ?_;rintro e w2 ⟨rfl,rfl⟩;go_wp2_with fail;refine (lower_any c _).mono ?_;rintro e w2 ⟨rfl,rfl⟩;go_wp2_with fail;refine (lower_any c _).mono ?_;rintro e w2 ⟨rfl,rfl⟩;go_wp2_with fail;go_ret2;exact ⟨by rw [HN.out.1,HN.out.2]; exact ⟨_,rfl,.inr rfl⟩,by rw [HB.out]; exact hbb⟩
    ·rw [h3] at hHR;have HN:=Lib.hid (show R = none ∧ U = 0 from by injection hHR with h1 h2; exact ⟨h1.symm,h2.symm⟩);have f1 : decide ((97 : Int) ≤ (lo c : Int)) = false:=(by simp; omega);have f3:=ne95 c (by omega);clear hHR HR h3
     by_cases h48 : 48 ≤ c.toNat
     ·have k1 : decide ((48 : Int) ≤ (c.toNat : Int)) = true:=(by simp; omega);have k2 : decide ((c.toNat : Int) ≤ 57) = false:=(by simp; omega);clear h0 h1;go_wp2_with fail;refine (lower_any c _).mono ?_;rintro e w2 ⟨rfl,rfl⟩;go_wp2_with fail;go_ret2;exact ⟨by rw [HN.out.1,HN.out.2]; exact ⟨_,rfl,.inr rfl⟩,by rw [HB.out]; exact hbb⟩
     ·have k1 : decide ((48 : Int) ≤ (c.toNat : Int)) = false:=(by simp; omega);clear h0 h1;go_wp2_with fail;refine (lower_any c _).mono ?_;rintro e w2 ⟨rfl,rfl⟩;go_wp2_with fail;go_ret2;exact ⟨by rw [HN.out.1,HN.out.2]; exact ⟨_,rfl,.inr rfl⟩,by rw [HB.out]; exact hbb⟩
    ·rw [h3] at hHR;have HN:=Lib.hid (show R = none ∧ U = 0 from by injection hHR with h1 h2; exact ⟨h1.symm,h2.symm⟩);have f1 : decide ((97 : Int) ≤ (lo c : Int)) = true:=(by simp; omega);have f2 : decide ((lo c : Int) ≤ 122) = false:=(by simp; omega);clear hHR HR h3
     by_cases h95 : c = 95
     ·subst h95;go_wp2_with fail;refine (lower_any 95 _).mono ?_;rintro e w2 ⟨rfl,rfl⟩;go_wp2_with fail;refine (lower_any 95 _).mono ?_;rintro e w2 ⟨rfl,rfl⟩;go_wp2_with fail;go_ret2;exact ⟨by rw [HN.out.1,HN.out.2]; exact ⟨_,rfl,.inr rfl⟩,by rw [HB.out]; exact hbb⟩
     have f3 : ((c.toNat : Int) == 95) = false:=by rw [beq_eq_false_iff_ne]; intro e; exact h95 (UInt8.toNat_inj.1 (by show c.toNat = 95; omega))
     by_cases h48 : 48 ≤ c.toNat
     ·have k1 : decide ((48 : Int) ≤ (c.toNat : Int)) = true:=(by simp; omega);have k2 : decide ((c.toNat : Int) ≤ 57) = false:=(by simp; omega);clear h0 h1;go_wp2_with fail;refine (lower_any c _).mono ?_;rintro e w2 ⟨rfl,rfl⟩;go_wp2_with fail;refine (lower_any c _).mono ?_;rintro e w2 ⟨rfl,rfl⟩;go_wp2_with fail;go_ret2;exact ⟨by rw [HN.out.1,HN.out.2]; exact ⟨_,rfl,.inr rfl⟩,by rw [HB.out]; exact hbb⟩
     ·have k1 : decide ((48 : Int) ≤ (c.toNat : Int)) = false:=(by simp; omega);clear h0 h1;go_wp2_with fail;refine (lower_any c _).mono ?_;rintro e w2 ⟨rfl,rfl⟩;go_wp2_with fail;refine (lower_any c _).mono ?_;rintro e w2 ⟨rfl,rfl⟩;go_wp2_with fail;go_ret2;exact ⟨by rw [HN.out.1,HN.out.2]; exact ⟨_,rfl,.inr rfl⟩,by rw [HB.out]; exact hbb⟩
   ·have hkr : r.drop k = []:=List.drop_of_length_le (by omega);have HN:=Lib.hid (show R = some n from by have h:=HR.out; rw [hkr] at h; injection h with h1 h2; exact h1.symm);clear HR hkr;go_wp2_with fail;go_ret2;exact ⟨by rw [HN.out]; rfl,by rw [HB.out]; exact hb0⟩
end Go.Proofs.YtonehlkiackhcaaGreatDoor

namespace Go.Proofs.YtonehlkiackhcaaGreatDoor
open Go.RowKit Go.Lib
theorem u8_ne {c d : UInt8} (h : c ≠ d) : ((c.toNat : Int) == (d.toNat : Int)) = false:=by
 rw [beq_eq_false_iff_ne];intro e;exact h (UInt8.toNat_inj.1 (by omega))
def plainS (l : List UInt8) (x : Sht) (frm i : Nat) : Except Nat UInt8 :=
 if x.lim ≤ i then .error frm else if at0 l i = 92 ∨ at0 l i = 10 ∨ at0 l i = x.quo then .error i else .ok (at0 l i)
def Thr {α : Type} (R : Except Nat α) (v : α → Value) (e : Ending) : Prop:=match R with
 | .ok a => e = .returned (v a)
 | .error i => e = .panicked [{ v:=probL 1 (i : Int),recovered:=false }]
theorem below_drew_then {w w' : World} {n : Nat} (h : Below (w.drewN n).heap.size (w.drewN n) w') : Below w.heap.size w w':=below_then (below_drewN (Below.refl _ _) n) h (Nat.le_refl _)
theorem plain_any {w : World} {g : Nat} {l : List UInt8} {i : Nat} {x : Sht} (h : Blk w g 70 (rdC l i x)) (frm : Nat) (hl : l.length ≤ 16000) (hx : x.lim ≤ l.length) :
  Calls Tryz.prog 95 #[.pointer (some ⟨g,0,none⟩),.int .i64 (frm : Int)] w fun e w' => Thr (plainS l x frm i) (fun c => .int .u8 (c.toNat : Int)) e ∧ Below w.heap.size w w':=by
 have HP : Hid (plainS l x frm i = if x.lim ≤ i then .error frm else if at0 l i = 92 ∨ at0 l i = 10 ∨ at0 l i = x.quo then .error i else .ok (at0 l i)):=Lib.hid rfl;obtain ⟨R,hR⟩ : ∃ R,plainS l x frm i = R:=⟨_,rfl⟩;rw [hR] at HP ⊢;clear hR;obtain ⟨q1,q2,q3⟩:=h.rules;unfold rdC at q1;clear h
 by_cases hi : x.lim ≤ i
 ·have HR:=Lib.hid (show R = .error frm from by rw [HP.out,if_pos hi]);have d1 : decide ((x.lim : Int) ≤ (i : Int)) = true:=decide_eq_true (by omega);go_enter Tryz.func95,Tryz.ntmps95;go_wp2_with fail;go_quiet (fail);go_wp2_with fail;refine (lfail_any _ _ _).mono ?_;rintro e w1 ⟨rfl,hb⟩;go_wp2_with fail;exact ⟨rfl,by rw [HR.out]; rfl,below_drew_then hb⟩
 ·have HP2:=Lib.hid (show R = if at0 l i = 92 ∨ at0 l i = 10 ∨ at0 l i = x.quo then .error i else .ok (at0 l i) from by rw [HP.out,if_neg hi]);have d1 : decide ((x.lim : Int) ≤ (i : Int)) = false:=decide_eq_false (by omega);have hix:=run_idx l i (by omega) (i : Int) rfl;obtain ⟨c,hc⟩ : ∃ c,at0 l i = c:=⟨_,rfl⟩;rw [hc] at HP2 hix;obtain ⟨qu,hqu⟩ : ∃ qu,x.quo = qu:=⟨_,rfl⟩;rw [hqu] at HP2 q1;clear HP hc hqu
  by_cases h1 : c = 92
  ·subst h1;have HR:=Lib.hid (show R = .error i from by rw [HP2.out,if_pos (.inl rfl)]);clear HP2;go_enter Tryz.func95,Tryz.ntmps95;go_wp2_with fail;go_quiet (fail);go_wp2_with fail;go_quiet (fail);go_wp2_with fail;refine (lfail_any _ _ _).mono ?_;rintro e w1 ⟨rfl,hb⟩;go_wp2_with fail;exact ⟨rfl,by rw [HR.out]; rfl,below_drew_then hb⟩
  ·have b1 : ((c.toNat : Int) == 92) = false:=u8_ne (d:=92) h1
   by_cases h2 : c = 10
   ·subst h2;have HR:=Lib.hid (show R = .error i from by rw [HP2.out,if_pos (.inr (.inl rfl))]);clear HP2;go_enter Tryz.func95,Tryz.ntmps95;go_wp2_with fail;go_quiet (fail);go_wp2_with fail;go_quiet (fail);go_wp2_with fail;refine (lfail_any _ _ _).mono ?_;rintro e w1 ⟨rfl,hb⟩;go_wp2_with fail;exact ⟨rfl,by rw [HR.out]; rfl,below_drew_then hb⟩
   ·have b2 : ((c.toNat : Int) == 10) = false:=u8_ne (d:=10) h2
    by_cases h3 : c = qu
    ·have b3 : ((c.toNat : Int) == (qu.toNat : Int)) = true:=(by rw [h3]; simp);have HR:=Lib.hid (show R = .error i from by rw [HP2.out,if_pos (.inr (.inr h3))]);clear h3;clear HP2;go_enter Tryz.func95,Tryz.ntmps95;go_wp2_with fail;go_quiet (fail);go_wp2_with fail;go_quiet (fail);go_wp2_with fail;refine (lfail_any _ _ _).mono ?_;rintro e w1 ⟨rfl,hb⟩;go_wp2_with fail;exact ⟨rfl,by rw [HR.out]; rfl,below_drew_then hb⟩
    ·have b3 : ((c.toNat : Int) == (qu.toNat : Int)) = false:=u8_ne h3;have HR:=Lib.hid (show R = .ok c from by rw [HP2.out,if_neg (by rintro (h | h | h) <;> contradiction)]);clear HP2 h1 h2 h3;go_enter Tryz.func95,Tryz.ntmps95;go_wp2_with fail;go_quiet (fail);go_wp2_with fail;go_quiet (fail);go_wp2_with fail;go_ret;exact ⟨by rw [HR.out]; rfl,below_drewN (Below.refl _ _) _⟩
end Go.Proofs.YtonehlkiackhcaaGreatDoor

namespace Go.Proofs.YtonehlkiackhcaaGreatDoor
open Go.RowKit Go.Lib Go.Sort
def ErrC (w : World) (g : Nat) : Prop:=∃ ev,w.cell? ⟨g,0,none⟩ = some ev ∧ (ev = .nilIface ∨ ∃ t p,ev = .iface t p)
theorem ErrC.keepB {w w' : World} {g : Nat} (h : ErrC w g) (hb : Below w.heap.size w w') : ErrC w' g:=by
 obtain ⟨ev,h1,h2⟩:=h;exact ⟨ev,(hb.cell (p:=⟨g,0,none⟩) (lt_of_cell h1)).trans h1,h2⟩
structure EnvR (w : World) : Prop where
 tabs : Tabs w
 syn : ErrC w 6
 rng : ErrC w 7
theorem EnvR.keepB {w w' : World} (h : EnvR w) (hb : Below w.heap.size w w') : EnvR w':=⟨h.tabs.keepB hb,h.syn.keepB hb,h.rng.keepB hb⟩
def PuV (R : Option Nat) (U : Int) : Int:=match R with
 | some n => n
 | none => U
theorem hex1_any (r : List UInt8) (w : World) (hl : r.length ≤ 16000) (he : EnvR w) :
  Calls Tryz.prog 123 #[.string ⟨r.toArray⟩,.int .i64 16,.int .i64 32] w fun e w' => (match hexS r with
   | some n => e = .returned (.tuple #[.int .u64 (n : Int),.nilIface])
   | none => ∃ N : Nat,e = .returned (.tuple #[.int .u64 (hexE 0 r),.iface 240 (.pointer (some ⟨N,0,none⟩))])) ∧ Below w.heap.size w w':=by
 have hH:=hex0_any r w hl;obtain ⟨R,hR⟩ : ∃ R,hexS r = R:=⟨_,rfl⟩;obtain ⟨U,hU⟩ : ∃ U,hexE 0 r = U:=⟨_,rfl⟩;rw [hR,hU] at hH;rw [hR,hU];have HH:=Lib.hid hH;clear hH hR hU;go_enter Tryz.func123,Tryz.ntmps123;go_wp2_with fail;refine HH.out.mono ?_;rintro e w1 ⟨hp,hb⟩;have he1:=he.keepB hb;rcases R with _ | n
 ·obtain ⟨k,rfl,hk⟩:=hp;rcases hk with rfl | rfl
  ·obtain ⟨ev,hev,hek⟩:=he1.rng;have HT:=Lib.hid (fun fn => Tryz.strconv_toError_range fn ⟨r.toArray⟩ 16 32 ev w1 (by show r.toArray.size ≤ _; simp; omega) hev hek);go_wp2_with fail;refine (HT.out _).mono ?_;rintro e w2 ⟨N,rfl,h1,h2,h3⟩;go_wp2_with fail;go_ret2;exact ⟨⟨N,rfl⟩,below_then hb h3 hb.size⟩
  ·obtain ⟨ev,hev,hek⟩:=he1.syn;have HT:=Lib.hid (fun fn => Tryz.strconv_toError_syntax fn ⟨r.toArray⟩ 16 32 ev w1 (by show r.toArray.size ≤ _; simp; omega) hev hek);go_wp2_with fail;refine (HT.out _).mono ?_;rintro e w2 ⟨N,rfl,h1,h2,h3⟩;go_wp2_with fail;go_ret2;exact ⟨⟨N,rfl⟩,below_then hb h3 hb.size⟩
 ·have hp : e = .returned (.tuple #[.int .u64 (n : Int),.nilIface]):=hp;subst hp;go_wp2_with fail;go_ret2;exact ⟨rfl,hb⟩
def hexZ (r : List UInt8) : Int:=wrap64 (hexE 0 r)
def hexP (r : List UInt8) : Value:=match hexS r with
 | some n => .tuple #[.int .i64 (n : Int),.bool true]
 | none => .tuple #[.int .i64 (hexZ r),.bool false]
theorem hex_any {w : World} {g : Nat} {l : List UInt8} {i : Nat} {x : Sht} (h : Blk w g 70 (rdC l i x)) (a b : Nat) (hab : a ≤ b) (hb : b ≤ l.length) (hl : l.length ≤ 16000) (he : EnvR w) :
  Calls Tryz.prog 86 #[.pointer (some ⟨g,0,none⟩),.int .i64 (a : Int),.int .i64 (b : Int)] w fun e w' => e = .returned (hexP (cutL l a b)) ∧ Below w.heap.size w w':=by
 have hsub:=run_sub l a b hab hb (a : Int) (b : Int) rfl rfl;have hnil:=cutL_nil (a:=a) hb;have hclen:=cutL_len (a:=a) hb;obtain ⟨t,ht⟩ : ∃ t,cutL l a b = t:=⟨_,rfl⟩;rw [show (l.drop a).take (b - a) = t from ht] at hsub;rw [ht] at hnil hclen ⊢;have HH:=Lib.hid (fun W (hW : EnvR W) => hex1_any t W (by omega) hW);obtain ⟨P,hP⟩ : ∃ P,hexP t = P:=⟨_,rfl⟩;rw [hP];have HP:=Lib.hid hP;unfold hexP at hP;have hbb:=Below.refl w.heap.size w;obtain ⟨q1,q2,q3⟩:=h.rules;unfold rdC at q1;clear ht;go_enter Tryz.func86,Tryz.ntmps86;go_wp2_with fail;refine (HH.out _ he).mono ?_;rintro e w1 ⟨hp,hb1⟩;cases hS : hexS t with
 | none =>
  rw [hS] at hp hP;obtain ⟨N,rfl⟩:=hp;subst hP;go_wp2_with fail;go_ret2;exact ⟨rfl,hb1⟩
 | some n =>
  rw [hS] at hp hP;simp only at hp hP;subst hp hP;have hn:=hexS_lt hS;have hne:=(hexS_bytes hS).1;have hlt : a < b:=by
   rcases Nat.lt_or_ge a b with h1 | h1
   ·exact h1
   ·exact absurd (hnil.2 h1) hne
  have f1 : IntKind.i64.wrap (n : Int) = (n : Int):=IntWalk.i64_in _ (by omega);have f2 : decide ((a : Int) < (b : Int)) = true:=decide_eq_true (by omega);clear hne hS hnil;go_wp2_with fail;go_ret2;exact ⟨rfl,hb1⟩
end Go.Proofs.YtonehlkiackhcaaGreatDoor

namespace Go.Proofs.YtonehlkiackhcaaGreatDoor
open Go.Lib
theorem strEnd_err (q : List UInt8) (raw : Bool) : ∀ (r : List UInt8) (esc : Bool) (k : Nat) (c : Int) (i : Nat),strEnd q raw r esc k = .error (c,i) → c ≠ 0
 | [],esc,k,c,i,h => by
  unfold strEnd at h;injection h with h;injection h with h1 _;omega
 | x :: r,esc,k,c,i,h => by
  unfold strEnd at h;split at h
  ·exact strEnd_err q raw r _ _ c i h
  ·split at h
   ·simp at h
   ·split at h
    ·injection h with h;injection h with h1 _;omega
    ·exact strEnd_err q raw r _ _ c i h
theorem numTail_err {r : List UInt8} {n : Nat} {c : Int} {i : Nat} (h : numTail r n = .error (c,i)) : c ≠ 0:=by
 unfold numTail at h;split at h
 ·injection h with h;injection h with h1 _;omega
 ·split at h
  ·injection h with h;injection h with h1 _;omega
  ·simp at h
theorem lexStr_err {p : Nat} {r : List UInt8} {c : Int} {i : Nat} (h : lexStr p r = .error (c,i)) : c ≠ 0:=by
 unfold lexStr at h;split at h
 ·rename_i e he;injection h with h;subst h;exact strEnd_err _ _ _ _ _ _ _ he
 ·simp at h
theorem lexTok_err {r : List UInt8} {c : Int} {i : Nat} (h : lexTok r = .error (c,i)) : c ≠ 0:=by
 unfold lexTok at h;split at h
 ·exact lexStr_err h
 ·split at h
  ·exact lexStr_err h
  ·split at h
   ·unfold lexName at h;split at h
    ·injection h with h;injection h with h1 _;omega
    ·simp at h
   ·split at h
    ·unfold lexNum at h;split at h
     ·split at h
      ·injection h with h;injection h with h1 _;omega
      ·exact numTail_err h
     ·exact numTail_err h
    ·unfold lexSign at h;split at h
     ·injection h with h;injection h with h1 _;omega
     ·simp at h
theorem take_fault {l : List UInt8} {i : Nat} {s : Scn} {c : Int} {j : Nat} (h : takeTok l i s = .fault c j) : c ≠ 0:=by
 unfold takeTok at h;split at h
 ·rename_i he;injection h with h1 _;rw [← h1];exact lexTok_err he
 ·split at h
  ·split at h
   ·injection h with h1 _;omega
   ·simp at h
  ·simp at h
theorem step_fault {l : List UInt8} {s : Scn} {c : Int} {j : Nat} (h : stepS l s = .fault c j) : c ≠ 0:=by
 unfold stepS stepB at h;split at h
 ·split at h
  ·injection h with h1 _;omega
  ·simp at h
 ·split at h
  ·split at h <;> simp at h
  ·split at h
   ·split at h
    ·injection h with h1 _;omega
    ·exact take_fault h
   ·exact take_fault h
theorem scanF_err {l : List UInt8} (hl : l.length ≤ 16000) : ∀ (f : Nat) (s : Scn) (c i : Int),SInv l s → l.length < f + s.at_ → scanF l f s = .error (c,i) → c ≠ 0
 | 0,s,c,i,hi,hf,h => by have:=hi.le; omega
 | f + 1,s,c,i,hi,hf,h => by
  unfold scanF at h;cases hst : stepS l s with
  | done t => rw [hst] at h; simp at h
  | fault c' i' =>
   rw [hst] at h;injection h with h;injection h with h1 _;rw [← h1];exact step_fault hst
  | more s' =>
   rw [hst] at h;obtain ⟨h1,h2⟩:=step_inv hl hi hst;exact scanF_err hl f s' c i h1 (by omega) h
theorem scanT_err {l : List UInt8} {c i : Int} (h : scanT l = .error (c,i)) : c ≠ 0:=by
 unfold scanT at h;split at h
 ·rename_i hz;injection h with h;rw [h] at hz;exact hz
 ·rename_i hz;have hl:=(chars_of l (by simpa using hz)).1;exact scanF_err hl _ _ _ _ ⟨by simp,by simp,Nat.zero_le _,by simp,Nat.le_refl _⟩ (by show _ < _ + 1 + 0; omega) h
end Go.Proofs.YtonehlkiackhcaaGreatDoor
