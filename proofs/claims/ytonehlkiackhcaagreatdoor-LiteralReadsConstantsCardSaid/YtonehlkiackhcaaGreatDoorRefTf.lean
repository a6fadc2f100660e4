/- The reference's Tokens: the tokens of a source, or its fault: the faults of the text. Nothing is claimed here. -/
import Derived.Test.YtonehlkiackhcaaGreatDoorRefR
import Derived.Test.YtonehlkiackhcaaGreatDoorRefT
import Derived.Test.YtonehlkiackhcaaGreatDoorLitL
set_option linter.unusedVariables false
set_option maxRecDepth 100000
set_option maxHeartbeats 16000000
namespace Go.Proofs.YtonehlkiackhcaaGreatDoor
open Go.RowKit Go.Shelf Go.Lib Go.Maps
theorem blkL_is (c : UInt8) : ([32] : List UInt8).contains c = isBlk c:=by
 have:=byte_all (fun c => ([32] : List UInt8).contains c == isBlk c) (by decide +kernel) c;simpa using this
def isHash (c : UInt8) : Bool:=c == 35
theorem hashL_is (c : UInt8) : ([35] : List UInt8).contains c = isHash c:=by
 have:=byte_all (fun c => ([35] : List UInt8).contains c == isHash c) (by decide +kernel) c;simpa using this
theorem blank_any (l : List UInt8) (i : Nat) (w : World) (hl : l.length ≤ 16000) (hi : i ≤ l.length) :
  Calls Tryz.prog 126 #[.string ⟨l.toArray⟩,.int .i64 (i : Int)] w fun e w' => e = .returned (.int .i64 ((i + skipLen (l.drop i) : Nat) : Int)) ∧ w = w':=by
 obtain ⟨n,hn⟩ : ∃ n,span isBlk (l.drop i) = n:=⟨_,rfl⟩;obtain ⟨m,hm⟩ : ∃ m,i + n = m:=⟨_,rfl⟩;have hle:=span_drop_le isBlk l i hi;rw [hn,hm] at hle;have hsk : i + skipLen (l.drop i) = if at0 l m = 35 then m + span inLn (l.drop m) else m:=by
  unfold skipLen;rw [hn,at0_drop,hm,List.drop_drop,hm];split <;> omega
 have HSK:=Lib.hid hsk;have HRUN:=Lib.hid (fun W => run_any isBlk [32] blkL_is l i (i : Int) rfl W hl (by omega));have HM:=Lib.hid (show i + span isBlk (l.drop i) = m by rw [hn]; exact hm);obtain ⟨R,hR⟩ : ∃ R,i + skipLen (l.drop i) = R:=⟨_,rfl⟩;rw [hR];have HR:=Lib.hid hR;clear hsk hn hm hR;cases hh : isHash (at0 l m)
 ·have HH:=Lib.hid hh;have hfin : m = R:=by
   rw [← HR.out,HSK.out,if_neg (by intro e; rw [e] at hh; exact absurd hh (by decide))]
  have HF:=Lib.hid hfin;clear hh hfin;go_enter Tryz.func126,Tryz.ntmps126;go_wp2_with fail;refine (HRUN.out _).mono ?_;rintro e w1 ⟨rfl,rfl⟩;rw [HM.out];go_wp2_with fail;refine (hasp_any isHash [35] hashL_is rfl l m (m : Int) rfl false HH.out _ hl (by omega)).mono ?_;rintro e w1 ⟨rfl,rfl⟩;go_wp2_with fail;go_ret;exact ⟨ret_int (by have:=HF.out; omega),rfl⟩
 ·have HH:=Lib.hid hh;have hfin : m + span inLn (l.drop m) = R:=by
   rw [← HR.out,HSK.out,if_pos (by simpa [isHash] using hh)]
  have HF:=Lib.hid hfin;clear hh hfin;go_enter Tryz.func126,Tryz.ntmps126;go_wp2_with fail;refine (HRUN.out _).mono ?_;rintro e w1 ⟨rfl,rfl⟩;rw [HM.out];go_wp2_with fail;refine (hasp_any isHash [35] hashL_is rfl l m (m : Int) rfl true HH.out _ hl (by omega)).mono ?_;rintro e w1 ⟨rfl,rfl⟩;go_wp2_with fail
  go_loop [1] (fun v => ∃ j : Nat,m ≤ j ∧ j ≤ l.length ∧ v = .int .i64 (j : Int) ∧ Hid (j + span inLn (l.drop j) = R)) (fun v => 40000 - (RowKit.intOf v).toNat)
  case atStart => exact ⟨m,Nat.le_refl _,hle,rfl,HF⟩
  case round =>
   obtain ⟨j,hmj,hj,rfl,HS⟩:=hrel
   by_cases hlt : j < l.length
   ·have hix:=run_idx l j hlt (j : Int) rfl;have c1 : decide ((j : Int) < (l.length : Int)) = true:=decide_eq_true (by omega);have hsp:=span_at inLn l j hlt
    by_cases h10 : at0 l j = 10
    ·rw [h10] at hix;rw [h10,show inLn 10 = false from by decide,if_neg (by decide)] at hsp;have HJ : Hid (j = R):=Lib.hid (by have:=HS.out; rw [hsp] at this; omega);clear hsp h10;go_wp2_with fail;go_ret;exact ⟨ret_int (by have:=HJ.out; omega),rfl⟩
    ·have c2 : (((at0 l j).toNat : Int) != 10) = true:=(by rw [bne_iff_ne]; intro e; exact h10 (UInt8.toNat_inj.1 (by show (at0 l j).toNat = 10; omega)));rw [show inLn (at0 l j) = true from by unfold inLn; rw [bne_iff_ne]; exact h10,if_pos rfl] at hsp;have HN : Hid (j + 1 + span inLn (l.drop (j + 1)) = R):=Lib.hid (by have:=HS.out; rw [hsp] at this; omega);clear hsp h10;go_wp2_with fail
     go_round
     case rel => exact ⟨j + 1,by omega,by omega,by go_num,HN⟩
     case measure => simp [RowKit.intOf]; omega
   ·have c1 : decide ((j : Int) < (l.length : Int)) = false:=decide_eq_false (by omega);have HJ : Hid (j = R):=Lib.hid (by have:=HS.out; rw [span_end inLn l j (by omega)] at this; omega);go_wp2_with fail;go_ret;exact ⟨ret_int (by have:=HJ.out; omega),rfl⟩
end Go.Proofs.YtonehlkiackhcaaGreatDoor

namespace Go.Proofs.YtonehlkiackhcaaGreatDoor
open Go.RowKit Go.Shelf Go.Lib Go.Maps
theorem tokens_flt (l : List UInt8) (w : World) (hl : l.length ≤ 9223372036854775807) (hT : Tabs w) (c i : Int) (hs : sfault l = (c,i)) (hc : c ≠ 0) :
  Calls Tryz.prog 91 #[.string ⟨l.toArray⟩] w (ScPost w (.error (c,i))):=by
 have hb0:=(Below.refl w.heap.size w).alloc (Nat.le_refl _) (.cells #[.int .i64 0,.int .i64 0] 29);have hP:=Blk.new w 29 #[.int .i64 0,.int .i64 0];have hT1:=hT.keepB hb0;have HZ:=Lib.hid hs;have hcb : (c != 0) = true:=by simpa using hc
 clear hs hc hT;go_enter Tryz.func91,Tryz.ntmps91;go_wp2_with fail;refine (sourceFault_any l _ hl hT1).mono ?_;rintro e w1 ⟨rfl,hb1⟩;rw [HZ.out];have hP1:=hP.belowS hb1;have hb:=below_then hb0 hb1 (by simp);clear hP hb0 hb1 hT1;obtain ⟨q1,q2,q3⟩:=hP1.rules;unfold flt;go_wp2_with fail;go_region
 all_goals go_wp2_with fail
 have hbs:=(hb.setCell (p:=⟨w.heap.size,0,none⟩) (Nat.le_refl _) (.int .i64 c)).setCell (p:=⟨w.heap.size,1,none⟩) (Nat.le_refl _) (.int .i64 i)
 all_goals exact ret_tmp_blk rfl rfl ((((hP1.set_ 0 (.int .i64 c)).set_ 1 (.int .i64 i)).alloc _).drew) _ Tryz.underlying29 rfl (by kernel_rfl) rfl _ rfl (ScPost.errT rfl rfl ((hbs.alloc hbs.size _).drew))
end Go.Proofs.YtonehlkiackhcaaGreatDoor
