/- The literals: a text between quotes of the other kind. Nothing is claimed here. -/
import Derived.Test.YtonehlkiackhcaaGreatDoorLitQo
set_option linter.unusedVariables false
set_option linter.unusedSimpArgs false
set_option maxRecDepth 100000
set_option maxHeartbeats 16000000
namespace Go.Proofs.YtonehlkiackhcaaGreatDoor
open Go.RowKit Go.Shelf Go.Lib
theorem and15w_all : ∀ a : Fin 256,bits .and .i32 (a.val:Int) 15 = ((a.val % 16:Nat):Int):=by decide +kernel
theorem and15w (a:Nat) (h : a < 256) : bits .and .i32 (a:Int) 15 = ((a % 16:Nat):Int):=and15w_all ⟨a,h⟩
theorem quoted34c_any (s : List UInt8) (w : World) (hl : s.length ≤ 2097152) (hir : ∀ r ∈ runesL s,IrOk r) :
  Calls Tryz.prog 25 #[.string ⟨s.toArray⟩,.int .u8 34,.func (.func 26) #[] #[],.func (.func 27) #[] #[]] w fun e w' => e = .returned (.string ⟨(quotedS 34 ctlB (runesL s)).toArray⟩)∧Below w.heap.size w w':=by
 have hrl:=runesF_len s.length s;have hrt:=fun r (h : r ∈ runesL s) => runesF_lt s.length s r h;have HRU:=Lib.hid (fun W => runes_any s W (by omega));rw [show runesF s.length s = runesL s from rfl] at hrl;have HQS:=Lib.hid (show quotedS 34 ctlB (runesL s) = QL 34 ctlB (runesL s) (runesL s).length ++ [34] from by unfold quotedS QL; rw [List.take_length]; rfl);obtain ⟨rs,hrs⟩ : ∃ rs,runesL s = rs:=⟨_,rfl⟩;rw [hrs] at hrl hrt hir HRU HQS ⊢;have HRT:=Lib.hid hrt;have HI:=Lib.hid hir;have HN0:=Lib.hid (fun k h => QL_next 34 ctlB rs k h);clear hrs hrt hir;have hBl:=Bld.new w;have hb:=(Below.refl w.heap.size w).alloc (Nat.le_refl _) (.cells #[.pointer none,.slice none 0 0] 99);go_enter Tryz.func25,Tryz.ntmps25;go_wp2_with fail;refine (bld_byte hBl (by simp) 34 34 rfl).mono ?_;rintro e w1 ⟨rfl,h1,h2,h3⟩;have hb1:=hb.trans h2;clear hBl hb h2 h3;go_wp2_with fail;refine (HRU.out w1).mono ?_;rintro e w2 ⟨A,cap,rfl,hRow,hb2⟩;have hBl:=h1.belowS hb2;have hb:=below_then hb1 hb2 hb1.size;obtain ⟨b,hbb⟩ : ∃ b,w.heap.size = b:=⟨_,rfl⟩;have HBB:=Lib.hid hbb;rw [hbb] at hBl hb ⊢;clear h1 hb1 hb2 HRU hbb;go_wp2_with fail
 go_loopw [19] (fun i wr => ∃ (k:Nat) (L : List UInt8),k ≤ rs.length∧i = .int .i64 (k:Int)∧Hid (L = QL 34 ctlB rs k)∧L.length ≤ 1 + 4 * k∧Bld wr b L∧RRow wr A rs∧Below b w wr) (fun i _ => rs.length - (RowKit.intOf i).toNat)
 case atStart => exact ⟨0,[34],Nat.zero_le _,rfl,Lib.hid rfl,by simp,hBl,hRow,hb⟩
 case round =>
  clear hBl hRow hb;obtain ⟨k,L,hk,rfl,HL,hLl,hBl,hRow,hb⟩:=hrel
  by_cases hlt : k < rs.length
  ·obtain ⟨g,rfl,hcell⟩:=hRow.at_ hlt;have HNX:=Lib.hid (fun X (h : charQ 34 ctlB rs[k] = X) => show L ++ X = QL 34 ctlB rs (k + 1) from by rw [HN0.out k hlt,h,HL.out]);have hrt:=HRT.out rs[k] (List.getElem_mem hlt);have HIR:=Lib.hid (HI.out rs[k] (List.getElem_mem hlt));obtain ⟨r,hr⟩ : ∃ r,rs[k] = r:=⟨_,rfl⟩;rw [hr] at HNX hrt HIR hcell;clear hr HL
   by_cases h10 : r = 10
   ·subst h10
    -- a character that has an escape of two characters
    have HCQ:=Lib.hid (show charQ 34 ctlB 10 = [92,110] from by decide);go_wp2_with fail;refine (HIR.out wr).mono ?_;rintro e w8 ⟨kx,rfl,hb8,hkx⟩
    replace hRow:=hRow.belowS hb8
    replace hb:=below_then hb hb8 (by have:=hb.size; rw [HBB.out] at this; exact this)
    replace hBl:=hBl.belowS hb8
    clear hb8;obtain rfl : kx = 0:=hkx (by decide);clear hkx;go_wp2_with fail;refine (bld_byte hBl (by first | omega | (simp; omega)) 92 92 rfl).mono ?_;rintro e w9 ⟨rfl,h1,h2,h3⟩;obtain ⟨T9,hT9⟩:=hBl.blk
    replace hRow:=hRow.others hT9 h3
    replace hb:=hb.trans h2
    replace hBl:=h1
    clear h1 h2 h3 hT9;have hx9 : ((⟨#[10,110,9,116,92,92,34,34,39,39]⟩ : ByteArray)[0 + 1]'(by decide)).toNat = 110:=rfl;go_wp2_with fail;refine (bld_byte hBl (by first | omega | (simp; omega)) 110 110 rfl).mono ?_;rintro e w9 ⟨rfl,h1,h2,h3⟩;obtain ⟨T9,hT9⟩:=hBl.blk
    replace hRow:=hRow.others hT9 h3
    replace hb:=hb.trans h2
    replace hBl:=h1
    clear h1 h2 h3 hT9;go_wp2_with fail;go_roundw
    case rel => exact ⟨k + 1,_,by omega,by go_num,Lib.hid (by rw [← HNX.out ([92,110]) HCQ.out] <;> simp),(by first | omega | (simp; omega) | simp),hBl,hRow,hb⟩
    case measure => simp [RowKit.intOf]; omega
   by_cases h9 : r = 9
   ·subst h9
    -- a character that has an escape of two characters
    have HCQ:=Lib.hid (show charQ 34 ctlB 9 = [92,116] from by decide);go_wp2_with fail;refine (HIR.out wr).mono ?_;rintro e w8 ⟨kx,rfl,hb8,hkx⟩
    replace hRow:=hRow.belowS hb8
    replace hb:=below_then hb hb8 (by have:=hb.size; rw [HBB.out] at this; exact this)
    replace hBl:=hBl.belowS hb8
    clear hb8;obtain rfl : kx = 2:=hkx (by decide);clear hkx;go_wp2_with fail;refine (bld_byte hBl (by first | omega | (simp; omega)) 92 92 rfl).mono ?_;rintro e w9 ⟨rfl,h1,h2,h3⟩;obtain ⟨T9,hT9⟩:=hBl.blk
    replace hRow:=hRow.others hT9 h3
    replace hb:=hb.trans h2
    replace hBl:=h1
    clear h1 h2 h3 hT9;have hx9 : ((⟨#[10,110,9,116,92,92,34,34,39,39]⟩ : ByteArray)[2 + 1]'(by decide)).toNat = 116:=rfl;go_wp2_with fail;refine (bld_byte hBl (by first | omega | (simp; omega)) 116 116 rfl).mono ?_;rintro e w9 ⟨rfl,h1,h2,h3⟩;obtain ⟨T9,hT9⟩:=hBl.blk
    replace hRow:=hRow.others hT9 h3
    replace hb:=hb.trans h2
    replace hBl:=h1
    clear h1 h2 h3 hT9;go_wp2_with fail;go_roundw
    case rel => exact ⟨k + 1,_,by omega,by go_num,Lib.hid (by rw [← HNX.out ([92,116]) HCQ.out] <;> simp),(by first | omega | (simp; omega) | simp),hBl,hRow,hb⟩
    case measure => simp [RowKit.intOf]; omega
   by_cases h92 : r = 92
   ·subst h92
    -- a character that has an escape of two characters
    have HCQ:=Lib.hid (show charQ 34 ctlB 92 = [92,92] from by decide);go_wp2_with fail;refine (HIR.out wr).mono ?_;rintro e w8 ⟨kx,rfl,hb8,hkx⟩
    replace hRow:=hRow.belowS hb8
    replace hb:=below_then hb hb8 (by have:=hb.size; rw [HBB.out] at this; exact this)
    replace hBl:=hBl.belowS hb8
    clear hb8;obtain rfl : kx = 4:=hkx (by decide);clear hkx;go_wp2_with fail;refine (bld_byte hBl (by first | omega | (simp; omega)) 92 92 rfl).mono ?_;rintro e w9 ⟨rfl,h1,h2,h3⟩;obtain ⟨T9,hT9⟩:=hBl.blk
    replace hRow:=hRow.others hT9 h3
    replace hb:=hb.trans h2
    replace hBl:=h1
    clear h1 h2 h3 hT9;have hx9 : ((⟨#[10,110,9,116,92,92,34,34,39,39]⟩ : ByteArray)[4 + 1]'(by decide)).toNat = 92:=rfl;go_wp2_with fail;refine (bld_byte hBl (by first | omega | (simp; omega)) 92 92 rfl).mono ?_;rintro e w9 ⟨rfl,h1,h2,h3⟩;obtain ⟨T9,hT9⟩:=hBl.blk
    replace hRow:=hRow.others hT9 h3
    replace hb:=hb.trans h2
    replace hBl:=h1
    clear h1 h2 h3 hT9;go_wp2_with fail;go_roundw
    case rel => exact ⟨k + 1,_,by omega,by go_num,Lib.hid (by rw [← HNX.out ([92,92]) HCQ.out] <;> simp),(by first | omega | (simp; omega) | simp),hBl,hRow,hb⟩
    case measure => simp [RowKit.intOf]; omega
   by_cases h34 : r = 34
   ·subst h34
    -- a character that has an escape of two characters
    have HCQ:=Lib.hid (show charQ 34 ctlB 34 = [92,34] from by decide);go_wp2_with fail;refine (HIR.out wr).mono ?_;rintro e w8 ⟨kx,rfl,hb8,hkx⟩
    replace hRow:=hRow.belowS hb8
    replace hb:=below_then hb hb8 (by have:=hb.size; rw [HBB.out] at this; exact this)
    replace hBl:=hBl.belowS hb8
    clear hb8;obtain rfl : kx = 6:=hkx (by decide);clear hkx;go_wp2_with fail;refine (bld_byte hBl (by first | omega | (simp; omega)) 92 92 rfl).mono ?_;rintro e w9 ⟨rfl,h1,h2,h3⟩;obtain ⟨T9,hT9⟩:=hBl.blk
    replace hRow:=hRow.others hT9 h3
    replace hb:=hb.trans h2
    replace hBl:=h1
    clear h1 h2 h3 hT9;have hx9 : ((⟨#[10,110,9,116,92,92,34,34,39,39]⟩ : ByteArray)[6 + 1]'(by decide)).toNat = 34:=rfl;go_wp2_with fail;refine (bld_byte hBl (by first | omega | (simp; omega)) 34 34 rfl).mono ?_;rintro e w9 ⟨rfl,h1,h2,h3⟩;obtain ⟨T9,hT9⟩:=hBl.blk
    replace hRow:=hRow.others hT9 h3
    replace hb:=hb.trans h2
    replace hBl:=h1
    clear h1 h2 h3 hT9;go_wp2_with fail;go_roundw
    case rel => exact ⟨k + 1,_,by omega,by go_num,Lib.hid (by rw [← HNX.out ([92,34]) HCQ.out] <;> simp),(by first | omega | (simp; omega) | simp),hBl,hRow,hb⟩
    case measure => simp [RowKit.intOf]; omega
   by_cases h39 : r = 39
   ·subst h39;have HCQ:=Lib.hid (show charQ 34 ctlB 39 = runeB 39 from by decide);have hrl:=(runeB_len 39).2;go_wp2_with fail;refine (HIR.out wr).mono ?_;rintro e w8 ⟨kx,rfl,hb8,hkx⟩
    replace hRow:=hRow.belowS hb8
    replace hb:=below_then hb hb8 (by have:=hb.size; rw [HBB.out] at this; exact this)
    replace hBl:=hBl.belowS hb8
    clear hb8;clear hkx;go_wp2_with fail;refine (bld_rune hBl (by first | omega | (simp; omega)) 39 (by omega)).mono ?_;rintro e w9 ⟨⟨kk,rfl⟩,h1,h2,h3⟩;obtain ⟨T9,hT9⟩:=hBl.blk
    replace hRow:=hRow.others hT9 h3
    replace hb:=hb.trans h2
    replace hBl:=h1
    clear h1 h2 h3 hT9;go_wp2_with fail;go_roundw
    case rel => exact ⟨k + 1,_,by omega,by go_num,Lib.hid (by rw [← HNX.out (runeB 39) HCQ.out] <;> simp),(by first | omega | (simp; omega) | simp),hBl,hRow,hb⟩
    case measure => simp [RowKit.intOf]; omega
   have hq:=charQ_other (Q:=34) (hid:=ctlB) h10 h9 h92 h34 h39;have b34 : ((r:Int) == 34) = false:=(by rw [beq_eq_false_iff_ne]; omega);have b39 : ((r:Int) == 39) = false:=(by rw [beq_eq_false_iff_ne]; omega);have b92 : ((r:Int) == 92) = false:=(by rw [beq_eq_false_iff_ne]; omega);have hrl:=(runeB_len r).2;have hcl : ctlB r = true → r < 256:=fun h => by have:=ctlB_lt r h; omega
   by_cases h110 : r = 110
   ·subst h110;have HCQ:=Lib.hid (show charQ 34 ctlB 110 = runeB 110 from by decide);clear hq hcl;go_wp2_with fail;refine (HIR.out wr).mono ?_;rintro e w8 ⟨kx,rfl,hb8,hkx⟩
    replace hRow:=hRow.belowS hb8
    replace hb:=below_then hb hb8 (by have:=hb.size; rw [HBB.out] at this; exact this)
    replace hBl:=hBl.belowS hb8
    clear hb8;obtain rfl : kx = 1:=hkx (by decide);clear hkx;go_wp2_with fail;refine (control_any 110 _).mono ?_;rintro e w8 ⟨rfl,rfl⟩;rw [show ctlB 110 = false from by decide];go_wp2_with fail;refine (bld_rune hBl (by first | omega | (simp; omega)) 110 (by omega)).mono ?_;rintro e w9 ⟨⟨kk,rfl⟩,h1,h2,h3⟩;obtain ⟨T9,hT9⟩:=hBl.blk
    replace hRow:=hRow.others hT9 h3
    replace hb:=hb.trans h2
    replace hBl:=h1
    clear h1 h2 h3 hT9;go_wp2_with fail;go_roundw
    case rel => exact ⟨k + 1,_,by omega,by go_num,Lib.hid (by rw [← HNX.out (runeB 110) HCQ.out] <;> simp),(by first | omega | (simp; omega) | simp),hBl,hRow,hb⟩
    case measure => simp [RowKit.intOf]; omega
   by_cases h116 : r = 116
   ·subst h116;have HCQ:=Lib.hid (show charQ 34 ctlB 116 = runeB 116 from by decide);clear hq hcl;go_wp2_with fail;refine (HIR.out wr).mono ?_;rintro e w8 ⟨kx,rfl,hb8,hkx⟩
    replace hRow:=hRow.belowS hb8
    replace hb:=below_then hb hb8 (by have:=hb.size; rw [HBB.out] at this; exact this)
    replace hBl:=hBl.belowS hb8
    clear hb8;obtain rfl : kx = 3:=hkx (by decide);clear hkx;go_wp2_with fail;refine (control_any 116 _).mono ?_;rintro e w8 ⟨rfl,rfl⟩;rw [show ctlB 116 = false from by decide];go_wp2_with fail;refine (bld_rune hBl (by first | omega | (simp; omega)) 116 (by omega)).mono ?_;rintro e w9 ⟨⟨kk,rfl⟩,h1,h2,h3⟩;obtain ⟨T9,hT9⟩:=hBl.blk
    replace hRow:=hRow.others hT9 h3
    replace hb:=hb.trans h2
    replace hBl:=h1
    clear h1 h2 h3 hT9;go_wp2_with fail;go_roundw
    case rel => exact ⟨k + 1,_,by omega,by go_num,Lib.hid (by rw [← HNX.out (runeB 116) HCQ.out] <;> simp),(by first | omega | (simp; omega) | simp),hBl,hRow,hb⟩
    case measure => simp [RowKit.intOf]; omega
   have hix:=fun h : r < 128 => ir_none h h10 h110 h9 h116 h92 h34 h39;clear h10 h9 h92 h39 h34 h110 h116;obtain ⟨C,hC⟩ : ∃ C,ctlB r = C:=⟨_,rfl⟩;have HCA:=Lib.hid (fun W => control_any r W);rw [hC] at hq hcl HCA;have HQ:=Lib.hid hq;clear hC hq
   by_cases h128 : r < 128
   ·have d128 : decide ((r:Int) < 128) = true:=decide_eq_true (by omega);have hm1:=hix h128;clear hix;go_wp2_with fail;refine (HIR.out wr).mono ?_;rintro e w8 ⟨kx,rfl,hb8,hkx⟩
    replace hRow:=hRow.belowS hb8
    replace hb:=below_then hb hb8 (by have:=hb.size; rw [HBB.out] at this; exact this)
    replace hBl:=hBl.belowS hb8
    clear hb8;obtain rfl : kx = -1:=(hkx h128).trans hm1;clear hkx h128 hm1;go_wp2_with fail;refine (HCA.out _).mono ?_;rintro e w8 ⟨rfl,rfl⟩;rcases C with _ | _
    ·have HCQ : Hid (charQ 34 ctlB r = runeB r):=Lib.hid (by rw [HQ.out]; rfl);go_wp2_with fail;refine (bld_rune hBl (by first | omega | (simp; omega)) r (by omega)).mono ?_;rintro e w9 ⟨⟨kk,rfl⟩,h1,h2,h3⟩;obtain ⟨T9,hT9⟩:=hBl.blk
     replace hRow:=hRow.others hT9 h3
     replace hb:=hb.trans h2
     replace hBl:=h1
     clear h1 h2 h3 hT9;go_wp2_with fail;go_roundw
     case rel => exact ⟨k + 1,_,by omega,by go_num,Lib.hid (by rw [← HNX.out (runeB r) HCQ.out] <;> simp),(by first | omega | (simp; omega) | simp),hBl,hRow,hb⟩
     case measure => simp [RowKit.intOf]; omega
    ·have h160:=hcl rfl;have HCQ : Hid (charQ 34 ctlB r = [92,120,hexC (r / 16),hexC (r % 16)]):=Lib.hid (by rw [HQ.out]; rfl);go_wp2_with fail;refine (bld_str hBl (by first | omega | (simp; omega)) [92,120] (by decide)).mono ?_;rintro e w9 ⟨⟨nn,rfl⟩,h1,h2,h3⟩;obtain ⟨T9,hT9⟩:=hBl.blk
     replace hRow:=hRow.others hT9 h3
     replace hb:=hb.trans h2
     replace hBl:=h1
     clear h1 h2 h3 hT9;have hA1:=and15w (r / 16) (by omega);rw [show ((r / 16:Nat):Int) = (r:Int) / 16 by omega,Nat.mod_eq_of_lt (show r / 16 < 16 by omega)] at hA1;have hA2:=and15w r h160;have hI1:=run_hex (r / 16) (by omega);have hI2:=run_hex (r % 16) (by omega);obtain ⟨q1,hq1⟩ : ∃ q1,r / 16 = q1:=⟨_,rfl⟩;obtain ⟨q2,hq2⟩ : ∃ q2,r % 16 = q2:=⟨_,rfl⟩;rw [hq1] at hA1 hI1 HCQ;rw [hq2] at hA2 hI2 HCQ;obtain ⟨x1,hx1⟩ : ∃ x1,hexC q1 = x1:=⟨_,rfl⟩;obtain ⟨x2,hx2⟩ : ∃ x2,hexC q2 = x2:=⟨_,rfl⟩;rw [hx1] at hI1 HCQ;rw [hx2] at hI2 HCQ;have HA2:=Lib.hid hA2;clear hq1 hq2 hx1 hx2 hA2;have hLb : (L ++ [92,120]).length ≤ 9000000:=(by simp; omega);go_wp2_with fail;refine (bld_byte hBl (by omega) x1 (x1.toNat:Int) rfl).mono ?_;rintro e w9 ⟨rfl,h1,h2,h3⟩;obtain ⟨T9,hT9⟩:=hBl.blk
     replace hRow:=hRow.others hT9 h3
     replace hb:=hb.trans h2
     replace hBl:=h1
     clear h1 h2 h3 hT9;have hLc : (L ++ [92,120] ++ [x1]).length ≤ 9000001:=(by simp at hLb ⊢; omega);have hA2:=HA2.out;clear hA1;go_wp2_with fail;refine (bld_byte hBl (by omega) x2 (x2.toNat:Int) rfl).mono ?_;rintro e w9 ⟨rfl,h1,h2,h3⟩;obtain ⟨T9,hT9⟩:=hBl.blk
     replace hRow:=hRow.others hT9 h3
     replace hb:=hb.trans h2
     replace hBl:=h1
     clear h1 h2 h3 hT9;clear hA2 hI1 hI2;go_wp2_with fail;go_roundw
     case rel => exact ⟨k + 1,_,by omega,by go_num,Lib.hid (by rw [← HNX.out ([92,120,x1,x2]) HCQ.out] <;> simp),(by first | omega | (simp; omega) | simp),hBl,hRow,hb⟩
     case measure => simp [RowKit.intOf]; omega
   ·have d128 : decide ((r:Int) < 128) = false:=decide_eq_false (by omega);clear hix;go_wp2_with fail;refine (HIR.out wr).mono ?_;rintro e w8 ⟨kx,rfl,hb8,hkx⟩
    replace hRow:=hRow.belowS hb8
    replace hb:=below_then hb hb8 (by have:=hb.size; rw [HBB.out] at this; exact this)
    replace hBl:=hBl.belowS hb8
    clear hb8;clear hkx h128;go_wp2_with fail;refine (HCA.out _).mono ?_;rintro e w8 ⟨rfl,rfl⟩;rcases C with _ | _
    ·have HCQ : Hid (charQ 34 ctlB r = runeB r):=Lib.hid (by rw [HQ.out]; rfl);go_wp2_with fail;refine (bld_rune hBl (by first | omega | (simp; omega)) r (by omega)).mono ?_;rintro e w9 ⟨⟨kk,rfl⟩,h1,h2,h3⟩;obtain ⟨T9,hT9⟩:=hBl.blk
     replace hRow:=hRow.others hT9 h3
     replace hb:=hb.trans h2
     replace hBl:=h1
     clear h1 h2 h3 hT9;go_wp2_with fail;go_roundw
     case rel => exact ⟨k + 1,_,by omega,by go_num,Lib.hid (by rw [← HNX.out (runeB r) HCQ.out] <;> simp),(by first | omega | (simp; omega) | simp),hBl,hRow,hb⟩
     case measure => simp [RowKit.intOf]; omega
    ·have h160:=hcl rfl;have HCQ : Hid (charQ 34 ctlB r = [92,120,hexC (r / 16),hexC (r % 16)]):=Lib.hid (by rw [HQ.out]; rfl);go_wp2_with fail;refine (bld_str hBl (by first | omega | (simp; omega)) [92,120] (by decide)).mono ?_;rintro e w9 ⟨⟨nn,rfl⟩,h1,h2,h3⟩;obtain ⟨T9,hT9⟩:=hBl.blk
     replace hRow:=hRow.others hT9 h3
     replace hb:=hb.trans h2
     replace hBl:=h1
     clear h1 h2 h3 hT9;have hA1:=and15w (r / 16) (by omega);rw [show ((r / 16:Nat):Int) = (r:Int) / 16 by omega,Nat.mod_eq_of_lt (show r / 16 < 16 by omega)] at hA1;have hA2:=and15w r h160;have hI1:=run_hex (r / 16) (by omega);have hI2:=run_hex (r % 16) (by omega);obtain ⟨q1,hq1⟩ : ∃ q1,r / 16 = q1:=⟨_,rfl⟩;obtain ⟨q2,hq2⟩ : ∃ q2,r % 16 = q2:=⟨_,rfl⟩;rw [hq1] at hA1 hI1 HCQ;rw [hq2] at hA2 hI2 HCQ;obtain ⟨x1,hx1⟩ : ∃ x1,hexC q1 = x1:=⟨_,rfl⟩;obtain ⟨x2,hx2⟩ : ∃ x2,hexC q2 = x2:=⟨_,rfl⟩;rw [hx1] at hI1 HCQ;rw [hx2] at hI2 HCQ;have HA2:=Lib.hid hA2;clear hq1 hq2 hx1 hx2 hA2;have hLb : (L ++ [92,120]).length ≤ 9000000:=(by simp; omega);go_wp2_with fail;refine (bld_byte hBl (by omega) x1 (x1.toNat:Int) rfl).mono ?_;rintro e w9 ⟨rfl,h1,h2,h3⟩;obtain ⟨T9,hT9⟩:=hBl.blk
     replace hRow:=hRow.others hT9 h3
     replace hb:=hb.trans h2
     replace hBl:=h1
     clear h1 h2 h3 hT9;have hLc : (L ++ [92,120] ++ [x1]).length ≤ 9000001:=(by simp at hLb ⊢; omega);have hA2:=HA2.out;clear hA1;go_wp2_with fail;refine (bld_byte hBl (by omega) x2 (x2.toNat:Int) rfl).mono ?_;rintro e w9 ⟨rfl,h1,h2,h3⟩;obtain ⟨T9,hT9⟩:=hBl.blk
     replace hRow:=hRow.others hT9 h3
     replace hb:=hb.trans h2
     replace hBl:=h1
     clear h1 h2 h3 hT9;clear hA2 hI1 hI2;go_wp2_with fail;go_roundw
     case rel => exact ⟨k + 1,_,by omega,by go_num,Lib.hid (by rw [← HNX.out ([92,120,x1,x2]) HCQ.out] <;> simp),(by first | omega | (simp; omega) | simp),hBl,hRow,hb⟩
     case measure => simp [RowKit.intOf]; omega
  ·have hkl : k = rs.length:=(by omega);have HF:=Lib.hid (show quotedS 34 ctlB rs = L ++ [34] from by rw [HQS.out,HL.out,hkl]);clear hkl HL;go_wp2_with fail;refine (bld_byte hBl (by omega) 34 34 rfl).mono ?_;rintro e w9 ⟨rfl,h1,h2,h3⟩;have hb9:=hb.trans h2;clear hBl hRow hb h2 h3;go_wp2_with fail;refine (bld_string h1).mono ?_;rintro e w8 ⟨rfl,h4,h5⟩;go_wp2_with fail;go_ret;exact ⟨by rw [HF.out]; rfl,by rw [HBB.out]; exact hb9.trans h5⟩
theorem quoted34o_any (s : List UInt8) (w : World) (hl : s.length ≤ 2097152) (hir : ∀ r ∈ octL s,IrOk r) :
  Calls Tryz.prog 25 #[.string ⟨s.toArray⟩,.int .u8 34,.func (.func 28) #[] #[],.func (.func 29) #[] #[]] w fun e w' => e = .returned (.string ⟨(quotedS 34 octB (octL s)).toArray⟩)∧Below w.heap.size w w':=by
 have hrl : (octL s).length ≤ s.length:=Nat.le_of_eq (octL_len s);have hrt:=octL_lt s;have HRU:=Lib.hid (fun W => octets_any s W hl);have HQS:=Lib.hid (show quotedS 34 octB (octL s) = QL 34 octB (octL s) (octL s).length ++ [34] from by unfold quotedS QL; rw [List.take_length]; rfl);obtain ⟨rs,hrs⟩ : ∃ rs,octL s = rs:=⟨_,rfl⟩;rw [hrs] at hrl hrt hir HRU HQS ⊢;have HRT:=Lib.hid hrt;have HI:=Lib.hid hir;have HN0:=Lib.hid (fun k h => QL_next 34 octB rs k h);clear hrs hrt hir;have hBl:=Bld.new w;have hb:=(Below.refl w.heap.size w).alloc (Nat.le_refl _) (.cells #[.pointer none,.slice none 0 0] 99);go_enter Tryz.func25,Tryz.ntmps25;go_wp2_with fail;refine (bld_byte hBl (by simp) 34 34 rfl).mono ?_;rintro e w1 ⟨rfl,h1,h2,h3⟩;have hb1:=hb.trans h2;clear hBl hb h2 h3;go_wp2_with fail;refine (HRU.out w1).mono ?_;rintro e w2 ⟨A,cap,rfl,hRow,hb2⟩;have hBl:=h1.belowS hb2;have hb:=below_then hb1 hb2 hb1.size;obtain ⟨b,hbb⟩ : ∃ b,w.heap.size = b:=⟨_,rfl⟩;have HBB:=Lib.hid hbb;rw [hbb] at hBl hb ⊢;clear h1 hb1 hb2 HRU hbb;go_wp2_with fail
 go_loopw [19] (fun i wr => ∃ (k:Nat) (L : List UInt8),k ≤ rs.length∧i = .int .i64 (k:Int)∧Hid (L = QL 34 octB rs k)∧L.length ≤ 1 + 4 * k∧Bld wr b L∧RRow wr A rs∧Below b w wr) (fun i _ => rs.length - (RowKit.intOf i).toNat)
 case atStart => exact ⟨0,[34],Nat.zero_le _,rfl,Lib.hid rfl,by simp,hBl,hRow,hb⟩
 case round =>
  clear hBl hRow hb;obtain ⟨k,L,hk,rfl,HL,hLl,hBl,hRow,hb⟩:=hrel
  by_cases hlt : k < rs.length
  ·obtain ⟨g,rfl,hcell⟩:=hRow.at_ hlt;have HNX:=Lib.hid (fun X (h : charQ 34 octB rs[k] = X) => show L ++ X = QL 34 octB rs (k + 1) from by rw [HN0.out k hlt,h,HL.out]);have hrt:=HRT.out rs[k] (List.getElem_mem hlt);have HIR:=Lib.hid (HI.out rs[k] (List.getElem_mem hlt));obtain ⟨r,hr⟩ : ∃ r,rs[k] = r:=⟨_,rfl⟩;rw [hr] at HNX hrt HIR hcell;clear hr HL
   by_cases h10 : r = 10
   ·subst h10
    -- a character that has an escape of two characters
    have HCQ:=Lib.hid (show charQ 34 octB 10 = [92,110] from by decide);go_wp2_with fail;refine (HIR.out wr).mono ?_;rintro e w8 ⟨kx,rfl,hb8,hkx⟩
    replace hRow:=hRow.belowS hb8
    replace hb:=below_then hb hb8 (by have:=hb.size; rw [HBB.out] at this; exact this)
    replace hBl:=hBl.belowS hb8
    clear hb8;obtain rfl : kx = 0:=hkx (by decide);clear hkx;go_wp2_with fail;refine (bld_byte hBl (by first | omega | (simp; omega)) 92 92 rfl).mono ?_;rintro e w9 ⟨rfl,h1,h2,h3⟩;obtain ⟨T9,hT9⟩:=hBl.blk
    replace hRow:=hRow.others hT9 h3
    replace hb:=hb.trans h2
    replace hBl:=h1
    clear h1 h2 h3 hT9;have hx9 : ((⟨#[10,110,9,116,92,92,34,34,39,39]⟩ : ByteArray)[0 + 1]'(by decide)).toNat = 110:=rfl;go_wp2_with fail;refine (bld_byte hBl (by first | omega | (simp; omega)) 110 110 rfl).mono ?_;rintro e w9 ⟨rfl,h1,h2,h3⟩;obtain ⟨T9,hT9⟩:=hBl.blk
    replace hRow:=hRow.others hT9 h3
    replace hb:=hb.trans h2
    replace hBl:=h1
    clear h1 h2 h3 hT9;go_wp2_with fail;go_roundw
    case rel => exact ⟨k + 1,_,by omega,by go_num,Lib.hid (by rw [← HNX.out ([92,110]) HCQ.out] <;> simp),(by first | omega | (simp; omega) | simp),hBl,hRow,hb⟩
    case measure => simp [RowKit.intOf]; omega
   by_cases h9 : r = 9
   ·subst h9
    -- a character that has an escape of two characters
    have HCQ:=Lib.hid (show charQ 34 octB 9 = [92,116] from by decide);go_wp2_with fail;refine (HIR.out wr).mono ?_;rintro e w8 ⟨kx,rfl,hb8,hkx⟩
    replace hRow:=hRow.belowS hb8
    replace hb:=below_then hb hb8 (by have:=hb.size; rw [HBB.out] at this; exact this)
    replace hBl:=hBl.belowS hb8
    clear hb8;obtain rfl : kx = 2:=hkx (by decide);clear hkx;go_wp2_with fail;refine (bld_byte hBl (by first | omega | (simp; omega)) 92 92 rfl).mono ?_;rintro e w9 ⟨rfl,h1,h2,h3⟩;obtain ⟨T9,hT9⟩:=hBl.blk
    replace hRow:=hRow.others hT9 h3
    replace hb:=hb.trans h2
    replace hBl:=h1
    clear h1 h2 h3 hT9;have hx9 : ((⟨#[10,110,9,116,92,92,34,34,39,39]⟩ : ByteArray)[2 + 1]'(by decide)).toNat = 116:=rfl;go_wp2_with fail;refine (bld_byte hBl (by first | omega | (simp; omega)) 116 116 rfl).mono ?_;rintro e w9 ⟨rfl,h1,h2,h3⟩;obtain ⟨T9,hT9⟩:=hBl.blk
    replace hRow:=hRow.others hT9 h3
    replace hb:=hb.trans h2
    replace hBl:=h1
    clear h1 h2 h3 hT9;go_wp2_with fail;go_roundw
    case rel => exact ⟨k + 1,_,by omega,by go_num,Lib.hid (by rw [← HNX.out ([92,116]) HCQ.out] <;> simp),(by first | omega | (simp; omega) | simp),hBl,hRow,hb⟩
    case measure => simp [RowKit.intOf]; omega
   by_cases h92 : r = 92
   ·subst h92
    -- a character that has an escape of two characters
    have HCQ:=Lib.hid (show charQ 34 octB 92 = [92,92] from by decide);go_wp2_with fail;refine (HIR.out wr).mono ?_;rintro e w8 ⟨kx,rfl,hb8,hkx⟩
    replace hRow:=hRow.belowS hb8
    replace hb:=below_then hb hb8 (by have:=hb.size; rw [HBB.out] at this; exact this)
    replace hBl:=hBl.belowS hb8
    clear hb8;obtain rfl : kx = 4:=hkx (by decide);clear hkx;go_wp2_with fail;refine (bld_byte hBl (by first | omega | (simp; omega)) 92 92 rfl).mono ?_;rintro e w9 ⟨rfl,h1,h2,h3⟩;obtain ⟨T9,hT9⟩:=hBl.blk
    replace hRow:=hRow.others hT9 h3
    replace hb:=hb.trans h2
    replace hBl:=h1
    clear h1 h2 h3 hT9;have hx9 : ((⟨#[10,110,9,116,92,92,34,34,39,39]⟩ : ByteArray)[4 + 1]'(by decide)).toNat = 92:=rfl;go_wp2_with fail;refine (bld_byte hBl (by first | omega | (simp; omega)) 92 92 rfl).mono ?_;rintro e w9 ⟨rfl,h1,h2,h3⟩;obtain ⟨T9,hT9⟩:=hBl.blk
    replace hRow:=hRow.others hT9 h3
    replace hb:=hb.trans h2
    replace hBl:=h1
    clear h1 h2 h3 hT9;go_wp2_with fail;go_roundw
    case rel => exact ⟨k + 1,_,by omega,by go_num,Lib.hid (by rw [← HNX.out ([92,92]) HCQ.out] <;> simp),(by first | omega | (simp; omega) | simp),hBl,hRow,hb⟩
    case measure => simp [RowKit.intOf]; omega
   by_cases h34 : r = 34
   ·subst h34
    -- a character that has an escape of two characters
    have HCQ:=Lib.hid (show charQ 34 octB 34 = [92,34] from by decide);go_wp2_with fail;refine (HIR.out wr).mono ?_;rintro e w8 ⟨kx,rfl,hb8,hkx⟩
    replace hRow:=hRow.belowS hb8
    replace hb:=below_then hb hb8 (by have:=hb.size; rw [HBB.out] at this; exact this)
    replace hBl:=hBl.belowS hb8
    clear hb8;obtain rfl : kx = 6:=hkx (by decide);clear hkx;go_wp2_with fail;refine (bld_byte hBl (by first | omega | (simp; omega)) 92 92 rfl).mono ?_;rintro e w9 ⟨rfl,h1,h2,h3⟩;obtain ⟨T9,hT9⟩:=hBl.blk
    replace hRow:=hRow.others hT9 h3
    replace hb:=hb.trans h2
    replace hBl:=h1
    clear h1 h2 h3 hT9;have hx9 : ((⟨#[10,110,9,116,92,92,34,34,39,39]⟩ : ByteArray)[6 + 1]'(by decide)).toNat = 34:=rfl;go_wp2_with fail;refine (bld_byte hBl (by first | omega | (simp; omega)) 34 34 rfl).mono ?_;rintro e w9 ⟨rfl,h1,h2,h3⟩;obtain ⟨T9,hT9⟩:=hBl.blk
    replace hRow:=hRow.others hT9 h3
    replace hb:=hb.trans h2
    replace hBl:=h1
    clear h1 h2 h3 hT9;go_wp2_with fail;go_roundw
    case rel => exact ⟨k + 1,_,by omega,by go_num,Lib.hid (by rw [← HNX.out ([92,34]) HCQ.out] <;> simp),(by first | omega | (simp; omega) | simp),hBl,hRow,hb⟩
    case measure => simp [RowKit.intOf]; omega
   by_cases h39 : r = 39
   ·subst h39;have HCQ:=Lib.hid (show charQ 34 octB 39 = runeB 39 from by decide);have hrl:=(runeB_len 39).2;go_wp2_with fail;refine (HIR.out wr).mono ?_;rintro e w8 ⟨kx,rfl,hb8,hkx⟩
    replace hRow:=hRow.belowS hb8
    replace hb:=below_then hb hb8 (by have:=hb.size; rw [HBB.out] at this; exact this)
    replace hBl:=hBl.belowS hb8
    clear hb8;clear hkx;go_wp2_with fail;refine (bld_rune hBl (by first | omega | (simp; omega)) 39 (by omega)).mono ?_;rintro e w9 ⟨⟨kk,rfl⟩,h1,h2,h3⟩;obtain ⟨T9,hT9⟩:=hBl.blk
    replace hRow:=hRow.others hT9 h3
    replace hb:=hb.trans h2
    replace hBl:=h1
    clear h1 h2 h3 hT9;go_wp2_with fail;go_roundw
    case rel => exact ⟨k + 1,_,by omega,by go_num,Lib.hid (by rw [← HNX.out (runeB 39) HCQ.out] <;> simp),(by first | omega | (simp; omega) | simp),hBl,hRow,hb⟩
    case measure => simp [RowKit.intOf]; omega
   have hq:=charQ_other (Q:=34) (hid:=octB) h10 h9 h92 h34 h39;have b34 : ((r:Int) == 34) = false:=(by rw [beq_eq_false_iff_ne]; omega);have b39 : ((r:Int) == 39) = false:=(by rw [beq_eq_false_iff_ne]; omega);have b92 : ((r:Int) == 92) = false:=(by rw [beq_eq_false_iff_ne]; omega);have hrl:=(runeB_len r).2;have hcl : octB r = true → r < 256:=fun _ => hrt
   by_cases h110 : r = 110
   ·subst h110;have HCQ:=Lib.hid (show charQ 34 octB 110 = runeB 110 from by decide);clear hq hcl;go_wp2_with fail;refine (HIR.out wr).mono ?_;rintro e w8 ⟨kx,rfl,hb8,hkx⟩
    replace hRow:=hRow.belowS hb8
    replace hb:=below_then hb hb8 (by have:=hb.size; rw [HBB.out] at this; exact this)
    replace hBl:=hBl.belowS hb8
    clear hb8;obtain rfl : kx = 1:=hkx (by decide);clear hkx;go_wp2_with fail;refine (print1_any 110 _).mono ?_;rintro e w8 ⟨rfl,rfl⟩;rw [show octB 110 = false from by decide];go_wp2_with fail;refine (bld_rune hBl (by first | omega | (simp; omega)) 110 (by omega)).mono ?_;rintro e w9 ⟨⟨kk,rfl⟩,h1,h2,h3⟩;obtain ⟨T9,hT9⟩:=hBl.blk
    replace hRow:=hRow.others hT9 h3
    replace hb:=hb.trans h2
    replace hBl:=h1
    clear h1 h2 h3 hT9;go_wp2_with fail;go_roundw
    case rel => exact ⟨k + 1,_,by omega,by go_num,Lib.hid (by rw [← HNX.out (runeB 110) HCQ.out] <;> simp),(by first | omega | (simp; omega) | simp),hBl,hRow,hb⟩
    case measure => simp [RowKit.intOf]; omega
   by_cases h116 : r = 116
   ·subst h116;have HCQ:=Lib.hid (show charQ 34 octB 116 = runeB 116 from by decide);clear hq hcl;go_wp2_with fail;refine (HIR.out wr).mono ?_;rintro e w8 ⟨kx,rfl,hb8,hkx⟩
    replace hRow:=hRow.belowS hb8
    replace hb:=below_then hb hb8 (by have:=hb.size; rw [HBB.out] at this; exact this)
    replace hBl:=hBl.belowS hb8
    clear hb8;obtain rfl : kx = 3:=hkx (by decide);clear hkx;go_wp2_with fail;refine (print1_any 116 _).mono ?_;rintro e w8 ⟨rfl,rfl⟩;rw [show octB 116 = false from by decide];go_wp2_with fail;refine (bld_rune hBl (by first | omega | (simp; omega)) 116 (by omega)).mono ?_;rintro e w9 ⟨⟨kk,rfl⟩,h1,h2,h3⟩;obtain ⟨T9,hT9⟩:=hBl.blk
    replace hRow:=hRow.others hT9 h3
    replace hb:=hb.trans h2
    replace hBl:=h1
    clear h1 h2 h3 hT9;go_wp2_with fail;go_roundw
    case rel => exact ⟨k + 1,_,by omega,by go_num,Lib.hid (by rw [← HNX.out (runeB 116) HCQ.out] <;> simp),(by first | omega | (simp; omega) | simp),hBl,hRow,hb⟩
    case measure => simp [RowKit.intOf]; omega
   have hix:=fun h : r < 128 => ir_none h h10 h110 h9 h116 h92 h34 h39;clear h10 h9 h92 h39 h34 h110 h116;obtain ⟨C,hC⟩ : ∃ C,octB r = C:=⟨_,rfl⟩;have HCA:=Lib.hid (fun W => print1_any r W);rw [hC] at hq hcl HCA;have HQ:=Lib.hid hq;clear hC hq
   by_cases h128 : r < 128
   ·have d128 : decide ((r:Int) < 128) = true:=decide_eq_true (by omega);have hm1:=hix h128;clear hix;go_wp2_with fail;refine (HIR.out wr).mono ?_;rintro e w8 ⟨kx,rfl,hb8,hkx⟩
    replace hRow:=hRow.belowS hb8
    replace hb:=below_then hb hb8 (by have:=hb.size; rw [HBB.out] at this; exact this)
    replace hBl:=hBl.belowS hb8
    clear hb8;obtain rfl : kx = -1:=(hkx h128).trans hm1;clear hkx h128 hm1;go_wp2_with fail;refine (HCA.out _).mono ?_;rintro e w8 ⟨rfl,rfl⟩;rcases C with _ | _
    ·have HCQ : Hid (charQ 34 octB r = runeB r):=Lib.hid (by rw [HQ.out]; rfl);go_wp2_with fail;refine (bld_rune hBl (by first | omega | (simp; omega)) r (by omega)).mono ?_;rintro e w9 ⟨⟨kk,rfl⟩,h1,h2,h3⟩;obtain ⟨T9,hT9⟩:=hBl.blk
     replace hRow:=hRow.others hT9 h3
     replace hb:=hb.trans h2
     replace hBl:=h1
     clear h1 h2 h3 hT9;go_wp2_with fail;go_roundw
     case rel => exact ⟨k + 1,_,by omega,by go_num,Lib.hid (by rw [← HNX.out (runeB r) HCQ.out] <;> simp),(by first | omega | (simp; omega) | simp),hBl,hRow,hb⟩
     case measure => simp [RowKit.intOf]; omega
    ·have h160:=hcl rfl;have HCQ : Hid (charQ 34 octB r = [92,120,hexC (r / 16),hexC (r % 16)]):=Lib.hid (by rw [HQ.out]; rfl);go_wp2_with fail;refine (bld_str hBl (by first | omega | (simp; omega)) [92,120] (by decide)).mono ?_;rintro e w9 ⟨⟨nn,rfl⟩,h1,h2,h3⟩;obtain ⟨T9,hT9⟩:=hBl.blk
     replace hRow:=hRow.others hT9 h3
     replace hb:=hb.trans h2
     replace hBl:=h1
     clear h1 h2 h3 hT9;have hA1:=and15w (r / 16) (by omega);rw [show ((r / 16:Nat):Int) = (r:Int) / 16 by omega,Nat.mod_eq_of_lt (show r / 16 < 16 by omega)] at hA1;have hA2:=and15w r h160;have hI1:=run_hex (r / 16) (by omega);have hI2:=run_hex (r % 16) (by omega);obtain ⟨q1,hq1⟩ : ∃ q1,r / 16 = q1:=⟨_,rfl⟩;obtain ⟨q2,hq2⟩ : ∃ q2,r % 16 = q2:=⟨_,rfl⟩;rw [hq1] at hA1 hI1 HCQ;rw [hq2] at hA2 hI2 HCQ;obtain ⟨x1,hx1⟩ : ∃ x1,hexC q1 = x1:=⟨_,rfl⟩;obtain ⟨x2,hx2⟩ : ∃ x2,hexC q2 = x2:=⟨_,rfl⟩;rw [hx1] at hI1 HCQ;rw [hx2] at hI2 HCQ;have HA2:=Lib.hid hA2;clear hq1 hq2 hx1 hx2 hA2;have hLb : (L ++ [92,120]).length ≤ 9000000:=(by simp; omega);go_wp2_with fail;refine (bld_byte hBl (by omega) x1 (x1.toNat:Int) rfl).mono ?_;rintro e w9 ⟨rfl,h1,h2,h3⟩;obtain ⟨T9,hT9⟩:=hBl.blk
     replace hRow:=hRow.others hT9 h3
     replace hb:=hb.trans h2
     replace hBl:=h1
     clear h1 h2 h3 hT9;have hLc : (L ++ [92,120] ++ [x1]).length ≤ 9000001:=(by simp at hLb ⊢; omega);have hA2:=HA2.out;clear hA1;go_wp2_with fail;refine (bld_byte hBl (by omega) x2 (x2.toNat:Int) rfl).mono ?_;rintro e w9 ⟨rfl,h1,h2,h3⟩;obtain ⟨T9,hT9⟩:=hBl.blk
     replace hRow:=hRow.others hT9 h3
     replace hb:=hb.trans h2
     replace hBl:=h1
     clear h1 h2 h3 hT9;clear hA2 hI1 hI2;go_wp2_with fail;go_roundw
     case rel => exact ⟨k + 1,_,by omega,by go_num,Lib.hid (by rw [← HNX.out ([92,120,x1,x2]) HCQ.out] <;> simp),(by first | omega | (simp; omega) | simp),hBl,hRow,hb⟩
     case measure => simp [RowKit.intOf]; omega
   ·have d128 : decide ((r:Int) < 128) = false:=decide_eq_false (by omega);clear hix;go_wp2_with fail;refine (HIR.out wr).mono ?_;rintro e w8 ⟨kx,rfl,hb8,hkx⟩
    replace hRow:=hRow.belowS hb8
    replace hb:=below_then hb hb8 (by have:=hb.size; rw [HBB.out] at this; exact this)
    replace hBl:=hBl.belowS hb8
    clear hb8;clear hkx h128;go_wp2_with fail;refine (HCA.out _).mono ?_;rintro e w8 ⟨rfl,rfl⟩;rcases C with _ | _
    ·have HCQ : Hid (charQ 34 octB r = runeB r):=Lib.hid (by rw [HQ.out]; rfl);go_wp2_with fail;refine (bld_rune hBl (by first | omega | (simp; omega)) r (by omega)).mono ?_;rintro e w9 ⟨⟨kk,rfl⟩,h1,h2,h3⟩;obtain ⟨T9,hT9⟩:=hBl.blk
     replace hRow:=hRow.others hT9 h3
     replace hb:=hb.trans h2
     replace hBl:=h1
     clear h1 h2 h3 hT9;go_wp2_with fail;go_roundw
     case rel => exact ⟨k + 1,_,by omega,by go_num,Lib.hid (by rw [← HNX.out (runeB r) HCQ.out] <;> simp),(by first | omega | (simp; omega) | simp),hBl,hRow,hb⟩
     case measure => simp [RowKit.intOf]; omega
    ·have h160:=hcl rfl;have HCQ : Hid (charQ 34 octB r = [92,120,hexC (r / 16),hexC (r % 16)]):=Lib.hid (by rw [HQ.out]; rfl);go_wp2_with fail;refine (bld_str hBl (by first | omega | (simp; omega)) [92,120] (by decide)).mono ?_;rintro e w9 ⟨⟨nn,rfl⟩,h1,h2,h3⟩;obtain ⟨T9,hT9⟩:=hBl.blk
     replace hRow:=hRow.others hT9 h3
     replace hb:=hb.trans h2
     replace hBl:=h1
     clear h1 h2 h3 hT9;have hA1:=and15w (r / 16) (by omega);rw [show ((r / 16:Nat):Int) = (r:Int) / 16 by omega,Nat.mod_eq_of_lt (show r / 16 < 16 by omega)] at hA1;have hA2:=and15w r h160;have hI1:=run_hex (r / 16) (by omega);have hI2:=run_hex (r % 16) (by omega);obtain ⟨q1,hq1⟩ : ∃ q1,r / 16 = q1:=⟨_,rfl⟩;obtain ⟨q2,hq2⟩ : ∃ q2,r % 16 = q2:=⟨_,rfl⟩;rw [hq1] at hA1 hI1 HCQ;rw [hq2] at hA2 hI2 HCQ;obtain ⟨x1,hx1⟩ : ∃ x1,hexC q1 = x1:=⟨_,rfl⟩;obtain ⟨x2,hx2⟩ : ∃ x2,hexC q2 = x2:=⟨_,rfl⟩;rw [hx1] at hI1 HCQ;rw [hx2] at hI2 HCQ;have HA2:=Lib.hid hA2;clear hq1 hq2 hx1 hx2 hA2;have hLb : (L ++ [92,120]).length ≤ 9000000:=(by simp; omega);go_wp2_with fail;refine (bld_byte hBl (by omega) x1 (x1.toNat:Int) rfl).mono ?_;rintro e w9 ⟨rfl,h1,h2,h3⟩;obtain ⟨T9,hT9⟩:=hBl.blk
     replace hRow:=hRow.others hT9 h3
     replace hb:=hb.trans h2
     replace hBl:=h1
     clear h1 h2 h3 hT9;have hLc : (L ++ [92,120] ++ [x1]).length ≤ 9000001:=(by simp at hLb ⊢; omega);have hA2:=HA2.out;clear hA1;go_wp2_with fail;refine (bld_byte hBl (by omega) x2 (x2.toNat:Int) rfl).mono ?_;rintro e w9 ⟨rfl,h1,h2,h3⟩;obtain ⟨T9,hT9⟩:=hBl.blk
     replace hRow:=hRow.others hT9 h3
     replace hb:=hb.trans h2
     replace hBl:=h1
     clear h1 h2 h3 hT9;clear hA2 hI1 hI2;go_wp2_with fail;go_roundw
     case rel => exact ⟨k + 1,_,by omega,by go_num,Lib.hid (by rw [← HNX.out ([92,120,x1,x2]) HCQ.out] <;> simp),(by first | omega | (simp; omega) | simp),hBl,hRow,hb⟩
     case measure => simp [RowKit.intOf]; omega
  ·have hkl : k = rs.length:=(by omega);have HF:=Lib.hid (show quotedS 34 octB rs = L ++ [34] from by rw [HQS.out,HL.out,hkl]);clear hkl HL;go_wp2_with fail;refine (bld_byte hBl (by omega) 34 34 rfl).mono ?_;rintro e w9 ⟨rfl,h1,h2,h3⟩;have hb9:=hb.trans h2;clear hBl hRow hb h2 h3;go_wp2_with fail;refine (bld_string h1).mono ?_;rintro e w8 ⟨rfl,h4,h5⟩;go_wp2_with fail;go_ret;exact ⟨by rw [HF.out]; rfl,by rw [HBB.out]; exact hb9.trans h5⟩
end Go.Proofs.YtonehlkiackhcaaGreatDoor
