/- The reference's Characters and Place: what they compute. Nothing is claimed here. -/
import Derived.Test.YtonehlkiackhcaaGreatDoorLitEd
set_option linter.unusedVariables false
set_option linter.unusedSimpArgs false
set_option maxRecDepth 100000
set_option maxHeartbeats 16000000
namespace Go.Proofs.YtonehlkiackhcaaGreatDoor
section
open Go.RowKit Go.Shelf Go.Lib
def escL : List UInt8:=[10,110,9,116,92,92,34,34,39,39]
def hexC (n:Nat) : UInt8:=[48,49,50,51,52,53,54,55,56,57,97,98,99,100,101,102].getD n 0
def charQ (Q:Nat) (hid : Nat → Bool) (r:Nat) : List UInt8 :=
 if (r = 34∧Q ≠ 34)∨(r = 39∧Q ≠ 39) then runeB r
 else if r = 10 then [92,110] else if r = 9 then [92,116] else if r = 92 then [92,92] else if r = 34 then [92,34] else if r = 39 then [92,39]
 else if hid r then [92,120,hexC (r / 16),hexC (r % 16)] else runeB r
def quotedS (Q:Nat) (hid : Nat → Bool) (rs : List Nat) : List UInt8:=(UInt8.ofNat Q :: rs.flatMap (charQ Q hid)) ++ [UInt8.ofNat Q]
def IrOk (r:Nat) : Prop:=∀ W : World,Calls Tryz.prog 78 #[.string ⟨#[10,110,9,116,92,92,34,34,39,39]⟩,.int .i32 (r:Int)] W fun e w' => ∃ k : Int,e = .returned (.int .i64 k)∧Below W.heap.size W w'∧(r < 128 → k = Lib.indexByte escL (UInt8.ofNat r))
theorem ir_ascii (r:Nat) (h : r < 128) : IrOk r:=fun W =>
 (Tryz.strings_IndexRune_ascii ⟨#[10,110,9,116,92,92,34,34,39,39]⟩ (r:Int) W (by omega) (by omega)).mono fun e w' ⟨h1,h2⟩ => ⟨_,h1,by rw [h2]; exact Below.refl _ _,fun _ => by rw [Int.toNat_natCast]; rfl⟩
theorem charQ_len (Q:Nat) (hid : Nat → Bool) (r:Nat) : (charQ Q hid r).length ≤ 4:=by
 have:=(runeB_len r).2;unfold charQ
 repeat' split
 all_goals first | exact this | simp
theorem charQ_other {Q r : Nat} {hid : Nat → Bool} (h10 : ¬ r = 10) (h9 : ¬ r = 9) (h92 : ¬ r = 92) (h34 : ¬ r = 34) (h39 : ¬ r = 39) : charQ Q hid r = if hid r then [92,120,hexC (r / 16),hexC (r % 16)] else runeB r:=by
 unfold charQ;rw [if_neg (by rintro (h | h); exact h34 h.1; exact h39 h.1),if_neg h10,if_neg h9,if_neg h92,if_neg h34,if_neg h39]
theorem ctlB_lt (r:Nat) (h : ctlB r = true) : r < 160:=by
 unfold ctlB at h;rw [Bool.or_eq_true,Bool.and_eq_true,decide_eq_true_eq,decide_eq_true_eq,decide_eq_true_eq] at h;omega
theorem ir_none {r : Nat} (h : r < 128) (h1 : ¬ r = 10) (h2 : ¬ r = 110) (h3 : ¬ r = 9) (h4 : ¬ r = 116) (h5 : ¬ r = 92) (h6 : ¬ r = 34) (h7 : ¬ r = 39) : Lib.indexByte escL (UInt8.ofNat r) = -1:=by
 refine ib_not _ _ ?_;unfold escL;have e : (UInt8.ofNat r).toNat = r:=by simp; omega
 intro hm;simp only [List.mem_cons,List.not_mem_nil,or_false] at hm;rcases hm with hm | hm | hm | hm | hm | hm | hm | hm | hm | hm <;> rw [hm] at e <;> simp at e <;> omega
theorem and15_all : ∀ a : Fin 160,bits .and .i32 (a.val:Int) 15 = ((a.val % 16:Nat):Int):=by decide +kernel
theorem and15 (a:Nat) (h : a < 160) : bits .and .i32 (a:Int) 15 = ((a % 16:Nat):Int):=and15_all ⟨a,h⟩
theorem run_hex (n:Nat) (h : n < 16) (W : World) : (Instr.index 9 (.string ⟨#[48,49,50,51,52,53,54,55,56,57,97,98,99,100,101,102]⟩) (.int .i32 ((n:Nat):Int))).run Tryz.prog W = .ok (.int .u8 ((hexC n).toNat:Int)) W:=by
 rw [run_index_string W 9 ⟨#[48,49,50,51,52,53,54,55,56,57,97,98,99,100,101,102]⟩ .i32 _ Tryz.underlying9,dif_pos ⟨by omega,by show (n:Int) < 16; omega⟩];have : ∀ m : Fin 16,(Value.int .u8 (((⟨#[48,49,50,51,52,53,54,55,56,57,97,98,99,100,101,102]⟩ : ByteArray)[m.val]'m.isLt).toNat:Int)) = .int .u8 ((hexC m.val).toNat:Int):=by
  intro m
  match m with
  | ⟨0,_⟩ => rfl
  | ⟨1,_⟩ => rfl
  | ⟨2,_⟩ => rfl
  | ⟨3,_⟩ => rfl
  | ⟨4,_⟩ => rfl
  | ⟨5,_⟩ => rfl
  | ⟨6,_⟩ => rfl
  | ⟨7,_⟩ => rfl
  | ⟨8,_⟩ => rfl
  | ⟨9,_⟩ => rfl
  | ⟨10,_⟩ => rfl
  | ⟨11,_⟩ => rfl
  | ⟨12,_⟩ => rfl
  | ⟨13,_⟩ => rfl
  | ⟨14,_⟩ => rfl
  | ⟨15,_⟩ => rfl
  | ⟨k + 16,h⟩ => omega
 have h2:=this ⟨n,h⟩;simp only [Int.toNat_natCast];rw [← h2]
def QL (Q:Nat) (hid : Nat → Bool) (rs : List Nat) (k:Nat) : List UInt8:=UInt8.ofNat Q :: (rs.take k).flatMap (charQ Q hid)
theorem QL_next (Q:Nat) (hid : Nat → Bool) (rs : List Nat) (k:Nat) (h : k < rs.length) : QL Q hid rs (k + 1) = QL Q hid rs k ++ charQ Q hid rs[k]:=by
 unfold QL;rw [List.take_add_one,List.getElem?_eq_getElem h,Option.toList_some,List.flatMap_append,List.flatMap_singleton];rfl
theorem quoted39_any (s : List UInt8) (w : World) (hl : s.length ≤ 2097152) (hir : ∀ r ∈ runesL s,IrOk r) :
  Calls Tryz.prog 25 #[.string ⟨s.toArray⟩,.int .u8 39,.func (.func 26) #[] #[],.func (.func 27) #[] #[]] w fun e w' => e = .returned (.string ⟨(quotedS 39 ctlB (runesL s)).toArray⟩)∧Below w.heap.size w w':=by
 have hrl:=runesF_len s.length s;have hrt:=fun r (h : r ∈ runesL s) => runesF_lt s.length s r h;have HRU:=Lib.hid (fun W => runes_any s W (by omega));rw [show runesF s.length s = runesL s from rfl] at hrl;have HQS:=Lib.hid (show quotedS 39 ctlB (runesL s) = QL 39 ctlB (runesL s) (runesL s).length ++ [39] from by unfold quotedS QL; rw [List.take_length]; rfl);obtain ⟨rs,hrs⟩ : ∃ rs,runesL s = rs:=⟨_,rfl⟩;rw [hrs] at hrl hrt hir HRU HQS ⊢;have HRT:=Lib.hid hrt;have HI:=Lib.hid hir;have HN0:=Lib.hid (fun k h => QL_next 39 ctlB rs k h);clear hrs hrt hir;have hBl:=Bld.new w;have hb:=(Below.refl w.heap.size w).alloc (Nat.le_refl _) (.cells #[.pointer none,.slice none 0 0] 99);go_enter Tryz.func25,Tryz.ntmps25;go_wp2_with fail;refine (bld_byte hBl (by simp) 39 39 rfl).mono ?_;rintro e w1 ⟨rfl,h1,h2,h3⟩;have hb1:=hb.trans h2;clear hBl hb h2 h3;go_wp2_with fail;refine (HRU.out w1).mono ?_;rintro e w2 ⟨A,cap,rfl,hRow,hb2⟩;have hBl:=h1.belowS hb2;have hb:=below_then hb1 hb2 hb1.size;obtain ⟨b,hbb⟩ : ∃ b,w.heap.size = b:=⟨_,rfl⟩;have HBB:=Lib.hid hbb;rw [hbb] at hBl hb ⊢;clear h1 hb1 hb2 HRU hbb;go_wp2_with fail
 go_loopw [19] (fun i wr => ∃ (k:Nat) (L : List UInt8),k ≤ rs.length∧i = .int .i64 (k:Int)∧Hid (L = QL 39 ctlB rs k)∧L.length ≤ 1 + 4 * k∧Bld wr b L∧RRow wr A rs∧Below b w wr) (fun i _ => rs.length - (RowKit.intOf i).toNat)
 case atStart => exact ⟨0,[39],Nat.zero_le _,rfl,Lib.hid rfl,by simp,hBl,hRow,hb⟩
 case round =>
  clear hBl hRow hb;obtain ⟨k,L,hk,rfl,HL,hLl,hBl,hRow,hb⟩:=hrel
  by_cases hlt : k < rs.length
  ·obtain ⟨g,rfl,hcell⟩:=hRow.at_ hlt;have HNX:=Lib.hid (fun X (h : charQ 39 ctlB rs[k] = X) => show L ++ X = QL 39 ctlB rs (k + 1) from by rw [HN0.out k hlt,h,HL.out]);have hrt:=HRT.out rs[k] (List.getElem_mem hlt);have HIR:=Lib.hid (HI.out rs[k] (List.getElem_mem hlt));obtain ⟨r,hr⟩ : ∃ r,rs[k] = r:=⟨_,rfl⟩;rw [hr] at HNX hrt HIR hcell;clear hr HL
   by_cases h10 : r = 10
   ·subst h10
    -- a character that has an escape of two characters
    have HCQ:=Lib.hid (show charQ 39 ctlB 10 = [92,110] from by decide);go_wp2_with fail;refine (HIR.out wr).mono ?_;rintro e w8 ⟨kx,rfl,hb8,hkx⟩
    replace hRow:=hRow.belowS hb8
    replace hb:=below_then hb hb8 (by have:=hb.size; rw [HBB.out] at this; exact this)
    replace hBl:=hBl.belowS hb8
    clear hb8;obtain rfl : kx = 0:=hkx (by decide);clear hkx;go_wp2_with fail;refine (bld_byte hBl (by first | omega | (simp; omega)) 92 92 rfl).mono ?_;rintro e w9 ⟨rfl,h1,h2,h3⟩;obtain ⟨T9,hT9⟩:=hBl.blk
    replace hRow:=hRow.others hT9 h3
    replace hb:=hb.trans h2
    replace hBl:=h1
    clear h1 h2 h3 hT9;have hx9 : ((⟨#[10,110,9,116,92,92,34,34,39,39]⟩ : ByteArray)[0 + 1]'(by decide)).toNat = 110:=rfl;go_wp2_with fail;refine (bld_byte hBl (by first | omega | (simp; omega)) 110 110 rfl).mono ?_;rintro e w9 ⟨rfl,h1,h2,h3⟩;obtain ⟨T9,hT9⟩:=hBl.blk
    replace hRow:=hRow.others hT9 h3
    replace hb:=hb.trans h2
    replace hBl:=h1
    clear h1 h2 h3 hT9;go_wp2_with fail;go_roundw
    case rel => exact ⟨k + 1,_,by omega,by go_num,Lib.hid (by rw [← HNX.out ([92,110]) HCQ.out] <;> simp),(by first | omega | (simp; omega) | simp),hBl,hRow,hb⟩
    case measure => simp [RowKit.intOf]; omega
   by_cases h9 : r = 9
   ·subst h9
    -- a character that has an escape of two characters
    have HCQ:=Lib.hid (show charQ 39 ctlB 9 = [92,116] from by decide);go_wp2_with fail;refine (HIR.out wr).mono ?_;rintro e w8 ⟨kx,rfl,hb8,hkx⟩
    replace hRow:=hRow.belowS hb8
    replace hb:=below_then hb hb8 (by have:=hb.size; rw [HBB.out] at this; exact this)
    replace hBl:=hBl.belowS hb8
    clear hb8;obtain rfl : kx = 2:=hkx (by decide);clear hkx;go_wp2_with fail;refine (bld_byte hBl (by first | omega | (simp; omega)) 92 92 rfl).mono ?_;rintro e w9 ⟨rfl,h1,h2,h3⟩;obtain ⟨T9,hT9⟩:=hBl.blk
    replace hRow:=hRow.others hT9 h3
    replace hb:=hb.trans h2
    replace hBl:=h1
    clear h1 h2 h3 hT9;have hx9 : ((⟨#[10,110,9,116,92,92,34,34,39,39]⟩ : ByteArray)[2 + 1]'(by decide)).toNat = 116:=rfl;go_wp2_with fail;refine (bld_byte hBl (by first | omega | (simp; omega)) 116 116 rfl).mono ?_;rintro e w9 ⟨rfl,h1,h2,h3⟩;obtain ⟨T9,hT9⟩:=hBl.blk
    replace hRow:=hRow.others hT9 h3
    replace hb:=hb.trans h2
    replace hBl:=h1
    clear h1 h2 h3 hT9;go_wp2_with fail;go_roundw
    case rel => exact ⟨k + 1,_,by omega,by go_num,Lib.hid (by rw [← HNX.out ([92,116]) HCQ.out] <;> simp),(by first | omega | (simp; omega) | simp),hBl,hRow,hb⟩
    case measure => simp [RowKit.intOf]; omega
   by_cases h92 : r = 92
   ·subst h92
    -- a character that has an escape of two characters
    have HCQ:=Lib.hid (show charQ 39 ctlB 92 = [92,92] from by decide);go_wp2_with fail;refine (HIR.out wr).mono ?_;rintro e w8 ⟨kx,rfl,hb8,hkx⟩
    replace hRow:=hRow.belowS hb8
    replace hb:=below_then hb hb8 (by have:=hb.size; rw [HBB.out] at this; exact this)
    replace hBl:=hBl.belowS hb8
    clear hb8;obtain rfl : kx = 4:=hkx (by decide);clear hkx;go_wp2_with fail;refine (bld_byte hBl (by first | omega | (simp; omega)) 92 92 rfl).mono ?_;rintro e w9 ⟨rfl,h1,h2,h3⟩;obtain ⟨T9,hT9⟩:=hBl.blk
    replace hRow:=hRow.others hT9 h3
    replace hb:=hb.trans h2
    replace hBl:=h1
    clear h1 h2 h3 hT9;have hx9 : ((⟨#[10,110,9,116,92,92,34,34,39,39]⟩ : ByteArray)[4 + 1]'(by decide)).toNat = 92:=rfl;go_wp2_with fail;refine (bld_byte hBl (by first | omega | (simp; omega)) 92 92 rfl).mono ?_;rintro e w9 ⟨rfl,h1,h2,h3⟩;obtain ⟨T9,hT9⟩:=hBl.blk
    replace hRow:=hRow.others hT9 h3
    replace hb:=hb.trans h2
    replace hBl:=h1
    clear h1 h2 h3 hT9;go_wp2_with fail;go_roundw
    case rel => exact ⟨k + 1,_,by omega,by go_num,Lib.hid (by rw [← HNX.out ([92,92]) HCQ.out] <;> simp),(by first | omega | (simp; omega) | simp),hBl,hRow,hb⟩
    case measure => simp [RowKit.intOf]; omega
   by_cases h39 : r = 39
   ·subst h39
    -- a character that has an escape of two characters
    have HCQ:=Lib.hid (show charQ 39 ctlB 39 = [92,39] from by decide);go_wp2_with fail;refine (HIR.out wr).mono ?_;rintro e w8 ⟨kx,rfl,hb8,hkx⟩
    replace hRow:=hRow.belowS hb8
    replace hb:=below_then hb hb8 (by have:=hb.size; rw [HBB.out] at this; exact this)
    replace hBl:=hBl.belowS hb8
    clear hb8;obtain rfl : kx = 8:=hkx (by decide);clear hkx;go_wp2_with fail;refine (bld_byte hBl (by first | omega | (simp; omega)) 92 92 rfl).mono ?_;rintro e w9 ⟨rfl,h1,h2,h3⟩;obtain ⟨T9,hT9⟩:=hBl.blk
    replace hRow:=hRow.others hT9 h3
    replace hb:=hb.trans h2
    replace hBl:=h1
    clear h1 h2 h3 hT9;have hx9 : ((⟨#[10,110,9,116,92,92,34,34,39,39]⟩ : ByteArray)[8 + 1]'(by decide)).toNat = 39:=rfl;go_wp2_with fail;refine (bld_byte hBl (by first | omega | (simp; omega)) 39 39 rfl).mono ?_;rintro e w9 ⟨rfl,h1,h2,h3⟩;obtain ⟨T9,hT9⟩:=hBl.blk
    replace hRow:=hRow.others hT9 h3
    replace hb:=hb.trans h2
    replace hBl:=h1
    clear h1 h2 h3 hT9;go_wp2_with fail;go_roundw
    case rel => exact ⟨k + 1,_,by omega,by go_num,Lib.hid (by rw [← HNX.out ([92,39]) HCQ.out] <;> simp),(by first | omega | (simp; omega) | simp),hBl,hRow,hb⟩
    case measure => simp [RowKit.intOf]; omega
   by_cases h34 : r = 34
   ·subst h34;have HCQ:=Lib.hid (show charQ 39 ctlB 34 = runeB 34 from by decide);have hrl:=(runeB_len 34).2;go_wp2_with fail;refine (HIR.out wr).mono ?_;rintro e w8 ⟨kx,rfl,hb8,hkx⟩
    replace hRow:=hRow.belowS hb8
    replace hb:=below_then hb hb8 (by have:=hb.size; rw [HBB.out] at this; exact this)
    replace hBl:=hBl.belowS hb8
    clear hb8;clear hkx;go_wp2_with fail;refine (bld_rune hBl (by first | omega | (simp; omega)) 34 (by omega)).mono ?_;rintro e w9 ⟨⟨kk,rfl⟩,h1,h2,h3⟩;obtain ⟨T9,hT9⟩:=hBl.blk
    replace hRow:=hRow.others hT9 h3
    replace hb:=hb.trans h2
    replace hBl:=h1
    clear h1 h2 h3 hT9;go_wp2_with fail;go_roundw
    case rel => exact ⟨k + 1,_,by omega,by go_num,Lib.hid (by rw [← HNX.out (runeB 34) HCQ.out] <;> simp),(by first | omega | (simp; omega) | simp),hBl,hRow,hb⟩
    case measure => simp [RowKit.intOf]; omega
   have hq:=charQ_other (Q:=39) (hid:=ctlB) h10 h9 h92 h34 h39;have b34 : ((r:Int) == 34) = false:=(by rw [beq_eq_false_iff_ne]; omega);have b39 : ((r:Int) == 39) = false:=(by rw [beq_eq_false_iff_ne]; omega);have b92 : ((r:Int) == 92) = false:=(by rw [beq_eq_false_iff_ne]; omega);have hrl:=(runeB_len r).2;have hcl:=ctlB_lt r
   by_cases h110 : r = 110
   ·subst h110;have HCQ:=Lib.hid (show charQ 39 ctlB 110 = runeB 110 from by decide);clear hq hcl;go_wp2_with fail;refine (HIR.out wr).mono ?_;rintro e w8 ⟨kx,rfl,hb8,hkx⟩
    replace hRow:=hRow.belowS hb8
    replace hb:=below_then hb hb8 (by have:=hb.size; rw [HBB.out] at this; exact this)
    replace hBl:=hBl.belowS hb8
    clear hb8;obtain rfl : kx = 1:=hkx (by decide);clear hkx;go_wp2_with fail;refine (control_any 110 _).mono ?_;rintro e w8 ⟨rfl,rfl⟩;rw [show ctlB 110 = false from by decide];go_wp2_with fail;refine (bld_rune hBl (by first | omega | (simp; omega)) 110 (by omega)).mono ?_;rintro e w9 ⟨⟨kk,rfl⟩,h1,h2,h3⟩;obtain ⟨T9,hT9⟩:=hBl.blk
    replace hRow:=hRow.others hT9 h3
    replace hb:=hb.trans h2
    replace hBl:=h1
    clear h1 h2 h3 hT9;go_wp2_with fail;go_roundw
    case rel => exact ⟨k + 1,_,by omega,by go_num,Lib.hid (by rw [← HNX.out (runeB 110) HCQ.out] <;> simp),(by first | omega | (simp; omega) | simp),hBl,hRow,hb⟩
    case measure => simp [RowKit.intOf]; omega
   by_cases h116 : r = 116
   ·subst h116;have HCQ:=Lib.hid (show charQ 39 ctlB 116 = runeB 116 from by decide);clear hq hcl;go_wp2_with fail;refine (HIR.out wr).mono ?_;rintro e w8 ⟨kx,rfl,hb8,hkx⟩
    replace hRow:=hRow.belowS hb8
    replace hb:=below_then hb hb8 (by have:=hb.size; rw [HBB.out] at this; exact this)
    replace hBl:=hBl.belowS hb8
    clear hb8;obtain rfl : kx = 3:=hkx (by decide);clear hkx;go_wp2_with fail;refine (control_any 116 _).mono ?_;rintro e w8 ⟨rfl,rfl⟩;rw [show ctlB 116 = false from by decide];go_wp2_with fail;refine (bld_rune hBl (by first | omega | (simp; omega)) 116 (by omega)).mono ?_;rintro e w9 ⟨⟨kk,rfl⟩,h1,h2,h3⟩;obtain ⟨T9,hT9⟩:=hBl.blk
    replace hRow:=hRow.others hT9 h3
    replace hb:=hb.trans h2
    replace hBl:=h1
    clear h1 h2 h3 hT9;go_wp2_with fail;go_roundw
    case rel => exact ⟨k + 1,_,by omega,by go_num,Lib.hid (by rw [← HNX.out (runeB 116) HCQ.out] <;> simp),(by first | omega | (simp; omega) | simp),hBl,hRow,hb⟩
    case measure => simp [RowKit.intOf]; omega
   have hix:=fun h : r < 128 => ir_none h h10 h110 h9 h116 h92 h34 h39;clear h10 h9 h92 h39 h34 h110 h116;obtain ⟨C,hC⟩ : ∃ C,ctlB r = C:=⟨_,rfl⟩;have HCA:=Lib.hid (fun W => control_any r W);rw [hC] at hq hcl HCA;have HQ:=Lib.hid hq;clear hC hq
   by_cases h128 : r < 128
   ·have d128 : decide ((r:Int) < 128) = true:=decide_eq_true (by omega);have hm1:=hix h128;clear hix;go_wp2_with fail;refine (HIR.out wr).mono ?_;rintro e w8 ⟨kx,rfl,hb8,hkx⟩
    replace hRow:=hRow.belowS hb8
    replace hb:=below_then hb hb8 (by have:=hb.size; rw [HBB.out] at this; exact this)
    replace hBl:=hBl.belowS hb8
    clear hb8;obtain rfl : kx = -1:=(hkx h128).trans hm1;clear hkx h128 hm1;go_wp2_with fail;refine (HCA.out _).mono ?_;rintro e w8 ⟨rfl,rfl⟩;rcases C with _ | _
    ·have HCQ : Hid (charQ 39 ctlB r = runeB r):=Lib.hid (by rw [HQ.out]; rfl);go_wp2_with fail;refine (bld_rune hBl (by first | omega | (simp; omega)) r (by omega)).mono ?_;rintro e w9 ⟨⟨kk,rfl⟩,h1,h2,h3⟩;obtain ⟨T9,hT9⟩:=hBl.blk
     replace hRow:=hRow.others hT9 h3
     replace hb:=hb.trans h2
     replace hBl:=h1
     clear h1 h2 h3 hT9;go_wp2_with fail;go_roundw
     case rel => exact ⟨k + 1,_,by omega,by go_num,Lib.hid (by rw [← HNX.out (runeB r) HCQ.out] <;> simp),(by first | omega | (simp; omega) | simp),hBl,hRow,hb⟩
     case measure => simp [RowKit.intOf]; omega
    ·have h160:=hcl rfl;have HCQ : Hid (charQ 39 ctlB r = [92,120,hexC (r / 16),hexC (r % 16)]):=Lib.hid (by rw [HQ.out]; rfl);go_wp2_with fail;refine (bld_str hBl (by first | omega | (simp; omega)) [92,120] (by decide)).mono ?_;rintro e w9 ⟨⟨nn,rfl⟩,h1,h2,h3⟩;obtain ⟨T9,hT9⟩:=hBl.blk
     replace hRow:=hRow.others hT9 h3
     replace hb:=hb.trans h2
     replace hBl:=h1
     clear h1 h2 h3 hT9;have hA1:=and15 (r / 16) (by omega);rw [show ((r / 16:Nat):Int) = (r:Int) / 16 by omega,Nat.mod_eq_of_lt (show r / 16 < 16 by omega)] at hA1;have hA2:=and15 r h160;have hI1:=run_hex (r / 16) (by omega);have hI2:=run_hex (r % 16) (by omega);obtain ⟨q1,hq1⟩ : ∃ q1,r / 16 = q1:=⟨_,rfl⟩;obtain ⟨q2,hq2⟩ : ∃ q2,r % 16 = q2:=⟨_,rfl⟩;rw [hq1] at hA1 hI1 HCQ;rw [hq2] at hA2 hI2 HCQ;obtain ⟨x1,hx1⟩ : ∃ x1,hexC q1 = x1:=⟨_,rfl⟩;obtain ⟨x2,hx2⟩ : ∃ x2,hexC q2 = x2:=⟨_,rfl⟩;rw [hx1] at hI1 HCQ;rw [hx2] at hI2 HCQ;have HA2:=Lib.hid hA2;clear hq1 hq2 hx1 hx2 hA2;have hLb : (L ++ [92,120]).length ≤ 9000000:=(by simp; omega);go_wp2_with fail;refine (bld_byte hBl (by omega) x1 (x1.toNat:Int) rfl).mono ?_;rintro e w9 ⟨rfl,h1,h2,h3⟩;obtain ⟨T9,hT9⟩:=hBl.blk
     replace hRow:=hRow.others hT9 h3
     replace hb:=hb.trans h2
     replace hBl:=h1
     clear h1 h2 h3 hT9;have hLc : (L ++ [92,120] ++ [x1]).length ≤ 9000001:=(by simp at hLb ⊢; omega);have hA2:=HA2.out;clear hA1;go_wp2_with fail;refine (bld_byte hBl (by omega) x2 (x2.toNat:Int) rfl).mono ?_;rintro e w9 ⟨rfl,h1,h2,h3⟩;obtain ⟨T9,hT9⟩:=hBl.blk
     replace hRow:=hRow.others hT9 h3
     replace hb:=hb.trans h2
     replace hBl:=h1
     clear h1 h2 h3 hT9;clear hA2 hI1 hI2;go_wp2_with fail;go_roundw
     case rel => exact ⟨k + 1,_,by omega,by go_num,Lib.hid (by rw [← HNX.out ([92,120,x1,x2]) HCQ.out] <;> simp),(by first | omega | (simp; omega) | simp),hBl,hRow,hb⟩
     case measure => simp [RowKit.intOf]; omega
   ·have d128 : decide ((r:Int) < 128) = false:=decide_eq_false (by omega);clear hix;go_wp2_with fail;refine (HIR.out wr).mono ?_;rintro e w8 ⟨kx,rfl,hb8,hkx⟩
    replace hRow:=hRow.belowS hb8
    replace hb:=below_then hb hb8 (by have:=hb.size; rw [HBB.out] at this; exact this)
    replace hBl:=hBl.belowS hb8
    clear hb8;clear hkx h128;go_wp2_with fail;refine (HCA.out _).mono ?_;rintro e w8 ⟨rfl,rfl⟩;rcases C with _ | _
    ·have HCQ : Hid (charQ 39 ctlB r = runeB r):=Lib.hid (by rw [HQ.out]; rfl);go_wp2_with fail;refine (bld_rune hBl (by first | omega | (simp; omega)) r (by omega)).mono ?_;rintro e w9 ⟨⟨kk,rfl⟩,h1,h2,h3⟩;obtain ⟨T9,hT9⟩:=hBl.blk
     replace hRow:=hRow.others hT9 h3
     replace hb:=hb.trans h2
     replace hBl:=h1
     clear h1 h2 h3 hT9;go_wp2_with fail;go_roundw
     case rel => exact ⟨k + 1,_,by omega,by go_num,Lib.hid (by rw [← HNX.out (runeB r) HCQ.out] <;> simp),(by first | omega | (simp; omega) | simp),hBl,hRow,hb⟩
     case measure => simp [RowKit.intOf]; omega
    ·have h160:=hcl rfl;have HCQ : Hid (charQ 39 ctlB r = [92,120,hexC (r / 16),hexC (r % 16)]):=Lib.hid (by rw [HQ.out]; rfl);go_wp2_with fail;refine (bld_str hBl (by first | omega | (simp; omega)) [92,120] (by decide)).mono ?_;rintro e w9 ⟨⟨nn,rfl⟩,h1,h2,h3⟩;obtain ⟨T9,hT9⟩:=hBl.blk
     replace hRow:=hRow.others hT9 h3
     replace hb:=hb.trans h2
     replace hBl:=h1
     clear h1 h2 h3 hT9;have hA1:=and15 (r / 16) (by omega);rw [show ((r / 16:Nat):Int) = (r:Int) / 16 by omega,Nat.mod_eq_of_lt (show r / 16 < 16 by omega)] at hA1;have hA2:=and15 r h160;have hI1:=run_hex (r / 16) (by omega);have hI2:=run_hex (r % 16) (by omega);obtain ⟨q1,hq1⟩ : ∃ q1,r / 16 = q1:=⟨_,rfl⟩;obtain ⟨q2,hq2⟩ : ∃ q2,r % 16 = q2:=⟨_,rfl⟩;rw [hq1] at hA1 hI1 HCQ;rw [hq2] at hA2 hI2 HCQ;obtain ⟨x1,hx1⟩ : ∃ x1,hexC q1 = x1:=⟨_,rfl⟩;obtain ⟨x2,hx2⟩ : ∃ x2,hexC q2 = x2:=⟨_,rfl⟩;rw [hx1] at hI1 HCQ;rw [hx2] at hI2 HCQ;have HA2:=Lib.hid hA2;clear hq1 hq2 hx1 hx2 hA2;have hLb : (L ++ [92,120]).length ≤ 9000000:=(by simp; omega);go_wp2_with fail;refine (bld_byte hBl (by omega) x1 (x1.toNat:Int) rfl).mono ?_;rintro e w9 ⟨rfl,h1,h2,h3⟩;obtain ⟨T9,hT9⟩:=hBl.blk
     replace hRow:=hRow.others hT9 h3
     replace hb:=hb.trans h2
     replace hBl:=h1
     clear h1 h2 h3 hT9;have hLc : (L ++ [92,120] ++ [x1]).length ≤ 9000001:=(by simp at hLb ⊢; omega);have hA2:=HA2.out;clear hA1;go_wp2_with fail;refine (bld_byte hBl (by omega) x2 (x2.toNat:Int) rfl).mono ?_;rintro e w9 ⟨rfl,h1,h2,h3⟩;obtain ⟨T9,hT9⟩:=hBl.blk
     replace hRow:=hRow.others hT9 h3
     replace hb:=hb.trans h2
     replace hBl:=h1
     clear h1 h2 h3 hT9;clear hA2 hI1 hI2;go_wp2_with fail;go_roundw
     case rel => exact ⟨k + 1,_,by omega,by go_num,Lib.hid (by rw [← HNX.out ([92,120,x1,x2]) HCQ.out] <;> simp),(by first | omega | (simp; omega) | simp),hBl,hRow,hb⟩
     case measure => simp [RowKit.intOf]; omega
  ·have hkl : k = rs.length:=(by omega);have HF:=Lib.hid (show quotedS 39 ctlB rs = L ++ [39] from by rw [HQS.out,HL.out,hkl]);clear hkl HL;go_wp2_with fail;refine (bld_byte hBl (by omega) 39 39 rfl).mono ?_;rintro e w9 ⟨rfl,h1,h2,h3⟩;have hb9:=hb.trans h2;clear hBl hRow hb h2 h3;go_wp2_with fail;refine (bld_string h1).mono ?_;rintro e w8 ⟨rfl,h4,h5⟩;go_wp2_with fail;go_ret;exact ⟨by rw [HF.out]; rfl,by rw [HBB.out]; exact hb9.trans h5⟩
def widthsF : Nat → List UInt8 → List Int
 | 0,_ => []
 | f + 1,l => if l = [] then [] else if badL l then -1 :: widthsF f (l.drop 1) else ((decodeL l).2:Int) :: (List.replicate ((decodeL l).2 - 1) 0 ++ widthsF f (l.drop (decodeL l).2))
def widths (l : List UInt8) : List Int:=widthsF l.length l
theorem widthsF_len : ∀ (f:Nat) (l : List UInt8),l.length ≤ f → (widthsF f l).length = l.length
 | 0,l,h => by
  have : l = []:=List.eq_nil_of_length_eq_zero (by omega);subst this;rfl
 | f + 1,l,h => by
  unfold widthsF;split
  ·rename_i e; subst e; rfl
  ·rename_i hne;have hp:=List.length_pos_iff.2 hne;have hw:=width_pos l hne;have hw2:=decodeL_width_le l hne;split
   ·rw [List.length_cons,widthsF_len f _ (by rw [List.length_drop]; omega),List.length_drop]; omega
   ·rw [List.length_cons,List.length_append,List.length_replicate,widthsF_len f _ (by rw [List.length_drop]; omega),List.length_drop]; omega
theorem widths_len (l : List UInt8) : (widths l).length = l.length:=widthsF_len _ _ (Nat.le_refl _)
def ics (l : List Int) : List Value:=l.map (Value.int .i64)
theorem run_make_ints (n:Nat) (hn : n ≤ 140737488355328 / 8) (w : World) :
  (Instr.makeSlice 51 (.int .i64 (n:Int)) (.int .i64 (n:Int))).run Tryz.prog w = .ok (.slice (some ⟨w.heap.size,0,none⟩) n n) (w.alloc (.cells (ics (List.replicate n 0)).toArray 3)):=by
 have hinfo : (Tryz.prog.info? 3).map (fun i => (i.zero,i.size,i.bytes)) = some (some (.int .i64 0),1,8):=by kernel_rfl
 obtain ⟨i0,hi,hz0,hz1,hz2⟩:=info_parts hinfo;have hr:=run_make (P:=Tryz.prog) w 51 3 i0 (.int .i64 0) Tryz.underlying51 hi hz0 .i64 .i64 n n (by omega) (by omega) (by rw [hz2]; omega) (by omega);simp only [Int.toNat_natCast,hz1,Nat.mul_one] at hr;rw [hr];have e : madeCells (Value.int .i64 0).cells n = (ics (List.replicate n 0)).toArray:=by
  apply Array.toList_inj.1;have:=toList_madeCells_one (.int .i64 0) n;simpa [ics,Value.cells] using this
 rw [e]
theorem ics_set (d : List Int) (m:Nat) (u:Int) (hm : 0 < m) : (ics (d ++ List.replicate m 0)).toArray.setIfInBounds d.length (.int .i64 u) = (ics (d ++ u :: List.replicate (m - 1) 0)).toArray:=by
 obtain ⟨k,rfl⟩ : ∃ k,m = k + 1:=⟨m - 1,by omega⟩;simp [ics,List.replicate_succ]
theorem ics_at (d : List Int) (m p:Nat) (hd : d.length = p) (hm : 0 < m) : (ics (d ++ List.replicate m 0)).toArray[p]? = some (.int .i64 0):=by
 obtain ⟨k,rfl⟩ : ∃ k,m = k + 1:=⟨m - 1,by omega⟩;subst hd;simp [ics,List.replicate_succ]
def WidI (l : List UInt8) (B:Nat) (w : World) (i : Value) (wr : World) : Prop :=
 ∃ (p f:Nat) (d : List Int),i = .int .i64 p∧p ≤ l.length∧l.length ≤ p + f∧d.length = p∧widths l = d ++ widthsF f (l.drop p)∧Blk wr B 3 (ics (d ++ List.replicate (l.length - p) 0)).toArray∧Below B w wr
theorem widths_any (l : List UInt8) (w : World) (hl : l.length ≤ 16000) (hT : Tabs w) :
  Calls Tryz.prog 161 #[.string ⟨l.toArray⟩] w fun e w' => e = .returned (.slice (some ⟨w.heap.size,0,none⟩) l.length l.length)∧Blk w' w.heap.size 3 (ics (widths l)).toArray∧Below w.heap.size w w':=by
 have hmk:=fun W => run_make_ints l.length (by omega) W;go_enter Tryz.func161,Tryz.ntmps161;go_wp2_with fail;clear hmk
 go_loopw [4] (fun i wr => WidI l w.heap.size w i wr) (fun i _ => l.length - (RowKit.intOf i).toNat)
 case atStart =>
  exact ⟨0,l.length,[],rfl,Nat.zero_le _,by omega,rfl,rfl,by simpa using Blk.new w 3 (ics (List.replicate l.length 0)).toArray,(Below.refl _ _).alloc (Nat.le_refl _) _⟩
 case round =>
  obtain ⟨p,f,d,rfl,hp,hf,hd,hwd,hB,hb⟩:=hrel
  by_cases hlt : p < l.length
  ·have hne : l.drop p ≠ []:=(by intro e; have:=congrArg List.length e; rw [List.length_drop,List.length_nil] at this; omega);obtain ⟨r,n,hdc⟩ : ∃ r n,decodeL (l.drop p) = (r,n):=⟨_,_,rfl⟩;have hr:=decodeL_rune_le (l.drop p);have hw1:=width_pos _ hne;have hw2:=decodeL_width_le _ hne;rw [hdc] at hr hw1 hw2;rw [List.length_drop] at hw2;obtain ⟨g,rfl⟩ : ∃ g,f = g + 1:=⟨f - 1,by omega⟩;have HD:=hid hdc;have HWD:=hid hwd;have HDL:=hid hd;clear hdc hwd hd;go_wp2_with fail;rw [extract_from l p l.length (Nat.le_refl _)];refine (decode_any _ hne _ (hT.keepB hb)).mono ?_;rintro e w2 ⟨rfl,hb2⟩;rw [HD.out];have hB2:=hB.belowS hb2;have hb3:=below_then hb hb2 hb.size;have hc:=hB2.cell p;have hfz:=hB2.frozen p;have hlB:=hB2.lt;rw [ics_at d (l.length - p) p HDL.out (by omega)] at hc;clear hB hb hb2;have hbi:=badL_iff (l.drop p) r n HD.out
   by_cases hbd : (r < 32∧r ≠ 10)∨(r = 65533∧n = 1)
   ·have hbt:=hbi.2 hbd;have HX:=hid (show widths l = (d ++ [-1]) ++ widthsF g (l.drop (p + 1)) by
     rw [HWD.out]
     conv => lhs; unfold widthsF
     rw [if_neg hne,if_pos hbt,List.drop_drop];simp)
    have HBK:=hid (show Blk (w2.setCell ⟨w.heap.size,p,none⟩ (.int .i64 (-1))) w.heap.size 3 (ics ((d ++ [-1]) ++ List.replicate (l.length - (p + 1)) 0)).toArray by
     have h:=hB2.set_ p (.int .i64 (-1));rw [← HDL.out,ics_set d (l.length - d.length) (-1) (by have:=HDL.out; omega),show l.length - d.length - 1 = l.length - (d.length + 1) by omega] at h;rw [← HDL.out];simpa using h)
    clear hbi hbt HWD hB2;rcases hbd with ⟨b1,b2⟩ | ⟨b1,b2⟩
    ·have t1 : ((r:Int) == 65533) = false:=(by rw [beq_eq_false_iff_ne]; omega);have t2 : ((r:Int) != 10) = true:=(by rw [bne_iff_ne]; omega);have t5 : decide ((r:Int) < 32) = true:=decide_eq_true (by omega);clear b2;go_wp2_with fail
     all_goals
      go_roundw
      case rel => exact ⟨p + 1,g,d ++ [-1],by go_num,by omega,by omega,by simp [HDL.out],HX.out,HBK.out,hb3.setCell (p:=⟨_,_,none⟩) (by simp) _⟩
      case measure => simp [RowKit.intOf]; omega
    ·subst b1 b2;go_wp2_with fail;go_roundw
     case rel => exact ⟨p + 1,g,d ++ [-1],by go_num,by omega,by omega,by simp [HDL.out],HX.out,HBK.out,hb3.setCell (p:=⟨_,_,none⟩) (by simp) _⟩
     case measure => simp [RowKit.intOf]; omega
   ·have hbf : badL (l.drop p) = false:=(by rw [← Bool.not_eq_true,hbi]; exact hbd);have HX:=hid (show widths l = (d ++ (n:Int) :: List.replicate (n - 1) 0) ++ widthsF g (l.drop (p + n)) by
     rw [HWD.out]
     conv => lhs; unfold widthsF
     rw [if_neg hne,if_neg (by rw [hbf]; simp),HD.out,List.drop_drop];simp)
    have HBK:=hid (show Blk (w2.setCell ⟨w.heap.size,p,none⟩ (.int .i64 n)) w.heap.size 3 (ics ((d ++ (n:Int) :: List.replicate (n - 1) 0) ++ List.replicate (l.length - (p + n)) 0)).toArray by
     have h:=hB2.set_ p (.int .i64 n);rw [← HDL.out,ics_set d (l.length - d.length) n (by have:=HDL.out; omega)] at h;rw [← HDL.out,List.append_assoc,List.cons_append,List.replicate_append_replicate,show n - 1 + (l.length - (d.length + n)) = l.length - d.length - 1 by have:=HDL.out; omega];exact h)
    have hdl : (d ++ (n:Int) :: List.replicate (n - 1) 0).length = p + n:=(by simp [HDL.out]; omega);have HDN:=hid hdl;clear hbi hbf HWD hB2 hdl
    by_cases b1 : r < 32
    ·obtain rfl : r = 10:=(by omega);go_wp2_with fail;go_roundw
     case rel => exact ⟨p + n,g,_,by go_num,by omega,by omega,HDN.out,HX.out,HBK.out,hb3.setCell (p:=⟨_,_,none⟩) (by simp) _⟩
     case measure => simp [RowKit.intOf]; omega
    ·by_cases b2 : r = 65533
     ·subst b2;have b3 : ¬ n ≤ 1:=(by omega);have t5 : decide ((n:Int) ≤ 1) = false:=decide_eq_false (by omega);clear hbd;go_wp2_with fail;go_roundw
      case rel => exact ⟨p + n,g,_,by go_num,by omega,by omega,HDN.out,HX.out,HBK.out,hb3.setCell (p:=⟨_,_,none⟩) (by simp) _⟩
      case measure => simp [RowKit.intOf]; omega
     ·have t3 : ((r:Int) == 65533) = false:=(by rw [beq_eq_false_iff_ne]; omega);have t5 : decide ((r:Int) < 32) = false:=decide_eq_false (by omega);clear hbd;go_wp2_with fail;go_roundw
      case rel => exact ⟨p + n,g,_,by go_num,by omega,by omega,HDN.out,HX.out,HBK.out,hb3.setCell (p:=⟨_,_,none⟩) (by simp) _⟩
      case measure => simp [RowKit.intOf]; omega
  ·obtain rfl : p = l.length:=(by omega);have HWD:=hid hwd;have HDL:=hid hd;clear hwd hd;go_wp2_with fail;go_ret;refine ⟨rfl,?_,hb⟩;have : widths l = d:=by
    rw [HWD.out,List.drop_length];cases f <;> simp [widthsF]
   rw [this];simpa using hB
theorem atR_any (c i:Int) (w : World) : Calls Tryz.prog 36 #[.int .i64 c,.int .i64 i] w fun e w' => e = .returned (flt c i)∧Below w.heap.size w w':=by
 go_enter Tryz.func36,Tryz.ntmps36;go_wp2;exact ret_blk rfl rfl (Blk.new w 29 #[.int .i64 c,.int .i64 i]) _ Tryz.underlying29 rfl (by kernel_rfl) rfl ⟨rfl,(Below.refl _ _).alloc (Nat.le_refl _) _⟩
def firstNeg : List Int → Nat → Option Nat
 | [],_ => none
 | n :: l,p => if n < 0 then some p else firstNeg l (p + 1)
theorem firstNeg_zeros : ∀ (k:Nat) (l : List Int) (p:Nat),firstNeg (List.replicate k 0 ++ l) p = firstNeg l (p + k)
 | 0,l,p => by simp
 | k + 1,l,p => by
  rw [List.replicate_succ,List.cons_append];have e : firstNeg (0 :: (List.replicate k 0 ++ l)) p = firstNeg (List.replicate k 0 ++ l) (p + 1):=(by simp [firstNeg]);rw [e,firstNeg_zeros k l (p + 1),show p + 1 + k = p + (k + 1) by omega]
theorem firstNeg_widths : ∀ (f:Nat) (l : List UInt8) (p:Nat),firstNeg (widthsF f l) p = badAt f l p
 | 0,_,_ => rfl
 | f + 1,l,p => by
  unfold widthsF badAt;split
  ·rfl
  ·rename_i hne;have hw:=width_pos l hne;split
   ·simp [firstNeg]
   ·unfold firstNeg;rw [if_neg (by omega),firstNeg_zeros,firstNeg_widths f]
    congr 1
    omega
theorem firstNeg_fault (l : List UInt8) (h : l.length ≤ 16000) : sfault l = match firstNeg (widths l) 0 with
  | none => (0,0)
  | some p => (1,(p:Int)):=by
 unfold sfault widths;rw [if_neg (by omega),firstNeg_widths];cases badAt l.length l 0 <;> rfl
theorem sourceFault_any (l : List UInt8) (w : World) (hl : l.length ≤ 9223372036854775807) (hT : Tabs w) :
  Calls Tryz.prog 125 #[.string ⟨l.toArray⟩] w fun e w' => e = .returned (flt (sfault l).1 (sfault l).2)∧Below w.heap.size w w':=by
 have hT1 : Tabs (w.alloc (.cells #[.int .i64 0,.int .i64 0] 29)):=hT.keepB ((Below.refl _ _).alloc (Nat.le_refl _) _)
 by_cases hlen : 16000 < l.length
 ·have HZ:=hid (show sfault l = (3,-1) by unfold sfault; rw [if_pos hlen]);go_enter Tryz.func125,Tryz.ntmps125;go_wp2_with fail;refine (atR_any _ _ _).mono ?_;rintro e w1 ⟨rfl,hb1⟩;have hB1:=(Blk.new w 29 #[.int .i64 0,.int .i64 0]).belowS hb1;have hb:=below_then ((Below.refl _ w).alloc (Nat.le_refl _) _) hb1 (by simp);obtain ⟨q1,q2,q3⟩:=hB1.rules;unfold flt;go_wp2_with fail;exact ret_blk rfl rfl ((hB1.set_ 0 (.int .i64 3)).set_ 1 (.int .i64 (-1))) _ Tryz.underlying29 rfl (by kernel_rfl) rfl  ⟨(by rw [HZ.out]; rfl),(hb.setCell (p:=⟨_,0,none⟩) (by simp) _).setCell (p:=⟨_,1,none⟩) (by simp) _⟩
 ·have hle : l.length ≤ 16000:=(by omega);have hwl:=widths_len l;have HF:=hid (firstNeg_fault l hle);have hn1 : (widths l).length ≤ l.length:=(by omega);have hn2 : l.length ≤ (widths l).length:=(by omega);clear hlen hwl;go_enter Tryz.func125,Tryz.ntmps125;go_wp2_with fail;refine (widths_any l _ hle hT1).mono ?_;rintro e w1 ⟨rfl,hBW,hb1⟩;have hB1:=(Blk.new w 29 #[.int .i64 0,.int .i64 0]).belowS hb1;have hb:=below_then ((Below.refl _ w).alloc (Nat.le_refl _) _) hb1 (by simp);simp only [World.size_alloc] at hBW;obtain ⟨q1,q2,q3⟩:=hB1.rules;generalize hws : widths l = ws at *
  have HWS:=hid hws;clear hws hb1 hT1;go_wp2_with fail
  go_loop [12] (fun i => ∃ k : Nat,i = .int .i64 k∧k ≤ ws.length∧firstNeg (ws.drop k) k = firstNeg ws 0) (fun i => l.length - (RowKit.intOf i).toNat)
  case atStart => exact ⟨0,rfl,Nat.zero_le _,by simp⟩
  case round =>
   obtain ⟨k,rfl,hk,hfn⟩:=hrel;have HFN:=hid hfn;clear hfn
   by_cases hlt : k < l.length
   ·have hk' : k < ws.length:=(by omega);have hc:=hBW.cell k;rw [show (ics ws).toArray[k]? = some (.int .i64 ws[k]) by simp [ics,hk']] at hc;have hdr:=List.drop_eq_getElem_cons hk';have HDR:=hid hdr;clear hdr;generalize ws[k] = n at *
    by_cases hneg : n < 0
    ·have HZ:=hid (show sfault l = (1,(k:Int)) by
      rw [HF.out,← HFN.out,HDR.out];simp [firstNeg,hneg])
     go_wp2_with fail;refine (atR_any _ _ _).mono ?_;rintro e w2 ⟨rfl,hb2⟩;have hB2:=hB1.belowS hb2;have hb3:=below_then hb hb2 hb.size;clear q1 q2 q3;obtain ⟨q1,q2,q3⟩:=hB2.rules;unfold flt;go_wp2_with fail;exact ret_blk rfl rfl ((hB2.set_ 0 (.int .i64 1)).set_ 1 (.int .i64 k)) _ Tryz.underlying29 rfl (by kernel_rfl) rfl  ⟨(by rw [HZ.out]; rfl),(hb3.setCell (p:=⟨_,0,none⟩) (by simp) _).setCell (p:=⟨_,1,none⟩) (by simp) _⟩
    ·go_wp2_with fail
     go_round
     case rel =>
      refine ⟨k + 1,by go_num,by omega,?_⟩;rw [← HFN.out,HDR.out];simp [firstNeg,hneg]
     case measure => simp [RowKit.intOf]; omega
   ·have HZ:=hid (show sfault l = (0,0) by
     rw [HF.out,← HFN.out,List.drop_eq_nil_of_le (by omega)];rfl)
    go_wp2_with fail;exact ret_blk rfl rfl ((hB1.set_ 0 (.int .i64 0)).set_ 1 (.int .i64 0)) _ Tryz.underlying29 rfl (by kernel_rfl) rfl  ⟨(by rw [HZ.out]; rfl),(hb.setCell (p:=⟨_,0,none⟩) (by simp) _).setCell (p:=⟨_,1,none⟩) (by simp) _⟩
def collect (l : List UInt8) : List Int → Nat → List (List UInt8)
 | [],_ => []
 | n :: ws,k => if 0 < n then (l.drop k).take n.toNat :: collect l ws (k + 1) else collect l ws (k + 1)
def wof (c : List UInt8) : List Int:=(c.length:Int) :: List.replicate (c.length - 1) 0
theorem Chr.bad {c : List UInt8} (h : Chr c) (t : List UInt8) : badL (c ++ t) = false:=by
 have h1:=h.ok;have h2:=h.dec [];rw [List.append_nil] at h2;unfold badL at h1 ⊢;rw [h.dec t,← h2];exact h1
theorem widths_chars : ∀ (f:Nat) (cs : List (List UInt8)),(∀ c ∈ cs,Chr c) → cs.flatten.length ≤ f → widthsF f cs.flatten = cs.flatMap wof
 | 0,[],_,_ => rfl
 | 0,c :: cs,h,hf => by
  have:=(h c (List.mem_cons_self ..)).pos;rw [List.flatten_cons,List.length_append] at hf;omega
 | f + 1,[],_,_ => by simp [widthsF]
 | f + 1,c :: cs,h,hf => by
  have hc:=h c (List.mem_cons_self ..);have hp:=hc.pos;rw [List.flatten_cons,List.length_append] at hf;rw [List.flatten_cons,List.flatMap_cons];unfold widthsF;rw [if_neg (hc.ne _),hc.bad,if_neg (by simp),hc.drop,hc.dec,widths_chars f cs (fun x hx => h x (List.mem_cons_of_mem _ hx)) (by omega)];simp [wof]
theorem widths_all (cs : List (List UInt8)) (h : ∀ c ∈ cs,Chr c) : widths cs.flatten = cs.flatMap wof:=widths_chars _ cs h (Nat.le_refl _)
theorem byte_at (l : List UInt8) (n:Nat) (h : n < (⟨l.toArray⟩ : ByteArray).size) : ((⟨l.toArray⟩ : ByteArray)[n]'h).toNat = bAt l n:=by
 have h' : n < l.length:=by simpa [ByteArray.size] using h
 simp [bAt,h'];rfl
end
end Go.Proofs.YtonehlkiackhcaaGreatDoor