/- Contracts of Go library functions over this dump, as the kit's command for the shelf lays them in plain words. Nothing is claimed here. -/
import Derived.Test.YtonehlkiackhcaaGreatDoorLitEd
import Derived.Lib.IndexAny
import Derived.Shelf.Strings.Split
set_option linter.unusedVariables false
set_option linter.unusedSimpArgs false
set_option maxRecDepth 100000
set_option maxHeartbeats 16000000
namespace Go.Proofs.YtonehlkiackhcaaGreatDoor
section
open Go.RowKit Go.Shelf Go.Lib
def escL : List UInt8:=[10,110,9,116,92,92,34,34,39,39]
def hexC (n:Nat) : UInt8:=[48,49,50,51,52,53,54,55,56,57,97,98,99,100,101,102].getD n 0
def charQ (Q:Nat) (hid : Nat → Bool) (r:Nat) : List UInt8 :=
 if (r = 34∧Q ≠ 34)∨(r = 39∧Q ≠ 39) then runeB r
 else if r = 10 then [92,110] else if r = 9 then [92,116] else if r = 92 then [92,92] else if r = 34 then [92,34] else if r = 39 then [92,39]
 else if hid r then [92,120,hexC (r / 16),hexC (r % 16)] else runeB r
def quotedS (Q:Nat) (hid : Nat → Bool) (rs : List Nat) : List UInt8:=(UInt8.ofNat Q :: rs.flatMap (charQ Q hid)) ++ [UInt8.ofNat Q]
def IrOk (r:Nat) : Prop:=∀ W : World,Calls Tryz.prog 78 #[.string ⟨#[10,110,9,116,92,92,34,34,39,39]⟩,.int .i32 (r:Int)] W fun e w' => ∃ k : Int,e = .returned (.int .i64 k)∧Below W.heap.size W w'∧(r < 128 → k = Lib.indexByte escL (UInt8.ofNat r))
theorem ir_ascii (r:Nat) (h : r < 128) : IrOk r:=fun W =>
 (Tryz.strings_IndexRune_ascii ⟨#[10,110,9,116,92,92,34,34,39,39]⟩ (r:Int) W (by omega) (by omega)).mono fun e w' ⟨h1,h2⟩ => ⟨_,h1,by rw [h2]; exact Below.refl _ _,fun _ => by rw [Int.toNat_natCast]; rfl⟩
theorem charQ_len (Q:Nat) (hid : Nat → Bool) (r:Nat) : (charQ Q hid r).length ≤ 4:=by
 have:=(runeB_len r).2;unfold charQ
 repeat' split
 all_goals first | exact this | simp
theorem charQ_other {Q r : Nat} {hid : Nat → Bool} (h10 : ¬ r = 10) (h9 : ¬ r = 9) (h92 : ¬ r = 92) (h34 : ¬ r = 34) (h39 : ¬ r = 39) : charQ Q hid r = if hid r then [92,120,hexC (r / 16),hexC (r % 16)] else runeB r:=by
 unfold charQ;rw [if_neg (by rintro (h | h); exact h34 h.1; exact h39 h.1),if_neg h10,if_neg h9,if_neg h92,if_neg h34,if_neg h39]
theorem ctlB_lt (r:Nat) (h : ctlB r = true) : r < 160:=by
 unfold ctlB at h;rw [Bool.or_eq_true,Bool.and_eq_true,decide_eq_true_eq,decide_eq_true_eq,decide_eq_true_eq] at h;omega
theorem ir_none {r : Nat} (h : r < 128) (h1 : ¬ r = 10) (h2 : ¬ r = 110) (h3 : ¬ r = 9) (h4 : ¬ r = 116) (h5 : ¬ r = 92) (h6 : ¬ r = 34) (h7 : ¬ r = 39) : Lib.indexByte escL (UInt8.ofNat r) = -1:=by
 refine ib_not _ _ ?_;unfold escL;have e : (UInt8.ofNat r).toNat = r:=by simp; omega
 intro hm;simp only [List.mem_cons,List.not_mem_nil,or_false] at hm;rcases hm with hm | hm | hm | hm | hm | hm | hm | hm | hm | hm <;> rw [hm] at e <;> simp at e <;> omega
theorem and15_all : ∀ a : Fin 160,bits .and .i32 (a.val:Int) 15 = ((a.val % 16:Nat):Int):=by decide +kernel
theorem and15 (a:Nat) (h : a < 160) : bits .and .i32 (a:Int) 15 = ((a % 16:Nat):Int):=and15_all ⟨a,h⟩
theorem run_hex (n:Nat) (h : n < 16) (W : World) : (Instr.index 9 (.string ⟨#[48,49,50,51,52,53,54,55,56,57,97,98,99,100,101,102]⟩) (.int .i32 ((n:Nat):Int))).run Tryz.prog W = .ok (.int .u8 ((hexC n).toNat:Int)) W:=by
 rw [run_index_string W 9 ⟨#[48,49,50,51,52,53,54,55,56,57,97,98,99,100,101,102]⟩ .i32 _ Tryz.underlying9,dif_pos ⟨by omega,by show (n:Int) < 16; omega⟩];have : ∀ m : Fin 16,(Value.int .u8 (((⟨#[48,49,50,51,52,53,54,55,56,57,97,98,99,100,101,102]⟩ : ByteArray)[m.val]'m.isLt).toNat:Int)) = .int .u8 ((hexC m.val).toNat:Int):=by
  intro m
  match m with
  | ⟨0,_⟩ => rfl
  | ⟨1,_⟩ => rfl
  | ⟨2,_⟩ => rfl
  | ⟨3,_⟩ => rfl
  | ⟨4,_⟩ => rfl
  | ⟨5,_⟩ => rfl
  | ⟨6,_⟩ => rfl
  | ⟨7,_⟩ => rfl
  | ⟨8,_⟩ => rfl
  | ⟨9,_⟩ => rfl
  | ⟨10,_⟩ => rfl
  | ⟨11,_⟩ => rfl
  | ⟨12,_⟩ => rfl
  | ⟨13,_⟩ => rfl
  | ⟨14,_⟩ => rfl
  | ⟨15,_⟩ => rfl
  | ⟨k + 16,h⟩ => omega
 have h2:=this ⟨n,h⟩;simp only [Int.toNat_natCast];rw [← h2]
def QL (Q:Nat) (hid : Nat → Bool) (rs : List Nat) (k:Nat) : List UInt8:=UInt8.ofNat Q :: (rs.take k).flatMap (charQ Q hid)
theorem QL_next (Q:Nat) (hid : Nat → Bool) (rs : List Nat) (k:Nat) (h : k < rs.length) : QL Q hid rs (k + 1) = QL Q hid rs k ++ charQ Q hid rs[k]:=by
 unfold QL;rw [List.take_add_one,List.getElem?_eq_getElem h,Option.toList_some,List.flatMap_append,List.flatMap_singleton];rfl
theorem quoted39_any (s : List UInt8) (w : World) (hl : s.length ≤ 2097152) (hir : ∀ r ∈ runesL s,IrOk r) :
  Calls Tryz.prog 25 #[.string ⟨s.toArray⟩,.int .u8 39,.func (.func 26) #[] #[],.func (.func 27) #[] #[]] w fun e w' => e = .returned (.string ⟨(quotedS 39 ctlB (runesL s)).toArray⟩)∧Below w.heap.size w w':=by
 have hrl:=runesF_len s.length s;have hrt:=fun r (h : r ∈ runesL s) => runesF_lt s.length s r h;have HRU:=Lib.hid (fun W => runes_any s W (by omega));rw [show runesF s.length s = runesL s from rfl] at hrl;have HQS:=Lib.hid (show quotedS 39 ctlB (runesL s) = QL 39 ctlB (runesL s) (runesL s).length ++ [39] from by unfold quotedS QL; rw [List.take_length]; rfl);obtain ⟨rs,hrs⟩ : ∃ rs,runesL s = rs:=⟨_,rfl⟩;rw [hrs] at hrl hrt hir HRU HQS ⊢;have HRT:=Lib.hid hrt;have HI:=Lib.hid hir;have HN0:=Lib.hid (fun k h => QL_next 39 ctlB rs k h);clear hrs hrt hir;have hBl:=Bld.new w;have hb:=(Below.refl w.heap.size w).alloc (Nat.le_refl _) (.cells #[.pointer none,.slice none 0 0] 99);go_enter Tryz.func25,Tryz.ntmps25;go_wp2_with fail;refine (bld_byte hBl (by simp) 39 39 rfl).mono ?_;rintro e w1 ⟨rfl,h1,h2,h3⟩;have hb1:=hb.trans h2;clear hBl hb h2 h3;go_wp2_with fail;refine (HRU.out w1).mono ?_;rintro e w2 ⟨A,cap,rfl,hRow,hb2⟩;have hBl:=h1.belowS hb2;have hb:=below_then hb1 hb2 hb1.size;obtain ⟨b,hbb⟩ : ∃ b,w.heap.size = b:=⟨_,rfl⟩;have HBB:=Lib.hid hbb;rw [hbb] at hBl hb ⊢;clear h1 hb1 hb2 HRU hbb;go_wp2_with fail
 go_loopw [19] (fun i wr => ∃ (k:Nat) (L : List UInt8),k ≤ rs.length∧i = .int .i64 (k:Int)∧Hid (L = QL 39 ctlB rs k)∧L.length ≤ 1 + 4 * k∧Bld wr b L∧RRow wr A rs∧Below b w wr) (fun i _ => rs.length - (RowKit.intOf i).toNat)
 case atStart => exact ⟨0,[39],Nat.zero_le _,rfl,Lib.hid rfl,by simp,hBl,hRow,hb⟩
 case round =>
  clear hBl hRow hb;obtain ⟨k,L,hk,rfl,HL,hLl,hBl,hRow,hb⟩:=hrel
  by_cases hlt : k < rs.length
  ·obtain ⟨g,rfl,hcell⟩:=hRow.at_ hlt;have HNX:=Lib.hid (fun X (h : charQ 39 ctlB rs[k] = X) => show L ++ X = QL 39 ctlB rs (k + 1) from by rw [HN0.out k hlt,h,HL.out]);have hrt:=HRT.out rs[k] (List.getElem_mem hlt);have HIR:=Lib.hid (HI.out rs[k] (List.getElem_mem hlt));obtain ⟨r,hr⟩ : ∃ r,rs[k] = r:=⟨_,rfl⟩;rw [hr] at HNX hrt HIR hcell;clear hr HL
   by_cases h10 : r = 10
   ·subst h10
    -- a character that has an escape of two characters
    have HCQ:=Lib.hid (show charQ 39 ctlB 10 = [92,110] from by decide);go_wp2_with fail;refine (HIR.out wr).mono ?_;rintro e w8 ⟨kx,rfl,hb8,hkx⟩
    replace hRow:=hRow.belowS hb8
    replace hb:=below_then hb hb8 (by have:=hb.size; rw [HBB.out] at this; exact this)
    replace hBl:=hBl.belowS hb8
    clear hb8;obtain rfl : kx = 0:=hkx (by decide);clear hkx;go_wp2_with fail;refine (bld_byte hBl (by first | omega | (simp; omega)) 92 92 rfl).mono ?_;rintro e w9 ⟨rfl,h1,h2,h3⟩;obtain ⟨T9,hT9⟩:=hBl.blk
    replace hRow:=hRow.others hT9 h3
    replace hb:=hb.trans h2
    replace hBl:=h1
    clear h1 h2 h3 hT9;have hx9 : ((⟨#[10,110,9,116,92,92,34,34,39,39]⟩ : ByteArray)[0 + 1]'(by decide)).toNat = 110:=rfl;go_wp2_with fail;refine (bld_byte hBl (by first | omega | (simp; omega)) 110 110 rfl).mono ?_;rintro e w9 ⟨rfl,h1,h2,h3⟩;obtain ⟨T9,hT9⟩:=hBl.blk
    replace hRow:=hRow.others hT9 h3
    replace hb:=hb.trans h2
    replace hBl:=h1
    clear h1 h2 h3 hT9;go_wp2_with fail;go_roundw
    case rel => exact ⟨k + 1,_,by omega,by go_num,Lib.hid (by rw [← HNX.out ([92,110]) HCQ.out] <;> simp),(by first | omega | (simp; omega) | simp),hBl,hRow,hb⟩
    case measure => simp [RowKit.intOf]; omega
   by_cases h9 : r = 9
   ·subst h9
    -- a character that has an escape of two characters
    have HCQ:=Lib.hid (show charQ 39 ctlB 9 = [92,116] from by decide);go_wp2_with fail;refine (HIR.out wr).mono ?_;rintro e w8 ⟨kx,rfl,hb8,hkx⟩
    replace hRow:=hRow.belowS hb8
    replace hb:=below_then hb hb8 (by have:=hb.size; rw [HBB.out] at this; exact this)
    replace hBl:=hBl.belowS hb8
    clear hb8;obtain rfl : kx = 2:=hkx (by decide);clear hkx;go_wp2_with fail;refine (bld_byte hBl (by first | omega | (simp; omega)) 92 92 rfl).mono ?_;rintro e w9 ⟨rfl,h1,h2,h3⟩;obtain ⟨T9,hT9⟩:=hBl.blk
    replace hRow:=hRow.others hT9 h3
    replace hb:=hb.trans h2
    replace hBl:=h1
    clear h1 h2 h3 hT9;have hx9 : ((⟨#[10,110,9,116,92,92,34,34,39,39]⟩ : ByteArray)[2 + 1]'(by decide)).toNat = 116:=rfl;go_wp2_with fail;refine (bld_byte hBl (by first | omega | (simp; omega)) 116 116 rfl).mono ?_;rintro e w9 ⟨rfl,h1,h2,h3⟩;obtain ⟨T9,hT9⟩:=hBl.blk
    replace hRow:=hRow.others hT9 h3
    replace hb:=hb.trans h2
    replace hBl:=h1
    clear h1 h2 h3 hT9;go_wp2_with fail;go_roundw
    case rel => exact ⟨k + 1,_,by omega,by go_num,Lib.hid (by rw [← HNX.out ([92,116]) HCQ.out] <;> simp),(by first | omega | (simp; omega) | simp),hBl,hRow,hb⟩
    case measure => simp [RowKit.intOf]; omega
   by_cases h92 : r = 92
   ·subst h92
    -- a character that has an escape of two characters
    have HCQ:=Lib.hid (show charQ 39 ctlB 92 = [92,92] from by decide);go_wp2_with fail;refine (HIR.out wr).mono ?_;rintro e w8 ⟨kx,rfl,hb8,hkx⟩
    replace hRow:=hRow.belowS hb8
    replace hb:=below_then hb hb8 (by have:=hb.size; rw [HBB.out] at this; exact this)
    replace hBl:=hBl.belowS hb8
    clear hb8;obtain rfl : kx = 4:=hkx (by decide);clear hkx;go_wp2_with fail;refine (bld_byte hBl (by first | omega | (simp; omega)) 92 92 rfl).mono ?_;rintro e w9 ⟨rfl,h1,h2,h3⟩;obtain ⟨T9,hT9⟩:=hBl.blk
    replace hRow:=hRow.others hT9 h3
    replace hb:=hb.trans h2
    replace hBl:=h1
    clear h1 h2 h3 hT9;have hx9 : ((⟨#[10,110,9,116,92,92,34,34,39,39]⟩ : ByteArray)[4 + 1]'(by decide)).toNat = 92:=rfl;go_wp2_with fail;refine (bld_byte hBl (by first | omega | (simp; omega)) 92 92 rfl).mono ?_;rintro e w9 ⟨rfl,h1,h2,h3⟩;obtain ⟨T9,hT9⟩:=hBl.blk
    replace hRow:=hRow.others hT9 h3
    replace hb:=hb.trans h2
    replace hBl:=h1
    clear h1 h2 h3 hT9;go_wp2_with fail;go_roundw
    case rel => exact ⟨k + 1,_,by omega,by go_num,Lib.hid (by rw [← HNX.out ([92,92]) HCQ.out] <;> simp),(by first | omega | (simp; omega) | simp),hBl,hRow,hb⟩
    case measure => simp [RowKit.intOf]; omega
   by_cases h39 : r = 39
   ·subst h39
    -- a character that has an escape of two characters
    have HCQ:=Lib.hid (show charQ 39 ctlB 39 = [92,39] from by decide);go_wp2_with fail;refine (HIR.out wr).mono ?_;rintro e w8 ⟨kx,rfl,hb8,hkx⟩
    replace hRow:=hRow.belowS hb8
    replace hb:=below_then hb hb8 (by have:=hb.size; rw [HBB.out] at this; exact this)
    replace hBl:=hBl.belowS hb8
    clear hb8;obtain rfl : kx = 8:=hkx (by decide);clear hkx;go_wp2_with fail;refine (bld_byte hBl (by first | omega | (simp; omega)) 92 92 rfl).mono ?_;rintro e w9 ⟨rfl,h1,h2,h3⟩;obtain ⟨T9,hT9⟩:=hBl.blk
    replace hRow:=hRow.others hT9 h3
    replace hb:=hb.trans h2
    replace hBl:=h1
    clear h1 h2 h3 hT9;have hx9 : ((⟨#[10,110,9,116,92,92,34,34,39,39]⟩ : ByteArray)[8 + 1]'(by decide)).toNat = 39:=rfl;go_wp2_with fail;refine (bld_byte hBl (by first | omega | (simp; omega)) 39 39 rfl).mono ?_;rintro e w9 ⟨rfl,h1,h2,h3⟩;obtain ⟨T9,hT9⟩:=hBl.blk
    replace hRow:=hRow.others hT9 h3
    replace hb:=hb.trans h2
    replace hBl:=h1
    clear h1 h2 h3 hT9;go_wp2_with fail;go_roundw
    case rel => exact ⟨k + 1,_,by omega,by go_num,Lib.hid (by rw [← HNX.out ([92,39]) HCQ.out] <;> simp),(by first | omega | (simp; omega) | simp),hBl,hRow,hb⟩
    case measure => simp [RowKit.intOf]; omega
   by_cases h34 : r = 34
   ·subst h34;have HCQ:=Lib.hid (show charQ 39 ctlB 34 = runeB 34 from by decide);have hrl:=(runeB_len 34).2;go_wp2_with fail;refine (HIR.out wr).mono ?_;rintro e w8 ⟨kx,rfl,hb8,hkx⟩
    replace hRow:=hRow.belowS hb8
    replace hb:=below_then hb hb8 (by have:=hb.size; rw [HBB.out] at this; exact this)
    replace hBl:=hBl.belowS hb8
    clear hb8;clear hkx;go_wp2_with fail;refine (bld_rune hBl (by first | omega | (simp; omega)) 34 (by omega)).mono ?_;rintro e w9 ⟨⟨kk,rfl⟩,h1,h2,h3⟩;obtain ⟨T9,hT9⟩:=hBl.blk
    replace hRow:=hRow.others hT9 h3
    replace hb:=hb.trans h2
    replace hBl:=h1
    clear h1 h2 h3 hT9;go_wp2_with fail;go_roundw
    case rel => exact ⟨k + 1,_,by omega,by go_num,Lib.hid (by rw [← HNX.out (runeB 34) HCQ.out] <;> simp),(by first | omega | (simp; omega) | simp),hBl,hRow,hb⟩
    case measure => simp [RowKit.intOf]; omega
   have hq:=charQ_other (Q:=39) (hid:=ctlB) h10 h9 h92 h34 h39;have b34 : ((r:Int) == 34) = false:=(by rw [beq_eq_false_iff_ne]; omega);have b39 : ((r:Int) == 39) = false:=(by rw [beq_eq_false_iff_ne]; omega);have b92 : ((r:Int) == 92) = false:=(by rw [beq_eq_false_iff_ne]; omega);have hrl:=(runeB_len r).2;have hcl:=ctlB_lt r
   by_cases h110 : r = 110
   ·subst h110;have HCQ:=Lib.hid (show charQ 39 ctlB 110 = runeB 110 from by decide);clear hq hcl;go_wp2_with fail;refine (HIR.out wr).mono ?_;rintro e w8 ⟨kx,rfl,hb8,hkx⟩
    replace hRow:=hRow.belowS hb8
    replace hb:=below_then hb hb8 (by have:=hb.size; rw [HBB.out] at this; exact this)
    replace hBl:=hBl.belowS hb8
    clear hb8;obtain rfl : kx = 1:=hkx (by decide);clear hkx;go_wp2_with fail;refine (control_any 110 _).mono ?_;rintro e w8 ⟨rfl,rfl⟩;rw [show ctlB 110 = false from by decide];go_wp2_with fail;refine (bld_rune hBl (by first | omega | (simp; omega)) 110 (by omega)).mono ?_;rintro e w9 ⟨⟨kk,rfl⟩,h1,h2,h3⟩;obtain ⟨T9,hT9⟩:=hBl.blk
    replace hRow:=hRow.others hT9 h3
    replace hb:=hb.trans h2
    replace hBl:=h1
    clear h1 h2 h3 hT9;go_wp2_with fail;go_roundw
    case rel => exact ⟨k + 1,_,by omega,by go_num,Lib.hid (by rw [← HNX.out (runeB 110) HCQ.out] <;> simp),(by first | omega | (simp; omega) | simp),hBl,hRow,hb⟩
    case measure => simp [RowKit.intOf]; omega
   by_cases h116 : r = 116
   ·subst h116;have HCQ:=Lib.hid (show charQ 39 ctlB 116 = runeB 116 from by decide);clear hq hcl;go_wp2_with fail;refine (HIR.out wr).mono ?_;rintro e w8 ⟨kx,rfl,hb8,hkx⟩
    replace hRow:=hRow.belowS hb8
    replace hb:=below_then hb hb8 (by have:=hb.size; rw [HBB.out] at this; exact this)
    replace hBl:=hBl.belowS hb8
    clear hb8;obtain rfl : kx = 3:=hkx (by decide);clear hkx;go_wp2_with fail;refine (control_any 116 _).mono ?_;rintro e w8 ⟨rfl,rfl⟩;rw [show ctlB 116 = false from by decide];go_wp2_with fail;refine (bld_rune hBl (by first | omega | (simp; omega)) 116 (by omega)).mono ?_;rintro e w9 ⟨⟨kk,rfl⟩,h1,h2,h3⟩;obtain ⟨T9,hT9⟩:=hBl.blk
    replace hRow:=hRow.others hT9 h3
    replace hb:=hb.trans h2
    replace hBl:=h1
    clear h1 h2 h3 hT9;go_wp2_with fail;go_roundw
    case rel => exact ⟨k + 1,_,by omega,by go_num,Lib.hid (by rw [← HNX.out (runeB 116) HCQ.out] <;> simp),(by first | omega | (simp; omega) | simp),hBl,hRow,hb⟩
    case measure => simp [RowKit.intOf]; omega
   have hix:=fun h : r < 128 => ir_none h h10 h110 h9 h116 h92 h34 h39;clear h10 h9 h92 h39 h34 h110 h116;obtain ⟨C,hC⟩ : ∃ C,ctlB r = C:=⟨_,rfl⟩;have HCA:=Lib.hid (fun W => control_any r W);rw [hC] at hq hcl HCA;have HQ:=Lib.hid hq;clear hC hq
   by_cases h128 : r < 128
   ·have d128 : decide ((r:Int) < 128) = true:=decide_eq_true (by omega);have hm1:=hix h128;clear hix;go_wp2_with fail;refine (HIR.out wr).mono ?_;rintro e w8 ⟨kx,rfl,hb8,hkx⟩
    replace hRow:=hRow.belowS hb8
    replace hb:=below_then hb hb8 (by have:=hb.size; rw [HBB.out] at this; exact this)
    replace hBl:=hBl.belowS hb8
    clear hb8;obtain rfl : kx = -1:=(hkx h128).trans hm1;clear hkx h128 hm1;go_wp2_with fail;refine (HCA.out _).mono ?_;rintro e w8 ⟨rfl,rfl⟩;rcases C with _ | _
    ·have HCQ : Hid (charQ 39 ctlB r = runeB r):=Lib.hid (by rw [HQ.out]; rfl);go_wp2_with fail;refine (bld_rune hBl (by first | omega | (simp; omega)) r (by omega)).mono ?_;rintro e w9 ⟨⟨kk,rfl⟩,h1,h2,h3⟩;obtain ⟨T9,hT9⟩:=hBl.blk
     replace hRow:=hRow.others hT9 h3
     replace hb:=hb.trans h2
     replace hBl:=h1
     clear h1 h2 h3 hT9;go_wp2_with fail;go_roundw
     case rel => exact ⟨k + 1,_,by omega,by go_num,Lib.hid (by rw [← HNX.out (runeB r) HCQ.out] <;> simp),(by first | omega | (simp; omega) | simp),hBl,hRow,hb⟩
     case measure => simp [RowKit.intOf]; omega
    ·have h160:=hcl rfl;have HCQ : Hid (charQ 39 ctlB r = [92,120,hexC (r / 16),hexC (r % 16)]):=Lib.hid (by rw [HQ.out]; rfl);go_wp2_with fail;refine (bld_str hBl (by first | omega | (simp; omega)) [92,120] (by decide)).mono ?_;rintro e w9 ⟨⟨nn,rfl⟩,h1,h2,h3⟩;obtain ⟨T9,hT9⟩:=hBl.blk
     replace hRow:=hRow.others hT9 h3
     replace hb:=hb.trans h2
     replace hBl:=h1
     clear h1 h2 h3 hT9;have hA1:=and15 (r / 16) (by omega);rw [show ((r / 16:Nat):Int) = (r:Int) / 16 by omega,Nat.mod_eq_of_lt (show r / 16 < 16 by omega)] at hA1;have hA2:=and15 r h160;have hI1:=run_hex (r / 16) (by omega);have hI2:=run_hex (r % 16) (by omega);obtain ⟨q1,hq1⟩ : ∃ q1,r / 16 = q1:=⟨_,rfl⟩;obtain ⟨q2,hq2⟩ : ∃ q2,r % 16 = q2:=⟨_,rfl⟩;rw [hq1] at hA1 hI1 HCQ;rw [hq2] at hA2 hI2 HCQ;obtain ⟨x1,hx1⟩ : ∃ x1,hexC q1 = x1:=⟨_,rfl⟩;obtain ⟨x2,hx2⟩ : ∃ x2,hexC q2 = x2:=⟨_,rfl⟩;rw [hx1] at hI1 HCQ;rw [hx2] at hI2 HCQ;have HA2:=Lib.hid hA2;clear hq1 hq2 hx1 hx2 hA2;have hLb : (L ++ [92,120]).length ≤ 9000000:=(by simp; omega);go_wp2_with fail;refine (bld_byte hBl (by omega) x1 (x1.toNat:Int) rfl).mono ?_;rintro e w9 ⟨rfl,h1,h2,h3⟩;obtain ⟨T9,hT9⟩:=hBl.blk
     replace hRow:=hRow.others hT9 h3
     replace hb:=hb.trans h2
     replace hBl:=h1
     clear h1 h2 h3 hT9;have hLc : (L ++ [92,120] ++ [x1]).length ≤ 9000001:=(by simp at hLb ⊢; omega);have hA2:=HA2.out;clear hA1;go_wp2_with fail;refine (bld_byte hBl (by omega) x2 (x2.toNat:Int) rfl).mono ?_;rintro e w9 ⟨rfl,h1,h2,h3⟩;obtain ⟨T9,hT9⟩:=hBl.blk
     replace hRow:=hRow.others hT9 h3
     replace hb:=hb.trans h2
     replace hBl:=h1
     clear h1 h2 h3 hT9;clear hA2 hI1 hI2;go_wp2_with fail;go_roundw
     case rel => exact ⟨k + 1,_,by omega,by go_num,Lib.hid (by rw [← HNX.out ([92,120,x1,x2]) HCQ.out] <;> simp),(by first | omega | (simp; omega) | simp),hBl,hRow,hb⟩
     case measure => simp [RowKit.intOf]; omega
   ·have d128 : decide ((r:Int) < 128) = false:=decide_eq_false (by omega);clear hix;go_wp2_with fail;refine (HIR.out wr).mono ?_;rintro e w8 ⟨kx,rfl,hb8,hkx⟩
    replace hRow:=hRow.belowS hb8
    replace hb:=below_then hb hb8 (by have:=hb.size; rw [HBB.out] at this; exact this)
    replace hBl:=hBl.belowS hb8
    clear hb8;clear hkx h128;go_wp2_with fail;refine (HCA.out _).mono ?_;rintro e w8 ⟨rfl,rfl⟩;rcases C with _ | _
    ·have HCQ : Hid (charQ 39 ctlB r = runeB r):=Lib.hid (by rw [HQ.out]; rfl);go_wp2_with fail;refine (bld_rune hBl (by first | omega | (simp; omega)) r (by omega)).mono ?_;rintro e w9 ⟨⟨kk,rfl⟩,h1,h2,h3⟩;obtain ⟨T9,hT9⟩:=hBl.blk
     replace hRow:=hRow.others hT9 h3
     replace hb:=hb.trans h2
     replace hBl:=h1
     clear h1 h2 h3 hT9;go_wp2_with fail;go_roundw
     case rel => exact ⟨k + 1,_,by omega,by go_num,Lib.hid (by rw [← HNX.out (runeB r) HCQ.out] <;> simp),(by first | omega | (simp; omega) | simp),hBl,hRow,hb⟩
     case measure => simp [RowKit.intOf]; omega
    ·have h160:=hcl rfl;have HCQ : Hid (charQ 39 ctlB r = [92,120,hexC (r / 16),hexC (r % 16)]):=Lib.hid (by rw [HQ.out]; rfl);go_wp2_with fail;refine (bld_str hBl (by first | omega | (simp; omega)) [92,120] (by decide)).mono ?_;rintro e w9 ⟨⟨nn,rfl⟩,h1,h2,h3⟩;obtain ⟨T9,hT9⟩:=hBl.blk
     replace hRow:=hRow.others hT9 h3
     replace hb:=hb.trans h2
     replace hBl:=h1
     clear h1 h2 h3 hT9;have hA1:=and15 (r / 16) (by omega);rw [show ((r / 16:Nat):Int) = (r:Int) / 16 by omega,Nat.mod_eq_of_lt (show r / 16 < 16 by omega)] at hA1;have hA2:=and15 r h160;have hI1:=run_hex (r / 16) (by omega);have hI2:=run_hex (r % 16) (by omega);obtain ⟨q1,hq1⟩ : ∃ q1,r / 16 = q1:=⟨_,rfl⟩;obtain ⟨q2,hq2⟩ : ∃ q2,r % 16 = q2:=⟨_,rfl⟩;rw [hq1] at hA1 hI1 HCQ;rw [hq2] at hA2 hI2 HCQ;obtain ⟨x1,hx1⟩ : ∃ x1,hexC q1 = x1:=⟨_,rfl⟩;obtain ⟨x2,hx2⟩ : ∃ x2,hexC q2 = x2:=⟨_,rfl⟩;rw [hx1] at hI1 HCQ;rw [hx2] at hI2 HCQ;have HA2:=Lib.hid hA2;clear hq1 hq2 hx1 hx2 hA2;have hLb : (L ++ [92,120]).length ≤ 9000000:=(by simp; omega);go_wp2_with fail;refine (bld_byte hBl (by omega) x1 (x1.toNat:Int) rfl).mono ?_;rintro e w9 ⟨rfl,h1,h2,h3⟩;obtain ⟨T9,hT9⟩:=hBl.blk
     replace hRow:=hRow.others hT9 h3
     replace hb:=hb.trans h2
     replace hBl:=h1
     clear h1 h2 h3 hT9;have hLc : (L ++ [92,120] ++ [x1]).length ≤ 9000001:=(by simp at hLb ⊢; omega);have hA2:=HA2.out;clear hA1;go_wp2_with fail;refine (bld_byte hBl (by omega) x2 (x2.toNat:Int) rfl).mono ?_;rintro e w9 ⟨rfl,h1,h2,h3⟩;obtain ⟨T9,hT9⟩:=hBl.blk
     replace hRow:=hRow.others hT9 h3
     replace hb:=hb.trans h2
     replace hBl:=h1
     clear h1 h2 h3 hT9;clear hA2 hI1 hI2;go_wp2_with fail;go_roundw
     case rel => exact ⟨k + 1,_,by omega,by go_num,Lib.hid (by rw [← HNX.out ([92,120,x1,x2]) HCQ.out] <;> simp),(by first | omega | (simp; omega) | simp),hBl,hRow,hb⟩
     case measure => simp [RowKit.intOf]; omega
  ·have hkl : k = rs.length:=(by omega);have HF:=Lib.hid (show quotedS 39 ctlB rs = L ++ [39] from by rw [HQS.out,HL.out,hkl]);clear hkl HL;go_wp2_with fail;refine (bld_byte hBl (by omega) 39 39 rfl).mono ?_;rintro e w9 ⟨rfl,h1,h2,h3⟩;have hb9:=hb.trans h2;clear hBl hRow hb h2 h3;go_wp2_with fail;refine (bld_string h1).mono ?_;rintro e w8 ⟨rfl,h4,h5⟩;go_wp2_with fail;go_ret;exact ⟨by rw [HF.out]; rfl,by rw [HBB.out]; exact hb9.trans h5⟩
def widthsF : Nat → List UInt8 → List Int
 | 0,_ => []
 | f + 1,l => if l = [] then [] else if badL l then -1 :: widthsF f (l.drop 1) else ((decodeL l).2:Int) :: (List.replicate ((decodeL l).2 - 1) 0 ++ widthsF f (l.drop (decodeL l).2))
def widths (l : List UInt8) : List Int:=widthsF l.length l
def ics (l : List Int) : List Value:=l.map (Value.int .i64)
def WidI (l : List UInt8) (B:Nat) (w : World) (i : Value) (wr : World) : Prop :=
 ∃ (p f:Nat) (d : List Int),i = .int .i64 p∧p ≤ l.length∧l.length ≤ p + f∧d.length = p∧widths l = d ++ widthsF f (l.drop p)∧Blk wr B 3 (ics (d ++ List.replicate (l.length - p) 0)).toArray∧Below B w wr
theorem atR_any (c i:Int) (w : World) : Calls Tryz.prog 36 #[.int .i64 c,.int .i64 i] w fun e w' => e = .returned (flt c i)∧Below w.heap.size w w':=by
 go_enter Tryz.func36,Tryz.ntmps36;go_wp2;exact ret_blk rfl rfl (Blk.new w 29 #[.int .i64 c,.int .i64 i]) _ Tryz.underlying29 rfl (by kernel_rfl) rfl ⟨rfl,(Below.refl _ _).alloc (Nat.le_refl _) _⟩
def firstNeg : List Int → Nat → Option Nat
 | [],_ => none
 | n :: l,p => if n < 0 then some p else firstNeg l (p + 1)
def collect (l : List UInt8) : List Int → Nat → List (List UInt8)
 | [],_ => []
 | n :: ws,k => if 0 < n then (l.drop k).take n.toNat :: collect l ws (k + 1) else collect l ws (k + 1)
def wof (c : List UInt8) : List Int:=(c.length:Int) :: List.replicate (c.length - 1) 0
theorem Chr.bad {c : List UInt8} (h : Chr c) (t : List UInt8) : badL (c ++ t) = false:=by
 have h1:=h.ok;have h2:=h.dec [];rw [List.append_nil] at h2;unfold badL at h1 ⊢;rw [h.dec t,← h2];exact h1
def plF (l : List UInt8) (ws : List Int) : Nat → Int × Int
 | 0 => (1,1)
 | k + 1 => if bAt l k = 10 then ((plF l ws k).1 + 1,1) else if 0 < ws[k]?.getD 0 then ((plF l ws k).1,(plF l ws k).2 + 1) else plF l ws k
end
section
open Go.RowKit Go.Shelf Go.Lib Go.Maps
def letL : List UInt8:=[97,98,99,100,101,102,103,104,105,106,107,108,109,110,111,112,113,114,115,116,117,118,119,120,121,122,65,66,67,68,69,70,71,72,73,74,75,76,77,78,79,80,81,82,83,84,85,86,87,88,89,90,95]
def digL : List UInt8:=[48,49,50,51,52,53,54,55,56,57]
def wrdL : List UInt8:=[97,98,99,100,101,102,103,104,105,106,107,108,109,110,111,112,113,114,115,116,117,118,119,120,121,122,65,66,67,68,69,70,71,72,73,74,75,76,77,78,79,80,81,82,83,84,85,86,87,88,89,90,95,48,49,50,51,52,53,54,55,56,57]
def hexL : List UInt8:=[48,49,50,51,52,53,54,55,56,57,97,98,99,100,101,102]
def hasB (l : List UInt8) (i:Nat) (S : List UInt8) : Bool:=decide (i < l.length) && S.contains (at0 l i)
def pcV (k e c i:Int) : Value:=.agg #[.int .i64 k,.int .i64 e,.int .i64 c,.int .i64 i]
def PPost (w : World) (i:Nat) (r : Lex) (e : Ending) (w' : World) : Prop :=
 Below w.heap.size w w'∧match r with
 | .ok (k,n) => e = .returned (pcV k ((i + n:Nat):Int) 0 0)
 | .error (c,d) => ∃ k n : Int,e = .returned (pcV k n c ((i + d:Nat):Int))
theorem PPost.ok {w : World} {i : Nat} {r : Lex} {e : Ending} {w' : World} {k x : Int} {n : Nat} (hr : r = .ok (k,n)) (hb : Below w.heap.size w w') (he : e = .returned (pcV k x 0 0)) (hx : x = ((i + n:Nat):Int)) : PPost w i r e w':=by
 subst hr hx;exact ⟨hb,he⟩
theorem PPost.err {w : World} {i : Nat} {r : Lex} {e : Ending} {w' : World} {c x k n : Int} {d : Nat} (hr : r = .error (c,d)) (hb : Below w.heap.size w w') (he : e = .returned (pcV k n c x)) (hx : x = ((i + d:Nat):Int)) : PPost w i r e w':=by
 subst hr hx;exact ⟨hb,k,n,he⟩
def isXb (c : UInt8) : Bool:=c == 120 || c == 98
def isDot (c : UInt8) : Bool:=c == 46
end
end Go.Proofs.YtonehlkiackhcaaGreatDoor

namespace Go.Proofs
open Go.Shelf
def Tryz.lays156_ren : Go.Shelf.Ren:=⟨fun | 156 => 74 | 165 => 105 | 166 => 62 | 169 => 66 | 240 => 99 | 241 => 140 | 276 => 133 | 277 => 179 | n => n,fun | 31 => 50 | 9 => 9 | 3 => 3 | 4 => 4 | 0 => 0 | 20 => 20 | 72 => 99 | 76 => 102 | 70 => 97 | 37 => 71 | 75 => 101 | 127 => 158 | 164 => 193 | 5 => 5 | 80 => 54 | n => n,fun | n => n⟩
theorem Tryz.lays156 : Go.Proofs.Lays.n156 Tryz.prog Tryz.lays156_ren:={
 mixed:=by kernel_rfl
 f156:=Tryz.func74.trans (congrArg some (by kernel_rfl))
 f165:=Tryz.func105.trans (congrArg some (by kernel_rfl))
 f166:=Tryz.func62.trans (congrArg some (by kernel_rfl))
 f169:=Tryz.func66.trans (congrArg some (by kernel_rfl))
 f240:=Tryz.func99.trans (congrArg some (by kernel_rfl))
 f241:=Tryz.func140.trans (congrArg some (by kernel_rfl))
 f276:=Tryz.func133.trans (congrArg some (by kernel_rfl))
 f277:=Tryz.func179.trans (congrArg some (by kernel_rfl))
 t0:=Tryz.underlying0
 a0:=Tryz.isAgg0
 z0:=Tryz.sizeOf0
 v0:=Tryz.zeroValue0
 t3:=Tryz.underlying3
 a3:=Tryz.isAgg3
 z3:=Tryz.sizeOf3
 v3:=Tryz.zeroValue3
 t4:=Tryz.underlying4
 a4:=Tryz.isAgg4
 z4:=Tryz.sizeOf4
 v4:=Tryz.zeroValue4
 t9:=Tryz.underlying9
 a9:=Tryz.isAgg9
 z9:=Tryz.sizeOf9
 v9:=Tryz.zeroValue9
 t20:=Tryz.underlying20
 a20:=Tryz.isAgg20
 z20:=Tryz.sizeOf20
 v20:=Tryz.zeroValue20
 t31:=Tryz.underlying50
 a31:=Tryz.isAgg50
 z31:=Tryz.sizeOf50
 v31:=Tryz.zeroValue50
 t37:=Tryz.underlying71
 a37:=Tryz.isAgg71
 z37:=Tryz.sizeOf71
 v37:=Tryz.zeroValue71
 t70:=Tryz.underlying97
 a70:=Tryz.isAgg97
 z70:=Tryz.sizeOf97
 v70:=Tryz.zeroValue97
 t72:=Tryz.underlying99
 a72:=Tryz.isAgg99
 z72:=Tryz.sizeOf99
 v72:=Tryz.zeroValue99
 t75:=Tryz.underlying101
 a75:=Tryz.isAgg101
 z75:=Tryz.sizeOf101
 v75:=Tryz.zeroValue101
 t76:=Tryz.underlying102
 a76:=Tryz.isAgg102
 z76:=Tryz.sizeOf102
 v76:=Tryz.zeroValue102
 t127:=Tryz.underlying158
 a127:=Tryz.isAgg158
 z127:=Tryz.sizeOf158
 v127:=Tryz.zeroValue158
 t164:=Tryz.underlying193
 a164:=Tryz.isAgg193
 z164:=Tryz.sizeOf193
 v164:=Tryz.zeroValue193 }
theorem Tryz.Builder_Extra_156 : Builder.Extra Tryz.prog Tryz.lays156_ren:={
 sizeBuilder:=by kernel_rfl
 liesBuilder:=by kernel_rfl
 t5:=Tryz.underlying5
 a5:=Tryz.isAgg5
 z5:=Tryz.sizeOf5
 v5:=Tryz.zeroValue5
 infoByte:=by kernel_rfl
 cellsByte:=by kernel_rfl
 sizeByte:=by kernel_rfl
 neB5:=by decide }
open Go.RowKit in
theorem Tryz.strings_Join (bk o c:Nat) (xs : List ByteArray) (sep : ByteArray) (w : World) (hcells : ∀ (j:Nat) x,xs[j]? = some x → w.cell? ⟨bk,o + j,none⟩ = some (.string x)) (hbk : bk < w.heap.size) (hN : xs.length ≤ 140737488355328) (hcap : xs.length ≤ c) (hlen : (Lib.join (xs.map (·.data.toList)) sep.data.toList).length ≤ 140737488355328) :
  Calls Tryz.prog 74 #[.slice (some ⟨bk,o,none⟩) xs.length c,.string sep] w fun e w' => e = .returned (.string ⟨(Lib.join (xs.map (·.data.toList)) sep.data.toList).toArray⟩)∧Below w.heap.size w w':=Any.strings_Join Tryz.lays156 Tryz.Builder_Extra_156 bk o c xs sep w hcells hbk hN hcap hlen
def Tryz.lays146_ren : Go.Shelf.Ren:=⟨fun | 146 => 200 | 221 => 219 | 268 => 236 | 138 => 237 | 143 => 131 | 195 => 186 | 197 => 84 | 218 => 246 | 219 => 108 | 260 => 121 | 217 => 124 | 225 => 107 | 224 => 106 | 267 => 141 | 266 => 160 | 314 => 180 | n => n,fun | 9 => 9 | 31 => 50 | 3 => 3 | 4 => 4 | 0 => 0 | 105 => 131 | 21 => 21 | 5 => 5 | 46 => 121 | 119 => 160 | 139 => 163 | 138 => 162 | 146 => 198 | 51 => 63 | n => n,fun | 1 => 2 | 3 => 0 | 4 => 1 | n => n⟩
end Go.Proofs
