/- The literals: hexadecimal digits, as the reference reads them. Nothing is claimed here. -/
import Derived.Test.YtonehlkiackhcaaGreatDoorLitDa
import Derived.Test.YtonehlkiackhcaaGreatDoorScanD
import Derived.Shelf.Strings.CaseAny
import Derived.Shelf.Strings.Search3
import Derived.Test.YtonehlkiackhcaaGreatDoorProg
import Derived.Test.YtonehlkiackhcaaGreatDoorLitL
set_option linter.unusedVariables false
set_option maxRecDepth 100000
set_option maxHeartbeats 16000000
namespace Go.Proofs.YtonehlkiackhcaaGreatDoor
open Go.RowKit Go.Lib
def figs : List UInt8:=[48,49,50,51,52,53,54,55,56,57,97,98,99,100,101,102]
theorem run_upto (l : List UInt8) (i : Nat) (h2 : i ≤ l.length) (x : Int) (hx : x = (i : Int)) (W : World) :
  (Instr.slice 9 (.string ⟨l.toArray⟩) none (some (.int .i64 x)) none).run Tryz.prog W = .ok (.string ⟨(l.take i).toArray⟩) W:=by
 subst hx;rw [run_slice_string_to_if W 9 ⟨l.toArray⟩ .i64 _ Tryz.underlying9,if_pos (by simp [ByteArray.size]; omega),Int.toNat_natCast,extract_sub];simp
theorem figs16 : ∀ i : Fin 256,Lib.indexByte (figs.take 16) (UInt8.ofNat i.val) = if isDg 16 (UInt8.ofNat i.val) then (dval (UInt8.ofNat i.val) : Int) else -1:=by decide
theorem figs10 : ∀ i : Fin 256,Lib.indexByte (figs.take 10) (UInt8.ofNat i.val) = if isDg 10 (UInt8.ofNat i.val) then (dval (UInt8.ofNat i.val) : Int) else -1:=by decide
theorem figs2 : ∀ i : Fin 256,Lib.indexByte (figs.take 2) (UInt8.ofNat i.val) = if isDg 2 (UInt8.ofNat i.val) then (dval (UInt8.ofNat i.val) : Int) else -1:=by decide
theorem figsB {B : Nat} (hB : B = 16 ∨ B = 10 ∨ B = 2) (c : UInt8) : Lib.indexByte (figs.take B) c = if isDg B c then (dval c : Int) else -1:=by
 rcases hB with rfl | rfl | rfl
 ·have:=figs16 ⟨c.toNat,c.toNat_lt⟩; simpa using this
 ·have:=figs10 ⟨c.toNat,c.toNat_lt⟩; simpa using this
 ·have:=figs2 ⟨c.toNat,c.toNat_lt⟩; simpa using this
theorem ib_at (t : List UInt8) (c : UInt8) (k : Int) (h : Lib.indexByte t c = k) (W : World) : Calls Tryz.prog 87 #[.string ⟨t.toArray⟩,.int .u8 (c.toNat : Int)] W fun e w' => e = .returned (.int .i64 k) ∧ W = w' :=
 (Tryz.strings_IndexByte ⟨t.toArray⟩ (c.toNat : Int) W).mono fun _ _ h' => ⟨by rw [h'.1,Int.toNat_natCast,show c.toNat.toUInt8 = c from by simp,← h],h'.2.symm⟩
theorem isDg_val {B : Nat} {c : UInt8} (h : isDg B c = true) : dval c < B:=by
 unfold isDg at h;rw [Bool.and_eq_true,decide_eq_true_eq] at h;exact h.2
theorem dig10_len (B : Nat) (hB : B ≤ 16) (s : List UInt8) (hs : ∀ c ∈ s,isDg B c = true) : (dig 10 (numV B s)).length ≤ 10 * s.length:=by
 refine dig_len (by decide) _ _ ?_;have h1:=numV_lt B (by omega) s.length s rfl (fun c hc => isDg_val (hs c hc));have h2 : 4294967296 ^ s.length ≤ (10 ^ 10) ^ s.length:=Nat.pow_le_pow_left (by decide) _;rw [← Nat.pow_mul] at h2;exact Nat.lt_of_lt_of_le h1 h2
def DgPost (w : World) (R : Option Nat) (e : Ending) (w' : World) : Prop :=
 Below w.heap.size w w' ∧ match R with
 | none => e = .returned (.tuple #[.slice none 0 0,.bool false])
 | some n => ∃ A c,e = .returned (.tuple #[.slice A (dig 10 n).length c,.bool true]) ∧ (dig 10 n).length ≤ c ∧ Row w' A (i64s (dig 10 n))
theorem digitsOf_any (s : List UInt8) (B : Nat) (w : World) (hB : B = 16 ∨ B = 10 ∨ B = 2) (hl : s.length ≤ 1000) :
  Calls Tryz.prog 48 #[.string ⟨s.toArray⟩,.int .i64 (B : Int)] w (DgPost w (digO B s)):=by
 obtain ⟨b,hbb⟩ : ∃ b,w.heap.size = b:=⟨_,rfl⟩;have HB:=Lib.hid hbb;clear hbb;have hB16 : B ≤ 16:=by omega
 have hB2 : 2 ≤ B:=by omega
 have HF:=Lib.hid (fun c => figsB hB c);have HSL:=Lib.hid (fun W => run_upto figs B (by show B ≤ 16; omega) (B : Int) rfl W);obtain ⟨T,hT⟩ : ∃ T,figs.take B = T:=⟨_,rfl⟩;rw [hT] at HF HSL;obtain ⟨R,hR⟩ : ∃ R,digO B s = R:=⟨_,rfl⟩;rw [hR];have HR:=Lib.hid hR;have hsl:=HSL.out;unfold figs at hsl;clear hR hT hB;go_enter Tryz.func48,Tryz.ntmps48;go_wp2_with fail
 go_loopw [6,7,8,11] (fun v i7 i8 i wr => ∃ (k : Nat) (A : Option Addr) (c : Nat),k ≤ s.length ∧ i = .int .i64 (k : Int) ∧ Hid (∀ c ∈ s.take k,isDg B c = true) ∧ v = .slice A (dig 10 (numV B (s.take k))).length c ∧ (dig 10 (numV B (s.take k))).length ≤ c ∧ Row wr A (i64s (dig 10 (numV B (s.take k)))) ∧ Below b w wr ∧ (k = 0 → A = none ∧ c = 0)) (fun _ _ _ i _ => s.length - (RowKit.intOf i).toNat)
 case atStart => exact ⟨0,none,0,Nat.zero_le _,rfl,Lib.hid (fun c hc => by simp at hc),by rw [List.take_zero,show numV B [] = 0 from rfl,dig_zero]; rfl,by rw [List.take_zero,show numV B [] = 0 from rfl,dig_zero]; exact Nat.le_refl _,.inl (by rw [List.take_zero,show numV B [] = 0 from rfl,dig_zero]; rfl),by rw [← HB.out]; exact Below.refl _ _,fun _ => ⟨rfl,rfl⟩⟩
 case round =>
  obtain ⟨k,A,cc,hk,rfl,HA,rfl,hcap,hrow,hb,h0⟩:=hrel;have H0:=Lib.hid h0;clear h0;have hbs:=hb.size;rw [HB.out] at hbs
  by_cases hlt : k < s.length
  ·have hix:=run_idx s k hlt (k : Int) rfl;have HF2:=Lib.hid (HF.out (at0 s k));have htk : s.take (k + 1) = s.take k ++ [at0 s k]:=(by rw [List.take_add_one,List.getElem?_eq_getElem hlt,at0_lt s k hlt]; rfl);have HTK:=Lib.hid htk;have hdl:=dig10_len B hB16 (s.take k) HA.out;rw [List.length_take] at hdl
   by_cases hd : isDg B (at0 s k) = true
   ·have hdv:=isDg_val hd;have HIB:=Lib.hid (fun W => ib_at T (at0 s k) (dval (at0 s k) : Int) (by rw [HF2.out,if_pos hd]) W);have HA2 : Hid (∀ c ∈ s.take (k + 1),isDg B c = true):=Lib.hid (by
     rw [HTK.out];intro c hc;rcases List.mem_append.1 hc with h | h
     ·exact HA.out c h
     ·rw [List.mem_singleton.1 h]; exact hd)
    have HN:=Lib.hid (show numV B (s.take (k + 1)) = numV B (s.take k) * B + dval (at0 s k) from by rw [HTK.out,numV_snoc]);have HAF:=Lib.hid (fun W (h : Row W A (i64s (dig 10 (numV B (s.take k))))) => affine_any (w:=W) (numV B (s.take k)) B (dval (at0 s k)) A cc (by omega) (by omega) (by omega) h);obtain ⟨L,hL⟩ : ∃ L,dig 10 (numV B (s.take k)) = L:=⟨_,rfl⟩;rw [← HN.out] at HAF;rw [hL] at hcap hrow HAF ⊢;obtain ⟨dv,hdve⟩ : ∃ dv,dval (at0 s k) = dv:=⟨_,rfl⟩;rw [hdve] at HIB HAF hdv;obtain ⟨cb,hcb⟩ : ∃ cb,at0 s k = cb:=⟨_,rfl⟩;rw [hcb] at HIB hix;clear htk HTK HA HN hL HF2 hdve hcb hd hdl;go_wp2_with fail;go_quiet ((go_at_call 87; exact quiet_left (HIB.out _)));go_wp2_with fail;refine (HAF.out _ (hrow.keepB (below_drewN (Below.refl _ _) _))).mono ?_;rintro e w2 ⟨⟨A',c',rfl,hc',hr'⟩,ba⟩;have hb2:=below_then (below_drewN hb _) ba hbs;clear HAF ba;go_wp2_with fail;go_roundw
    case rel => exact ⟨k + 1,A',c',by omega,by go_num,HA2,rfl,hc',hr',hb2,fun h => absurd h (by omega)⟩
    case measure => simp [RowKit.intOf]; omega
   ·have HIB:=Lib.hid (fun W => ib_at T (at0 s k) (-1) (by rw [HF2.out,if_neg hd]) W);have HRN : Hid (R = none):=Lib.hid (by
     rw [← HR.out];unfold digO;rw [if_neg];rintro ⟨_,h⟩;rw [List.all_eq_true] at h;exact hd (h _ (by rw [at0_lt s k hlt]; exact List.getElem_mem hlt)))
    obtain ⟨L,hL⟩ : ∃ L,dig 10 (numV B (s.take k)) = L:=⟨_,rfl⟩;rw [hL] at hcap hrow ⊢;obtain ⟨cb,hcb⟩ : ∃ cb,at0 s k = cb:=⟨_,rfl⟩;rw [hcb] at HIB hix;clear htk HTK HA hL HF2 hcb hd hdl;go_wp2_with fail;go_quiet ((go_at_call 87; exact quiet_left (HIB.out _)));go_wp2_with fail;go_ret2;rw [HRN.out];exact ⟨by rw [HB.out]; exact below_drewN hb _,rfl⟩
  ·have hks : s.take k = s:=List.take_of_length_le (by omega);rw [hks] at HA hrow hcap ⊢;obtain ⟨N,hN⟩ : ∃ N,numV B s = N:=⟨_,rfl⟩;rw [hN] at hrow hcap ⊢;rcases hsc : s with _ | ⟨c0,s0⟩
   ·subst hsc;obtain ⟨rfl,rfl⟩:=H0.out (by simp at hk; exact hk);have hN0 : N = 0:=hN.symm;subst hN0;have HRN : Hid (R = none):=Lib.hid (by rw [← HR.out]; unfold digO; rw [if_neg (fun h => h.1 rfl)]);rw [dig_zero] at hrow hcap ⊢;clear hks hN HA;go_wp2_with fail;go_ret2;rw [HRN.out];exact ⟨by rw [HB.out]; exact hb,rfl⟩
   ·have HRN : Hid (R = some N):=Lib.hid (by
     rw [← HR.out,← hN];unfold digO;rw [if_pos ⟨by rw [hsc]; simp,List.all_eq_true.2 HA.out⟩])
    rw [← hsc];have hne : (!s.isEmpty) = true:=(by rw [hsc]; rfl);have hne2 : s.isEmpty = false:=(by rw [hsc]; rfl);clear hks hN HA hsc;go_wp2_with fail;go_ret2;rw [HRN.out];exact ⟨by rw [HB.out]; exact hb,A,cc,rfl,hcap,hrow⟩
end Go.Proofs.YtonehlkiackhcaaGreatDoor

namespace Go.Proofs
open Go.Shelf
def Tryz.lays159_ren : Go.Shelf.Ren:=⟨fun | 159 => 168 | 165 => 105 | 166 => 62 | 167 => 77 | 169 => 66 | 230 => 201 | 204 => 202 | 240 => 99 | 241 => 140 | 197 => 84 | 118 => 220 | 168 => 79 | 270 => 221 | 262 => 222 | 276 => 133 | 277 => 179 | 260 => 121 | 242 => 46 | 313 => 238 | 278 => 89 | 274 => 247 | 275 => 248 | n => n,fun | 9 => 9 | 4 => 4 | 3 => 3 | 5 => 5 | 72 => 99 | 0 => 0 | 76 => 102 | 75 => 101 | 107 => 245 | 70 => 97 | 20 => 20 | 37 => 71 | 127 => 158 | 21 => 21 | 105 => 131 | 164 => 193 | 162 => 304 | 203 => 302 | 119 => 160 | 46 => 121 | 139 => 163 | 138 => 162 | 51 => 63 | 160 => 312 | 208 => 318 | 206 => 316 | 80 => 54 | n => n,fun | 13 => 8 | 3 => 0 | 4 => 1 | n => n⟩
theorem Tryz.lays159 : Go.Proofs.Lays.n159 Tryz.prog Tryz.lays159_ren:={
 mixed:=by kernel_rfl
 f118:=Tryz.func220.trans (congrArg some (by kernel_rfl))
 f159:=Tryz.func168.trans (congrArg some (by kernel_rfl))
 f165:=Tryz.func105.trans (congrArg some (by kernel_rfl))
 f166:=Tryz.func62.trans (congrArg some (by kernel_rfl))
 f167:=Tryz.func77.trans (congrArg some (by kernel_rfl))
 f168:=Tryz.func79.trans (congrArg some (by kernel_rfl))
 f169:=Tryz.func66.trans (congrArg some (by kernel_rfl))
 f197:=Tryz.func84.trans (congrArg some (by kernel_rfl))
 f204:=Tryz.func202.trans (congrArg some (by kernel_rfl))
 f230:=Tryz.func201.trans (congrArg some (by kernel_rfl))
 f240:=Tryz.func99.trans (congrArg some (by kernel_rfl))
 f241:=Tryz.func140.trans (congrArg some (by kernel_rfl))
 f242:=Tryz.func46.trans (congrArg some (by kernel_rfl))
 f260:=Tryz.func121.trans (congrArg some (by kernel_rfl))
 f262:=Tryz.func222.trans (congrArg some (by kernel_rfl))
 f270:=Tryz.func221.trans (congrArg some (by kernel_rfl))
 f274:=Tryz.func247.trans (congrArg some (by kernel_rfl))
 f275:=Tryz.func248.trans (congrArg some (by kernel_rfl))
 f276:=Tryz.func133.trans (congrArg some (by kernel_rfl))
 f277:=Tryz.func179.trans (congrArg some (by kernel_rfl))
 f278:=Tryz.func89.trans (congrArg some (by kernel_rfl))
 f313:=Tryz.func238.trans (congrArg some (by kernel_rfl))
 t0:=Tryz.underlying0
 a0:=Tryz.isAgg0
 z0:=Tryz.sizeOf0
 v0:=Tryz.zeroValue0
 t3:=Tryz.underlying3
 a3:=Tryz.isAgg3
 z3:=Tryz.sizeOf3
 v3:=Tryz.zeroValue3
 t4:=Tryz.underlying4
 a4:=Tryz.isAgg4
 z4:=Tryz.sizeOf4
 v4:=Tryz.zeroValue4
 t5:=Tryz.underlying5
 a5:=Tryz.isAgg5
 z5:=Tryz.sizeOf5
 v5:=Tryz.zeroValue5
 t9:=Tryz.underlying9
 a9:=Tryz.isAgg9
 z9:=Tryz.sizeOf9
 v9:=Tryz.zeroValue9
 t20:=Tryz.underlying20
 a20:=Tryz.isAgg20
 z20:=Tryz.sizeOf20
 v20:=Tryz.zeroValue20
 t21:=Tryz.underlying21
 a21:=Tryz.isAgg21
 z21:=Tryz.sizeOf21
 v21:=Tryz.zeroValue21
 t37:=Tryz.underlying71
 a37:=Tryz.isAgg71
 z37:=Tryz.sizeOf71
 v37:=Tryz.zeroValue71
 t46:=Tryz.underlying121
 a46:=Tryz.isAgg121
 z46:=Tryz.sizeOf121
 v46:=Tryz.zeroValue121
 t51:=Tryz.underlying63
 a51:=Tryz.isAgg63
 z51:=Tryz.sizeOf63
 v51:=Tryz.zeroValue63
 t70:=Tryz.underlying97
 a70:=Tryz.isAgg97
 z70:=Tryz.sizeOf97
 v70:=Tryz.zeroValue97
 t72:=Tryz.underlying99
 a72:=Tryz.isAgg99
 z72:=Tryz.sizeOf99
 v72:=Tryz.zeroValue99
 t75:=Tryz.underlying101
 a75:=Tryz.isAgg101
 z75:=Tryz.sizeOf101
 v75:=Tryz.zeroValue101
 t76:=Tryz.underlying102
 a76:=Tryz.isAgg102
 z76:=Tryz.sizeOf102
 v76:=Tryz.zeroValue102
 t105:=Tryz.underlying131
 a105:=Tryz.isAgg131
 z105:=Tryz.sizeOf131
 v105:=Tryz.zeroValue131
 t107:=Tryz.underlying245
 a107:=Tryz.isAgg245
 z107:=Tryz.sizeOf245
 v107:=Tryz.zeroValue245
 t119:=Tryz.underlying160
 a119:=Tryz.isAgg160
 z119:=Tryz.sizeOf160
 t127:=Tryz.underlying158
 a127:=Tryz.isAgg158
 z127:=Tryz.sizeOf158
 v127:=Tryz.zeroValue158
 t138:=Tryz.underlying162
 a138:=Tryz.isAgg162
 z138:=Tryz.sizeOf162
 v138:=Tryz.zeroValue162
 t139:=Tryz.underlying163
 a139:=Tryz.isAgg163
 z139:=Tryz.sizeOf163
 v139:=Tryz.zeroValue163
 t160:=Tryz.underlying312
 a160:=Tryz.isAgg312
 z160:=Tryz.sizeOf312
 v160:=Tryz.zeroValue312
 t162:=Tryz.underlying304
 a162:=Tryz.isAgg304
 z162:=Tryz.sizeOf304
 v162:=Tryz.zeroValue304
 t164:=Tryz.underlying193
 a164:=Tryz.isAgg193
 z164:=Tryz.sizeOf193
 v164:=Tryz.zeroValue193
 t203:=Tryz.underlying302
 a203:=Tryz.isAgg302
 z203:=Tryz.sizeOf302
 v203:=Tryz.zeroValue302
 t206:=Tryz.underlying316
 a206:=Tryz.isAgg316
 z206:=Tryz.sizeOf316
 v206:=Tryz.zeroValue316
 t208:=Tryz.underlying318
 a208:=Tryz.isAgg318
 z208:=Tryz.sizeOf318
 v208:=Tryz.zeroValue318
 g3:=by kernel_rfl
 g4:=by kernel_rfl
 g13:=by kernel_rfl }
theorem Tryz.Builder_Extra_159 : Builder.Extra Tryz.prog Tryz.lays159_ren:={
 sizeBuilder:=by kernel_rfl
 liesBuilder:=by kernel_rfl
 t5:=Tryz.underlying5
 a5:=Tryz.isAgg5
 z5:=Tryz.sizeOf5
 v5:=Tryz.zeroValue5
 infoByte:=by kernel_rfl
 cellsByte:=by kernel_rfl
 sizeByte:=by kernel_rfl
 neB5:=by decide }
def Tryz.lays143_ren : Go.Shelf.Ren:=⟨fun | 143 => 131 | 219 => 108 | 217 => 124 | 225 => 107 | 224 => 106 | 267 => 141 | 266 => 160 | 314 => 180 | n => n,fun | 9 => 9 | 3 => 3 | 4 => 4 | 5 => 5 | 46 => 121 | 146 => 198 | 51 => 63 | n => n,fun | 1 => 2 | n => n⟩
theorem Tryz.lays143 : Go.Proofs.Lays.n143 Tryz.prog Tryz.lays143_ren:={
 mixed:=by kernel_rfl
 f143:=Tryz.func131.trans (congrArg some (by kernel_rfl))
 f217:=Tryz.func124.trans (congrArg some (by kernel_rfl))
 f219:=Tryz.func108.trans (congrArg some (by kernel_rfl))
 f224:=Tryz.func106.trans (congrArg some (by kernel_rfl))
 f225:=Tryz.func107.trans (congrArg some (by kernel_rfl))
 f266:=Tryz.func160.trans (congrArg some (by kernel_rfl))
 f267:=Tryz.func141.trans (congrArg some (by kernel_rfl))
 f314:=Tryz.func180.trans (congrArg some (by kernel_rfl))
 t3:=Tryz.underlying3
 a3:=Tryz.isAgg3
 z3:=Tryz.sizeOf3
 v3:=Tryz.zeroValue3
 t4:=Tryz.underlying4
 a4:=Tryz.isAgg4
 z4:=Tryz.sizeOf4
 v4:=Tryz.zeroValue4
 t5:=Tryz.underlying5
 a5:=Tryz.isAgg5
 z5:=Tryz.sizeOf5
 v5:=Tryz.zeroValue5
 t9:=Tryz.underlying9
 a9:=Tryz.isAgg9
 z9:=Tryz.sizeOf9
 v9:=Tryz.zeroValue9
 t46:=Tryz.underlying121
 a46:=Tryz.isAgg121
 z46:=Tryz.sizeOf121
 v46:=Tryz.zeroValue121
 t51:=Tryz.underlying63
 a51:=Tryz.isAgg63
 z51:=Tryz.sizeOf63
 v51:=Tryz.zeroValue63
 t146:=Tryz.underlying198
 a146:=Tryz.isAgg198
 z146:=Tryz.sizeOf198
 v146:=Tryz.zeroValue198
 g1:=by kernel_rfl }
open Go.RowKit Go.Lib in
theorem Tryz.strings_Index_one (s : ByteArray) (c : UInt8) (w : World) :
  Calls Tryz.prog 131 #[.string s,.string ⟨#[c]⟩] w fun e w' => e = .returned (.int .i64 (Lib.indexByte s.data.toList c)) ∧ w' = w:=Any.strings_Index_one Tryz.lays143 s c w
open Go.RowKit Go.Lib in
theorem Tryz.strings_ToLower_any (s : ByteArray) (w : World) (hs : s.size < 35184372088832) (hV : CaseVar 8 caseA w) (hT : Lib.Utf8Tabs 0 1 w) :
  Calls Tryz.prog 168 #[.string s] w fun e w' => e = .returned (.string ⟨(Lib.toLowerD s.data.toList).toArray⟩) ∧ Below w.heap.size w w':=Any.strings_ToLower_any Tryz.lays159 Tryz.Builder_Extra_159 s w hs hV hT
end Go.Proofs

namespace Go.Proofs.YtonehlkiackhcaaGreatDoor
open Go.RowKit Go.Lib
structure CEnv (w : World) : Prop where
 l : LEnv w
 cas : CaseVar 8 caseA w
theorem CEnv.keepB {w w' : World} (h : CEnv w) (hb : Below w.heap.size w w') : CEnv w':=⟨h.l.keepB hb,CaseVar_below h.cas hb⟩
theorem toLower_at (r : List UInt8) (w : World) (hl : r.length ≤ 1000) (he : CEnv w) :
  Calls Tryz.prog 168 #[.string ⟨r.toArray⟩] w fun e w' => e = .returned (.string ⟨(toLowerD r).toArray⟩) ∧ Below w.heap.size w w' :=
 Tryz.strings_ToLower_any ⟨r.toArray⟩ w (by simp [ByteArray.size]; omega) he.cas he.l.rd.tabs
theorem low_len : ∀ (k : Nat) (r : List UInt8),r.length ≤ k → (toLowerD r).length ≤ 4 * k
 | 0,r,h => by rw [List.eq_nil_of_length_eq_zero (Nat.le_zero.1 h)]; exact Nat.le_refl _
 | k + 1,r,h => by
  by_cases hr : r = []
  ·subst hr; exact Nat.zero_le _
  ·unfold toLowerD;rw [mapD_step toLowerU r hr,List.length_append];have hw:=decodeL_width r;have ih:=low_len k (r.drop (decodeL r).2) (by rw [List.length_drop]; omega);unfold toLowerD at ih;have h4 : (if 0 ≤ toLowerU ((decodeL r).1 : Int) then encodeRune (toLowerU ((decodeL r).1 : Int)) else []).length ≤ 4:=by
    split
    ·unfold encodeRune encodeRuneZ;rw [List.length_map];split
     ·simp
     ·split
      ·simp
      ·split
       ·simp
       ·split <;> simp
    ·simp
   omega
theorem V_drop_le (l : List Nat) (k : Nat) : V 10 (l.drop k) ≤ V 10 l:=by
 have h:=V_append 10 (l.take k) (l.drop k);rw [List.take_append_drop] at h;have h1 : 0 < 10 ^ (l.take k).length:=Nat.pow_pos (by decide);have h2 : V 10 (l.drop k) ≤ 10 ^ (l.take k).length * V 10 (l.drop k):=Nat.le_mul_of_pos_left _ h1;omega
theorem hexes_any (s : List UInt8) (a b : Nat) (w : World) (hab : a ≤ b) (hb : b ≤ s.length) (h7 : b ≤ a + 7) (he : CEnv w) :
  Calls Tryz.prog 132 #[.string ⟨s.toArray⟩,.int .i64 (a : Int),.int .i64 (b : Int)] w fun e w' => e = .returned (.tuple #[.int .i64 (((hexS (cutL s a b)).getD 0 : Nat) : Int),.bool (hexS (cutL s a b)).isSome]) ∧ Below w.heap.size w w':=by
 have hsub:=run_sub s a b hab hb (a : Int) (b : Int) rfl rfl;have hlen:=cutL_len (a:=a) hb;obtain ⟨r,hr⟩ : ∃ r,cutL s a b = r:=⟨_,rfl⟩;rw [show (s.drop a).take (b - a) = r from hr] at hsub;rw [hr] at hlen ⊢;have hlow:=hex_low r (by omega);have hpow : ∀ m,hexS r = some m → m < 16 ^ 7:=fun m hm => Nat.lt_of_lt_of_le (hexS_pow hm) (Nat.pow_le_pow_right (by decide) (by omega));obtain ⟨R,hR⟩ : ∃ R,hexS r = R:=⟨_,rfl⟩;rw [hR] at hlow hpow ⊢;have HTL:=Lib.hid (toLower_at r w (by omega) he);have hll:=low_len 7 r (by omega);have HDG:=Lib.hid (fun W => digitsOf_any (toLowerD r) 16 W (.inl rfl) (by omega));rw [← hlow] at HDG;obtain ⟨T,hT⟩ : ∃ T,toLowerD r = T:=⟨_,rfl⟩;rw [hT] at HTL HDG;clear hR hr hT hlow hll;have HP:=Lib.hid hpow;clear hpow;go_enter Tryz.func132,Tryz.ntmps132;go_wp2_with fail;refine HTL.out.mono ?_;rintro e w1 ⟨rfl,hb1⟩;go_wp2_with fail;refine (HDG.out w1).mono ?_;rintro e w2 ⟨hb2,hR⟩;have hb3:=below_then hb1 hb2 hb1.size;clear HTL HDG hb1 hb2;rcases R with _ | N
 ·obtain rfl:=hR;go_wp2_with fail
  go_loop [10,11] (fun n k => n = .int .i64 0 ∧ k = .int .i64 (-1)) (fun _ k => 0)
  case atStart => exact ⟨rfl,rfl⟩
  case round =>
   obtain ⟨rfl,rfl⟩:=hrel;go_wp2_with fail;go_ret2;exact ⟨rfl,hb3⟩
 ·obtain ⟨A,c,rfl,hcap,hrow⟩:=hR;have hN:=HP.out N rfl;have hV:=V_dig (B:=10) (by decide) N;have HL:=Lib.hid (fun x (hx : x ∈ dig 10 N) => dig_lt (B:=10) (by decide) N x hx);have hln : (dig 10 N).length ≤ 10:=dig_len (by decide) 10 N (by omega);obtain ⟨D,hD⟩ : ∃ D,dig 10 N = D:=⟨_,rfl⟩;rw [hD] at hV HL hrow hcap hln ⊢;have HV:=Lib.hid hV;have HVD:=Lib.hid (fun k => V_drop_le D k);clear hV hD;go_wp2_with fail
  go_loop [10,11] (fun n k => ∃ j : Nat,j ≤ D.length ∧ k = .int .i64 ((j : Int) - 1) ∧ n = .int .i64 (V 10 (D.drop j) : Nat)) (fun _ k => (RowKit.intOf k + 1).toNat)
  case atStart => exact ⟨D.length,Nat.le_refl _,by rfl,by rw [List.drop_length]; rfl⟩
  case round =>
   obtain ⟨j,hj,rfl,rfl⟩:=hrel;rcases j with _ | i
   ·rw [show ((0 : Nat) : Int) - 1 = -1 from rfl,List.drop_zero,HV.out];go_wp2_with fail;go_ret2;exact ⟨rfl,hb3⟩
   ·rw [show ((i + 1 : Nat) : Int) - 1 = (i : Int) by omega];have hlt : i < D.length:=(by omega);obtain ⟨b0,off,rfl,hcell⟩:=row_i64 hrow hlt;have hdr : D.drop i = D[i] :: D.drop (i + 1):=List.drop_eq_getElem_cons hlt;have hvd:=HVD.out i;rw [HV.out] at hvd;have hvv : V 10 (D.drop i) = D[i] + 10 * V 10 (D.drop (i + 1)):=(by rw [hdr]; rfl);obtain ⟨x,hx⟩ : ∃ x,D[i] = x:=⟨_,rfl⟩;rw [hx] at hcell hvv;obtain ⟨v,hv⟩ : ∃ v,V 10 (D.drop (i + 1)) = v:=⟨_,rfl⟩;rw [hv] at hvv ⊢;have h1 : v ≤ 268435456:=(by omega);have h2 : x ≤ 268435456:=(by omega);have HVV:=Lib.hid hvv;clear hdr hx hv hvv hvd;go_wp2_with fail
    go_round
    case rel => exact ⟨i,by omega,rfl,by rw [HVV.out]; go_num⟩
    case measure => simp [RowKit.intOf]
end Go.Proofs.YtonehlkiackhcaaGreatDoor
