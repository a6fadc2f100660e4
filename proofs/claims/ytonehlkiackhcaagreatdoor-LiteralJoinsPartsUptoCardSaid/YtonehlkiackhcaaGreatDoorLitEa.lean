/- The literals: an escape, as the reference reads it. Nothing is claimed here. -/
import Derived.Test.YtonehlkiackhcaaGreatDoorLitDb
set_option linter.unusedVariables false
set_option linter.unusedSimpArgs false
set_option maxRecDepth 100000
set_option maxHeartbeats 16000000
namespace Go.Proofs
open Go.Shelf
def Tryz.lays159_ren : Go.Shelf.Ren:=⟨fun | 159 => 168 | 165 => 105 | 166 => 62 | 167 => 77 | 169 => 66 | 230 => 201 | 204 => 202 | 240 => 99 | 241 => 140 | 197 => 84 | 118 => 220 | 168 => 79 | 270 => 221 | 262 => 222 | 276 => 133 | 277 => 179 | 260 => 121 | 242 => 46 | 313 => 238 | 278 => 89 | 274 => 247 | 275 => 248 | n => n,fun | 9 => 9 | 4 => 4 | 3 => 3 | 5 => 5 | 72 => 99 | 0 => 0 | 76 => 102 | 75 => 101 | 107 => 245 | 70 => 97 | 20 => 20 | 37 => 71 | 127 => 158 | 21 => 21 | 105 => 131 | 164 => 193 | 162 => 304 | 203 => 302 | 119 => 160 | 46 => 121 | 139 => 163 | 138 => 162 | 51 => 63 | 160 => 312 | 208 => 318 | 206 => 316 | 80 => 54 | n => n,fun | 13 => 8 | 3 => 0 | 4 => 1 | n => n⟩
theorem Tryz.lays159 : Go.Proofs.Lays.n159 Tryz.prog Tryz.lays159_ren:={
 mixed:=by kernel_rfl
 f118:=Tryz.func220.trans (congrArg some (by kernel_rfl))
 f159:=Tryz.func168.trans (congrArg some (by kernel_rfl))
 f165:=Tryz.func105.trans (congrArg some (by kernel_rfl))
 f166:=Tryz.func62.trans (congrArg some (by kernel_rfl))
 f167:=Tryz.func77.trans (congrArg some (by kernel_rfl))
 f168:=Tryz.func79.trans (congrArg some (by kernel_rfl))
 f169:=Tryz.func66.trans (congrArg some (by kernel_rfl))
 f197:=Tryz.func84.trans (congrArg some (by kernel_rfl))
 f204:=Tryz.func202.trans (congrArg some (by kernel_rfl))
 f230:=Tryz.func201.trans (congrArg some (by kernel_rfl))
 f240:=Tryz.func99.trans (congrArg some (by kernel_rfl))
 f241:=Tryz.func140.trans (congrArg some (by kernel_rfl))
 f242:=Tryz.func46.trans (congrArg some (by kernel_rfl))
 f260:=Tryz.func121.trans (congrArg some (by kernel_rfl))
 f262:=Tryz.func222.trans (congrArg some (by kernel_rfl))
 f270:=Tryz.func221.trans (congrArg some (by kernel_rfl))
 f274:=Tryz.func247.trans (congrArg some (by kernel_rfl))
 f275:=Tryz.func248.trans (congrArg some (by kernel_rfl))
 f276:=Tryz.func133.trans (congrArg some (by kernel_rfl))
 f277:=Tryz.func179.trans (congrArg some (by kernel_rfl))
 f278:=Tryz.func89.trans (congrArg some (by kernel_rfl))
 f313:=Tryz.func238.trans (congrArg some (by kernel_rfl))
 t0:=Tryz.underlying0
 a0:=Tryz.isAgg0
 z0:=Tryz.sizeOf0
 v0:=Tryz.zeroValue0
 t3:=Tryz.underlying3
 a3:=Tryz.isAgg3
 z3:=Tryz.sizeOf3
 v3:=Tryz.zeroValue3
 t4:=Tryz.underlying4
 a4:=Tryz.isAgg4
 z4:=Tryz.sizeOf4
 v4:=Tryz.zeroValue4
 t5:=Tryz.underlying5
 a5:=Tryz.isAgg5
 z5:=Tryz.sizeOf5
 v5:=Tryz.zeroValue5
 t9:=Tryz.underlying9
 a9:=Tryz.isAgg9
 z9:=Tryz.sizeOf9
 v9:=Tryz.zeroValue9
 t20:=Tryz.underlying20
 a20:=Tryz.isAgg20
 z20:=Tryz.sizeOf20
 v20:=Tryz.zeroValue20
 t21:=Tryz.underlying21
 a21:=Tryz.isAgg21
 z21:=Tryz.sizeOf21
 v21:=Tryz.zeroValue21
 t37:=Tryz.underlying71
 a37:=Tryz.isAgg71
 z37:=Tryz.sizeOf71
 v37:=Tryz.zeroValue71
 t46:=Tryz.underlying121
 a46:=Tryz.isAgg121
 z46:=Tryz.sizeOf121
 v46:=Tryz.zeroValue121
 t51:=Tryz.underlying63
 a51:=Tryz.isAgg63
 z51:=Tryz.sizeOf63
 v51:=Tryz.zeroValue63
 t70:=Tryz.underlying97
 a70:=Tryz.isAgg97
 z70:=Tryz.sizeOf97
 v70:=Tryz.zeroValue97
 t72:=Tryz.underlying99
 a72:=Tryz.isAgg99
 z72:=Tryz.sizeOf99
 v72:=Tryz.zeroValue99
 t75:=Tryz.underlying101
 a75:=Tryz.isAgg101
 z75:=Tryz.sizeOf101
 v75:=Tryz.zeroValue101
 t76:=Tryz.underlying102
 a76:=Tryz.isAgg102
 z76:=Tryz.sizeOf102
 v76:=Tryz.zeroValue102
 t105:=Tryz.underlying131
 a105:=Tryz.isAgg131
 z105:=Tryz.sizeOf131
 v105:=Tryz.zeroValue131
 t107:=Tryz.underlying245
 a107:=Tryz.isAgg245
 z107:=Tryz.sizeOf245
 v107:=Tryz.zeroValue245
 t119:=Tryz.underlying160
 a119:=Tryz.isAgg160
 z119:=Tryz.sizeOf160
 t127:=Tryz.underlying158
 a127:=Tryz.isAgg158
 z127:=Tryz.sizeOf158
 v127:=Tryz.zeroValue158
 t138:=Tryz.underlying162
 a138:=Tryz.isAgg162
 z138:=Tryz.sizeOf162
 v138:=Tryz.zeroValue162
 t139:=Tryz.underlying163
 a139:=Tryz.isAgg163
 z139:=Tryz.sizeOf163
 v139:=Tryz.zeroValue163
 t160:=Tryz.underlying312
 a160:=Tryz.isAgg312
 z160:=Tryz.sizeOf312
 v160:=Tryz.zeroValue312
 t162:=Tryz.underlying304
 a162:=Tryz.isAgg304
 z162:=Tryz.sizeOf304
 v162:=Tryz.zeroValue304
 t164:=Tryz.underlying193
 a164:=Tryz.isAgg193
 z164:=Tryz.sizeOf193
 v164:=Tryz.zeroValue193
 t203:=Tryz.underlying302
 a203:=Tryz.isAgg302
 z203:=Tryz.sizeOf302
 v203:=Tryz.zeroValue302
 t206:=Tryz.underlying316
 a206:=Tryz.isAgg316
 z206:=Tryz.sizeOf316
 v206:=Tryz.zeroValue316
 t208:=Tryz.underlying318
 a208:=Tryz.isAgg318
 z208:=Tryz.sizeOf318
 v208:=Tryz.zeroValue318
 g3:=by kernel_rfl
 g4:=by kernel_rfl
 g13:=by kernel_rfl }
theorem Tryz.Builder_Extra_159 : Builder.Extra Tryz.prog Tryz.lays159_ren:={
 sizeBuilder:=by kernel_rfl
 liesBuilder:=by kernel_rfl
 t5:=Tryz.underlying5
 a5:=Tryz.isAgg5
 z5:=Tryz.sizeOf5
 v5:=Tryz.zeroValue5
 infoByte:=by kernel_rfl
 cellsByte:=by kernel_rfl
 sizeByte:=by kernel_rfl
 neB5:=by decide }
def Tryz.lays143_ren : Go.Shelf.Ren:=⟨fun | 143 => 131 | 219 => 108 | 217 => 124 | 225 => 107 | 224 => 106 | 267 => 141 | 266 => 160 | 314 => 180 | n => n,fun | 9 => 9 | 3 => 3 | 4 => 4 | 5 => 5 | 46 => 121 | 146 => 198 | 51 => 63 | n => n,fun | 1 => 2 | n => n⟩
theorem Tryz.lays143 : Go.Proofs.Lays.n143 Tryz.prog Tryz.lays143_ren:={
 mixed:=by kernel_rfl
 f143:=Tryz.func131.trans (congrArg some (by kernel_rfl))
 f217:=Tryz.func124.trans (congrArg some (by kernel_rfl))
 f219:=Tryz.func108.trans (congrArg some (by kernel_rfl))
 f224:=Tryz.func106.trans (congrArg some (by kernel_rfl))
 f225:=Tryz.func107.trans (congrArg some (by kernel_rfl))
 f266:=Tryz.func160.trans (congrArg some (by kernel_rfl))
 f267:=Tryz.func141.trans (congrArg some (by kernel_rfl))
 f314:=Tryz.func180.trans (congrArg some (by kernel_rfl))
 t3:=Tryz.underlying3
 a3:=Tryz.isAgg3
 z3:=Tryz.sizeOf3
 v3:=Tryz.zeroValue3
 t4:=Tryz.underlying4
 a4:=Tryz.isAgg4
 z4:=Tryz.sizeOf4
 v4:=Tryz.zeroValue4
 t5:=Tryz.underlying5
 a5:=Tryz.isAgg5
 z5:=Tryz.sizeOf5
 v5:=Tryz.zeroValue5
 t9:=Tryz.underlying9
 a9:=Tryz.isAgg9
 z9:=Tryz.sizeOf9
 v9:=Tryz.zeroValue9
 t46:=Tryz.underlying121
 a46:=Tryz.isAgg121
 z46:=Tryz.sizeOf121
 v46:=Tryz.zeroValue121
 t51:=Tryz.underlying63
 a51:=Tryz.isAgg63
 z51:=Tryz.sizeOf63
 v51:=Tryz.zeroValue63
 t146:=Tryz.underlying198
 a146:=Tryz.isAgg198
 z146:=Tryz.sizeOf198
 v146:=Tryz.zeroValue198
 g1:=by kernel_rfl }
open Go.RowKit Go.Lib in
theorem Tryz.strings_Index_one (s : ByteArray) (c : UInt8) (w : World) :
  Calls Tryz.prog 131 #[.string s,.string ⟨#[c]⟩] w fun e w' => e = .returned (.int .i64 (Lib.indexByte s.data.toList c))∧w' = w:=Any.strings_Index_one Tryz.lays143 s c w
open Go.RowKit Go.Lib in
theorem Tryz.strings_ToLower_any (s : ByteArray) (w : World) (hs : s.size < 35184372088832) (hV : CaseVar 8 caseA w) (hT : Lib.Utf8Tabs 0 1 w) :
  Calls Tryz.prog 168 #[.string s] w fun e w' => e = .returned (.string ⟨(Lib.toLowerD s.data.toList).toArray⟩)∧Below w.heap.size w w':=Any.strings_ToLower_any Tryz.lays159 Tryz.Builder_Extra_159 s w hs hV hT
end Go.Proofs

namespace Go.Proofs.YtonehlkiackhcaaGreatDoor
section
open Go.RowKit Go.Lib
structure CEnv (w : World) : Prop where
 l : LEnv w
 cas : CaseVar 8 caseA w
theorem CEnv.keepB {w w' : World} (h : CEnv w) (hb : Below w.heap.size w w') : CEnv w':=⟨h.l.keepB hb,CaseVar_below h.cas hb⟩
theorem toLower_at (r : List UInt8) (w : World) (hl : r.length ≤ 1000) (he : CEnv w) :
  Calls Tryz.prog 168 #[.string ⟨r.toArray⟩] w fun e w' => e = .returned (.string ⟨(toLowerD r).toArray⟩)∧Below w.heap.size w w' :=
 Tryz.strings_ToLower_any ⟨r.toArray⟩ w (by simp [ByteArray.size]; omega) he.cas he.l.rd.tabs
theorem low_len : ∀ (k:Nat) (r : List UInt8),r.length ≤ k → (toLowerD r).length ≤ 4 * k
 | 0,r,h => by rw [List.eq_nil_of_length_eq_zero (Nat.le_zero.1 h)]; exact Nat.le_refl _
 | k + 1,r,h => by
  by_cases hr : r = []
  ·subst hr; exact Nat.zero_le _
  ·unfold toLowerD;rw [mapD_step toLowerU r hr,List.length_append];have hw:=decodeL_width r;have ih:=low_len k (r.drop (decodeL r).2) (by rw [List.length_drop]; omega);unfold toLowerD at ih;have h4 : (if 0 ≤ toLowerU ((decodeL r).1:Int) then encodeRune (toLowerU ((decodeL r).1:Int)) else []).length ≤ 4:=by
    split
    ·unfold encodeRune encodeRuneZ;rw [List.length_map];split
     ·simp
     ·split
      ·simp
      ·split
       ·simp
       ·split <;> simp
    ·simp
   omega
theorem V_drop_le (l : List Nat) (k:Nat) : V 10 (l.drop k) ≤ V 10 l:=by
 have h:=V_append 10 (l.take k) (l.drop k);rw [List.take_append_drop] at h;have h1 : 0 < 10 ^ (l.take k).length:=Nat.pow_pos (by decide);have h2 : V 10 (l.drop k) ≤ 10 ^ (l.take k).length * V 10 (l.drop k):=Nat.le_mul_of_pos_left _ h1;omega
theorem hexes_any (s : List UInt8) (a b:Nat) (w : World) (hab : a ≤ b) (hb : b ≤ s.length) (h7 : b ≤ a + 7) (he : CEnv w) :
  Calls Tryz.prog 132 #[.string ⟨s.toArray⟩,.int .i64 (a:Int),.int .i64 (b:Int)] w fun e w' => e = .returned (.tuple #[.int .i64 (((hexS (cutL s a b)).getD 0:Nat):Int),.bool (hexS (cutL s a b)).isSome])∧Below w.heap.size w w':=by
 have hsub:=run_sub s a b hab hb (a:Int) (b:Int) rfl rfl;have hlen:=cutL_len (a:=a) hb;obtain ⟨r,hr⟩ : ∃ r,cutL s a b = r:=⟨_,rfl⟩;rw [show (s.drop a).take (b - a) = r from hr] at hsub;rw [hr] at hlen ⊢;have hlow:=hex_low r (by omega);have hpow : ∀ m,hexS r = some m → m < 16 ^ 7:=fun m hm => Nat.lt_of_lt_of_le (hexS_pow hm) (Nat.pow_le_pow_right (by decide) (by omega));obtain ⟨R,hR⟩ : ∃ R,hexS r = R:=⟨_,rfl⟩;rw [hR] at hlow hpow ⊢;have HTL:=hid (toLower_at r w (by omega) he);have hll:=low_len 7 r (by omega);have HDG:=hid (fun W => digitsOf_any (toLowerD r) 16 W (.inl rfl) (by omega));rw [← hlow] at HDG;obtain ⟨T,hT⟩ : ∃ T,toLowerD r = T:=⟨_,rfl⟩;rw [hT] at HTL HDG;clear hR hr hT hlow hll;have HP:=hid hpow;clear hpow;go_enter Tryz.func132,Tryz.ntmps132;go_wp2_with fail;refine HTL.out.mono ?_;rintro e w1 ⟨rfl,hb1⟩;go_wp2_with fail;refine (HDG.out w1).mono ?_;rintro e w2 ⟨hb2,hR⟩;have hb3:=below_then hb1 hb2 hb1.size;clear HTL HDG hb1 hb2;rcases R with _ | N
 ·obtain rfl:=hR;go_wp2_with fail
  go_loop [10,11] (fun n k => n = .int .i64 0∧k = .int .i64 (-1)) (fun _ k => 0)
  case atStart => exact ⟨rfl,rfl⟩
  case round =>
   obtain ⟨rfl,rfl⟩:=hrel;go_wp2_with fail;go_ret2;exact ⟨rfl,hb3⟩
 ·obtain ⟨A,c,rfl,hcap,hrow⟩:=hR;have hN:=HP.out N rfl;have hV:=V_dig (B:=10) (by decide) N;have HL:=hid (fun x (hx : x ∈ dig 10 N) => dig_lt (B:=10) (by decide) N x hx);have hln : (dig 10 N).length ≤ 10:=dig_len (by decide) 10 N (by omega);obtain ⟨D,hD⟩ : ∃ D,dig 10 N = D:=⟨_,rfl⟩;rw [hD] at hV HL hrow hcap hln ⊢;have HV:=hid hV;have HVD:=hid (fun k => V_drop_le D k);clear hV hD;go_wp2_with fail
  go_loop [10,11] (fun n k => ∃ j : Nat,j ≤ D.length∧k = .int .i64 ((j:Int) - 1)∧n = .int .i64 (V 10 (D.drop j):Nat)) (fun _ k => (RowKit.intOf k + 1).toNat)
  case atStart => exact ⟨D.length,Nat.le_refl _,by rfl,by rw [List.drop_length]; rfl⟩
  case round =>
   obtain ⟨j,hj,rfl,rfl⟩:=hrel;rcases j with _ | i
   ·rw [show ((0:Nat):Int) - 1 = -1 from rfl,List.drop_zero,HV.out];go_wp2_with fail;go_ret2;exact ⟨rfl,hb3⟩
   ·rw [show ((i + 1:Nat):Int) - 1 = (i:Int) by omega];have hlt : i < D.length:=(by omega);obtain ⟨b0,off,rfl,hcell⟩:=row_i64 hrow hlt;have hdr : D.drop i = D[i] :: D.drop (i + 1):=List.drop_eq_getElem_cons hlt;have hvd:=HVD.out i;rw [HV.out] at hvd;have hvv : V 10 (D.drop i) = D[i] + 10 * V 10 (D.drop (i + 1)):=(by rw [hdr]; rfl);obtain ⟨x,hx⟩ : ∃ x,D[i] = x:=⟨_,rfl⟩;rw [hx] at hcell hvv;obtain ⟨v,hv⟩ : ∃ v,V 10 (D.drop (i + 1)) = v:=⟨_,rfl⟩;rw [hv] at hvv ⊢;have h1 : v ≤ 268435456:=(by omega);have h2 : x ≤ 268435456:=(by omega);have HVV:=hid hvv;clear hdr hx hv hvv hvd;go_wp2_with fail
    go_round
    case rel => exact ⟨i,by omega,rfl,by rw [HVV.out]; go_num⟩
    case measure => simp [RowKit.intOf]
theorem ib_span : ∀ t : List UInt8,Lib.indexByte t 125 = if span (· != 125) t < t.length then ((span (· != 125) t:Nat):Int) else -1
 | [] => rfl
 | c :: t => by
  have ih:=ib_span t;unfold Lib.indexByte span;rw [List.takeWhile_cons]
  by_cases h : c = 125
  ·subst h; simp
  ·rw [if_neg (show ¬ (c == 125) = true by simpa using h),if_pos (show (c != 125) = true by simpa using h),ih];unfold span
   by_cases h2 : (List.takeWhile (fun x => x != 125) t).length < t.length
   ·rw [if_pos h2,if_neg (by rw [beq_iff_eq]; omega),if_pos (by simp; omega)];simp
   ·rw [if_neg h2,if_pos (by decide),if_neg (by simp; omega)]
def escR (t : List UInt8) (i:Nat) (b : Bool) : Option (Nat × Nat) :=
 if at0 t (i + 1) = 110 then some (10,i + 2)
 else if at0 t (i + 1) = 116 then some (9,i + 2)
 else if at0 t (i + 1) = 92 then some (92,i + 2)
 else if at0 t (i + 1) = 34 then some (34,i + 2)
 else if at0 t (i + 1) = 39 then some (39,i + 2)
 else if at0 t (i + 1) = 120 then (if i + 4 ≤ t.length then (hexS (cutL t (i + 2) (i + 4))).map fun n => (n,i + 4) else none)
 else if at0 t (i + 1) = 117∧b = false∧at0 t (i + 2) = 123 then
  (if Lib.indexByte (t.drop (i + 3)) 125 < 1∨6 < Lib.indexByte (t.drop (i + 3)) 125 then none
   else match hexS (cutL t (i + 3) (i + 3 + (Lib.indexByte (t.drop (i + 3)) 125).toNat)) with
    | none => none
    | some n => if validR n = true then some (n,i + 4 + (Lib.indexByte (t.drop (i + 3)) 125).toNat) else none)
 else none
theorem cutL_take {l : List UInt8} {a b m : Nat} (h : b ≤ m) : cutL (l.take m) a b = cutL l a b:=by
 unfold cutL;rw [List.drop_take,List.take_take]
 congr 1
 omega
theorem span_tail (l : List UInt8) (a m:Nat) (h : a < m) (hm : m ≤ l.length) (hc : at0 l a = 123) : span (· != 125) (cutL l a m) = 1 + span (· != 125) (cutL l (a + 1) m):=by
 have h1 : cutL l a m = 123 :: cutL l (a + 1) m:=by
  unfold cutL;rw [drop_at l a (by omega),hc,show m - a = (m - (a + 1)) + 1 by omega,List.take_succ_cons]
 rw [h1];unfold span;rw [List.takeWhile_cons,if_pos (by decide),List.length_cons];omega
theorem escR_escS {l : List UInt8} {x : Sht} {i : Nat} (h1 : i + 1 < x.lim) (hx : x.lim ≤ l.length) : escR (l.take x.lim) i (x.pre == 98) = escS l x i:=by
 have ht : (l.take x.lim).length = x.lim:=by rw [List.length_take]; omega
 have ha : at0 (l.take x.lim) (i + 1) = at0 l (i + 1):=at0_take _ _ _ h1;unfold escR escS;rw [ha,ht];split
 ·rfl
 ·split
  ·rfl
  ·split
   ·rfl
   ·split
    ·rfl
    ·split
     ·rfl
     ·split
      ·by_cases h4 : i + 4 ≤ x.lim
       ·rw [if_pos h4,if_pos h4,cutL_take h4]
       ·rw [if_neg h4,if_neg h4]
      ·by_cases h2 : i + 2 < x.lim
       ·rw [at0_take _ _ _ h2]
        by_cases hu : at0 l (i + 1) = 117∧x.pre ≠ 98∧at0 l (i + 2) = 123
        ·have hd : (l.take x.lim).drop (i + 3) = cutL l (i + 3) x.lim:=(by unfold cutL; rw [List.drop_take]);have hb : brcL l x i = 1 + span (· != 125) (cutL l (i + 3) x.lim):=span_tail l (i + 2) x.lim h2 hx hu.2.2;have hl:=cutL_len (l:=l) (a:=i + 3) (b:=x.lim) hx;rw [if_pos ⟨hu.1,by simpa using hu.2.1,hu.2.2⟩,if_pos hu,hd,ib_span,hl,hb];obtain ⟨k,hk⟩ : ∃ k,span (· != 125) (cutL l (i + 3) x.lim) = k:=⟨_,rfl⟩;rw [hk]
         by_cases hkl : k < x.lim - (i + 3)
         ·rw [if_pos hkl]
          by_cases hk1 : ((k:Int) < 1∨6 < (k:Int))
          ·rw [if_pos hk1];rcases hk1 with hk1 | hk1
           ·have hk0 : k = 0:=(by omega);subst hk0;have : cutL l (i + 3) (i + 2 + (1 + 0)) = []:=by
             unfold cutL;rw [show i + 2 + (1 + 0) - (i + 3) = 0 by omega,List.take_zero]
            rw [this];rfl
           ·cases hexS (cutL l (i + 3) (i + 2 + (1 + k))) with
            | none => rfl
            | some n => simp only; rw [if_neg (by omega)]
          ·rw [if_neg hk1,Int.toNat_natCast,show i + 2 + (1 + k) = i + 3 + k by omega,cutL_take (by omega)];cases hexS (cutL l (i + 3) (i + 3 + k)) with
           | none => rfl
           | some n =>
            simp only
            by_cases hv : validR n = true
            ·rw [if_pos hv,if_pos ⟨by omega,by omega,hv⟩]
             congr 2
             omega
            ·rw [if_neg hv,if_neg (fun h => hv h.2.2)]
         ·rw [if_neg hkl,if_pos (.inl (by decide))];cases hexS (cutL l (i + 3) (i + 2 + (1 + k))) with
          | none => rfl
          | some n => simp only; rw [if_neg (by omega)]
        ·rw [if_neg (fun h => hu ⟨h.1,by simpa using h.2.1,h.2.2⟩),if_neg hu]
       ·have h0 : at0 (l.take x.lim) (i + 2) = 0:=by
         unfold at0;rw [List.getD_eq_getElem?_getD,List.getElem?_eq_none (by omega)];rfl
        rw [h0,if_neg (fun h => absurd h.2.2 (by decide))]
        by_cases hu : at0 l (i + 1) = 117∧x.pre ≠ 98∧at0 l (i + 2) = 123
        ·rw [if_pos hu];have hb : brcL l x i = 0:=by
          unfold brcL cutL;rw [show x.lim - (i + 2) = 0 by omega,List.take_zero];rfl
         have : cutL l (i + 3) (i + 2 + brcL l x i) = []:=by
          unfold cutL;rw [hb,show i + 2 + 0 - (i + 3) = 0 by omega,List.take_zero]
         rw [this];rfl
        ·rw [if_neg hu]
def escV (t : List UInt8) (i:Nat) (b : Bool) : Int × Int × Bool :=
 if at0 t (i + 1) = 110 then (10,(i:Int) + 2,true)
 else if at0 t (i + 1) = 116 then (9,(i:Int) + 2,true)
 else if at0 t (i + 1) = 92 then (92,(i:Int) + 2,true)
 else if at0 t (i + 1) = 34 then (34,(i:Int) + 2,true)
 else if at0 t (i + 1) = 39 then (39,(i:Int) + 2,true)
 else if at0 t (i + 1) = 120 then (if i + 4 ≤ t.length then (((hexS (cutL t (i + 2) (i + 4))).getD 0:Nat),(i:Int) + 4,(hexS (cutL t (i + 2) (i + 4))).isSome) else (0,0,false))
 else if at0 t (i + 1) = 117∧b = false∧at0 t (i + 2) = 123 then
  (if Lib.indexByte (t.drop (i + 3)) 125 < 1∨6 < Lib.indexByte (t.drop (i + 3)) 125 then (0,0,false)
   else (((hexS (cutL t (i + 3) (i + 3 + (Lib.indexByte (t.drop (i + 3)) 125).toNat))).getD 0:Nat),(i:Int) + 4 + ((Lib.indexByte (t.drop (i + 3)) 125).toNat:Nat),
    (hexS (cutL t (i + 3) (i + 3 + (Lib.indexByte (t.drop (i + 3)) 125).toNat))).isSome && validR ((hexS (cutL t (i + 3) (i + 3 + (Lib.indexByte (t.drop (i + 3)) 125).toNat))).getD 0)))
 else (0,0,false)
def EscRel (R : Option (Nat × Nat)) (V : Int × Int × Bool) : Prop:=match R with
 | some (n,j) => V = ((n:Int),(j:Int),true)
 | none => V.2.2 = false
theorem escV_R (t : List UInt8) (i:Nat) (b : Bool) : EscRel (escR t i b) (escV t i b):=by
 unfold escR escV;split
 ·rfl
 ·split
  ·rfl
  ·split
   ·rfl
   ·split
    ·rfl
    ·split
     ·rfl
     ·split
      ·split
       ·cases hexS (cutL t (i + 2) (i + 4)) <;> rfl
       ·rfl
      ·split
       ·split
        ·rfl
        ·cases hexS (cutL t (i + 3) (i + 3 + (Lib.indexByte (t.drop (i + 3)) 125).toNat)) with
         | none => rfl
         | some n =>
          simp only
          by_cases hv : validR n = true
          ·rw [if_pos hv];simp [EscRel,hv]
          ·rw [if_neg hv];simpa [EscRel] using hv
       ·rfl
def EscAt (w : World) (R : Int × Int × Bool) (e : Ending) (w' : World) : Prop :=
 e = .returned (.tuple #[.int .i32 R.1,.int .i64 R.2.1,.bool R.2.2])∧Below w.heap.size w w'
def EscPost (w : World) (R : Option (Nat × Nat)) (e : Ending) (w' : World) : Prop :=
 Below w.heap.size w w'∧match R with
 | some (n,j) => e = .returned (.tuple #[.int .i32 (n:Int),.int .i64 (j:Int),.bool true])
 | none => ∃ c j : Int,e = .returned (.tuple #[.int .i32 c,.int .i64 j,.bool false])
theorem index_at (s : List UInt8) (c : UInt8) (k:Int) (h : Lib.indexByte s c = k) (W : World) : Calls Tryz.prog 131 #[.string ⟨s.toArray⟩,.string ⟨#[c]⟩] W fun e w' => e = .returned (.int .i64 k)∧W = w' :=
 (Tryz.strings_Index_one ⟨s.toArray⟩ c W).mono fun _ _ h' => ⟨by rw [h'.1,← h],h'.2.symm⟩
theorem cut_one (t : List UInt8) (i:Nat) (h : i + 1 < t.length) : (t.drop (i + 1)).take (i + 2 - (i + 1)) = [at0 t (i + 1)]:=by
 rw [show i + 2 - (i + 1) = 1 by omega,drop_at t (i + 1) h];rfl
theorem esc_none (c : UInt8) (h1 : c ≠ 110) (h2 : c ≠ 116) (h3 : c ≠ 92) (h4 : c ≠ 34) (h5 : c ≠ 39) : Lib.indexByte [110,116,92,39,34] c = -1:=by
 simp [Lib.indexByte,Ne.symm h1,Ne.symm h2,Ne.symm h3,Ne.symm h4,Ne.symm h5]
theorem hasp_one (t : List UInt8) (j:Nat) (c : UInt8) (hc : c ≠ 0) (W : World) : Calls Tryz.prog 39 #[.string ⟨(t.drop j).toArray⟩,.string ⟨#[c]⟩] W fun e w' => e = .returned (.bool (at0 t j == c))∧W = w' :=
 (Tryz.strings_HasPrefix ⟨(t.drop j).toArray⟩ ⟨#[c]⟩ W).mono fun _ _ h' => ⟨by
  rw [h'.1];unfold Lib.hasPrefix
  congr 2
  show [c].isPrefixOf (t.drop j) = _
  by_cases h : j < t.length
  ·rw [drop_at t j h];simp [List.isPrefixOf,Bool.beq_comm]
  ·rw [List.drop_eq_nil_of_le (by omega)];have h0 : at0 t j = 0:=by
    unfold at0;rw [List.getD_eq_getElem?_getD,List.getElem?_eq_none (by omega)];rfl
   rw [h0];simp [List.isPrefixOf,Ne.symm hc],h'.2.symm⟩
theorem escape_any (t : List UInt8) (i:Nat) (b : Bool) (w : World) (h1 : i + 1 < t.length) (hl : t.length ≤ 16000) (he : CEnv w) :
  Calls Tryz.prog 93 #[.string ⟨t.toArray⟩,.int .i64 (i:Int),.bool b] w (EscAt w (escV t i b)):=by
 have hsub : ∀ W,_:=fun W => run_sub t (i + 1) (i + 2) (by omega) (by omega) ((i:Int) + 1) ((i:Int) + 2) (by go_num) (by go_num) W;rw [cut_one t i h1] at hsub;have hix : ∀ W,_:=fun W => run_idx t (i + 1) h1 ((i:Int) + 1) (by go_num) W;obtain ⟨R,hR⟩ : ∃ R,escV t i b = R:=⟨_,rfl⟩;rw [hR];unfold escV at hR;obtain ⟨c,hc⟩ : ∃ c,at0 t (i + 1) = c:=⟨_,rfl⟩
 by_cases c1 : c = 110
 ·subst c1;have HIX:=hid (index_at [110,116,92,39,34] 110 0 (by decide));rw [hc] at hsub hix hR;have HRR : Hid (R = (10,(i:Int) + 2,true)):=hid (by rw [← hR]; rfl);have hx9 : ((⟨#[10,9,92,39,34]⟩ : ByteArray)[0]'(by decide)).toNat = 10:=rfl;clear hc hR;go_enter Tryz.func93,Tryz.ntmps93;go_wp2_with fail;refine (HIX.out w).mono ?_;rintro e w1 ⟨rfl,rfl⟩;go_wp2_with fail
  go_ret3
  rw [HRR.out];exact ⟨rfl,Below.refl _ _⟩
 by_cases c2 : c = 116
 ·subst c2;have HIX:=hid (index_at [110,116,92,39,34] 116 1 (by decide));rw [hc] at hsub hix hR;have HRR : Hid (R = (9,(i:Int) + 2,true)):=hid (by rw [← hR]; rfl);have hx9 : ((⟨#[10,9,92,39,34]⟩ : ByteArray)[1]'(by decide)).toNat = 9:=rfl;clear hc hR;go_enter Tryz.func93,Tryz.ntmps93;go_wp2_with fail;refine (HIX.out w).mono ?_;rintro e w1 ⟨rfl,rfl⟩;go_wp2_with fail
  go_ret3
  rw [HRR.out];exact ⟨rfl,Below.refl _ _⟩
 by_cases c3 : c = 92
 ·subst c3;have HIX:=hid (index_at [110,116,92,39,34] 92 2 (by decide));rw [hc] at hsub hix hR;have HRR : Hid (R = (92,(i:Int) + 2,true)):=hid (by rw [← hR]; rfl);have hx9 : ((⟨#[10,9,92,39,34]⟩ : ByteArray)[2]'(by decide)).toNat = 92:=rfl;clear hc hR;go_enter Tryz.func93,Tryz.ntmps93;go_wp2_with fail;refine (HIX.out w).mono ?_;rintro e w1 ⟨rfl,rfl⟩;go_wp2_with fail
  go_ret3
  rw [HRR.out];exact ⟨rfl,Below.refl _ _⟩
 by_cases c4 : c = 34
 ·subst c4;have HIX:=hid (index_at [110,116,92,39,34] 34 4 (by decide));rw [hc] at hsub hix hR;have HRR : Hid (R = (34,(i:Int) + 2,true)):=hid (by rw [← hR]; rfl);have hx9 : ((⟨#[10,9,92,39,34]⟩ : ByteArray)[4]'(by decide)).toNat = 34:=rfl;clear hc hR;go_enter Tryz.func93,Tryz.ntmps93;go_wp2_with fail;refine (HIX.out w).mono ?_;rintro e w1 ⟨rfl,rfl⟩;go_wp2_with fail
  go_ret3
  rw [HRR.out];exact ⟨rfl,Below.refl _ _⟩
 by_cases c5 : c = 39
 ·subst c5;have HIX:=hid (index_at [110,116,92,39,34] 39 3 (by decide));rw [hc] at hsub hix hR;have HRR : Hid (R = (39,(i:Int) + 2,true)):=hid (by rw [← hR]; rfl);have hx9 : ((⟨#[10,9,92,39,34]⟩ : ByteArray)[3]'(by decide)).toNat = 39:=rfl;clear hc hR;go_enter Tryz.func93,Tryz.ntmps93;go_wp2_with fail;refine (HIX.out w).mono ?_;rintro e w1 ⟨rfl,rfl⟩;go_wp2_with fail
  go_ret3
  rw [HRR.out];exact ⟨rfl,Below.refl _ _⟩
 have HIX:=hid (index_at [110,116,92,39,34] c (-1) (esc_none c c1 c2 c3 c4 c5));rw [hc] at hsub hix hR;rw [if_neg c1,if_neg c2,if_neg c3,if_neg c4,if_neg c5] at hR;clear c1 c2 c3 c4 c5
 by_cases c6 : c = 120
 ·subst c6;rw [if_pos rfl] at hR
  by_cases h4 : i + 4 ≤ t.length
  ·have hd4 : decide ((i:Int) + 4 ≤ (t.length:Int)) = true:=decide_eq_true (by omega);rw [if_pos h4] at hR;have HX:=hid (hexes_any t (i + 2) (i + 4) w (by omega) h4 (by omega) he);have hpw:=fun m (hm : hexS (cutL t (i + 2) (i + 4)) = some m) => hexS_pow hm;rw [cutL_len h4,show i + 4 - (i + 2) = 2 by omega] at hpw;obtain ⟨X,hX⟩ : ∃ X,hexS (cutL t (i + 2) (i + 4)) = X:=⟨_,rfl⟩;rw [hX] at HX hR hpw;rw [show ((i + 2:Nat):Int) = (i:Int) + 2 by omega,show ((i + 4:Nat):Int) = (i:Int) + 4 by omega] at HX;clear hX hc;rcases X with _ | n
   ·have HRR : Hid (R = (0,(i:Int) + 4,false)):=hid hR.symm;clear hR hpw;go_enter Tryz.func93,Tryz.ntmps93;go_wp2_with fail;refine (HIX.out w).mono ?_;rintro e w1 ⟨rfl,rfl⟩;go_wp2_with fail;refine HX.out.mono ?_;rintro e w2 ⟨rfl,hb2⟩;clear HX HIX;go_wp2_with fail
    go_ret3
    rw [HRR.out];exact ⟨rfl,hb2⟩
   ·have HRR : Hid (R = ((n:Int),(i:Int) + 4,true)):=hid hR.symm;have hn:=hpw n rfl;rw [show (Option.some n).getD 0 = n from rfl,show (Option.some n).isSome = true from rfl] at HX;clear hR hpw;go_enter Tryz.func93,Tryz.ntmps93;go_wp2_with fail;refine (HIX.out w).mono ?_;rintro e w1 ⟨rfl,rfl⟩;go_wp2_with fail;refine HX.out.mono ?_;rintro e w2 ⟨rfl,hb2⟩;clear HX HIX;go_wp2_with fail
    go_ret3
    rw [HRR.out];exact ⟨rfl,hb2⟩
  ·have hd4 : decide ((i:Int) + 4 ≤ (t.length:Int)) = false:=decide_eq_false (by omega);rw [if_neg h4] at hR;have HRR : Hid (R = (0,0,false)):=hid hR.symm;clear hR hc;go_enter Tryz.func93,Tryz.ntmps93;go_wp2_with fail;refine (HIX.out w).mono ?_;rintro e w1 ⟨rfl,rfl⟩;go_wp2_with fail
   go_ret3
   rw [HRR.out];exact ⟨rfl,Below.refl _ _⟩
 rw [if_neg c6] at hR;have f6 : ((c.toNat:Int) == 120) = false:=by
  rw [beq_eq_false_iff_ne];intro h;exact c6 (UInt8.toNat_inj.1 (by simpa using (show c.toNat = 120 by omega)))
 clear c6 hc
 by_cases c7 : c = 117
 rotate_left
 ·have f7 : ((c.toNat:Int) == 117) = false:=by
   rw [beq_eq_false_iff_ne];intro h;exact c7 (UInt8.toNat_inj.1 (by simpa using (show c.toNat = 117 by omega)))
  rw [if_neg (fun h => c7 h.1)] at hR;have HRR : Hid (R = (0,0,false)):=hid hR.symm;clear hR c7;go_enter Tryz.func93,Tryz.ntmps93;go_wp2_with fail;refine (HIX.out w).mono ?_;rintro e w1 ⟨rfl,rfl⟩;go_wp2_with fail
  go_ret3
  rw [HRR.out];exact ⟨rfl,Below.refl _ _⟩
 subst c7;clear f6;rcases b with _ | _
 rotate_left
 ·rw [if_neg (fun h => absurd h.2.1 (by decide))] at hR;have HRR : Hid (R = (0,0,false)):=hid hR.symm;clear hR;go_enter Tryz.func93,Tryz.ntmps93;go_wp2_with fail;refine (HIX.out w).mono ?_;rintro e w1 ⟨rfl,rfl⟩;go_wp2_with fail
  go_ret3
  rw [HRR.out];exact ⟨rfl,Below.refl _ _⟩
 have htl:=run_tail t (i + 2) (by omega) ((i:Int) + 2) (by go_num);have HPF:=hid (hasp_one t (i + 2) 123 (by decide))
 by_cases c8 : at0 t (i + 2) = 123
 rotate_left
 ·rw [if_neg (fun h => c8 h.2.2)] at hR;have HRR : Hid (R = (0,0,false)):=hid hR.symm;rw [show (at0 t (i + 2) == 123) = false by simpa using c8] at HPF;clear hR c8;go_enter Tryz.func93,Tryz.ntmps93;go_wp2_with fail;refine (HIX.out w).mono ?_;rintro e w1 ⟨rfl,rfl⟩;go_wp2_with fail;refine (HPF.out w).mono ?_;rintro e w1 ⟨rfl,rfl⟩;go_wp2_with fail
  go_ret3
  rw [HRR.out];exact ⟨rfl,Below.refl _ _⟩
 rw [if_pos ⟨rfl,rfl,c8⟩] at hR;rw [show (at0 t (i + 2) == 123) = true by simpa using c8] at HPF;have hi2 : i + 2 < t.length:=by
  rcases Nat.lt_or_ge (i + 2) t.length with h | h
  ·exact h
  ·unfold at0 at c8;rw [List.getD_eq_getElem?_getD,List.getElem?_eq_none h] at c8;exact absurd c8 (by decide)
 have htl3:=run_tail t (i + 3) (by omega) ((i:Int) + 3) (by go_num);have HIB:=hid (index_at (t.drop (i + 3)) 125 _ rfl);have hge:=indexByte_ge (t.drop (i + 3)) 125;have hso:=@indexByte_some (t.drop (i + 3)) 125;obtain ⟨k,hk⟩ : ∃ k,Lib.indexByte (t.drop (i + 3)) 125 = k:=⟨_,rfl⟩;rw [hk] at hR HIB hge hso;clear c8 hk
 by_cases k1 : k < 1
 ·have f1 : decide (k < 1) = true:=decide_eq_true k1;rw [if_pos (.inl k1)] at hR;have HRR : Hid (R = (0,0,false)):=hid hR.symm;clear hR hso;go_enter Tryz.func93,Tryz.ntmps93;go_wp2_with fail;refine (HIX.out w).mono ?_;rintro e w1 ⟨rfl,rfl⟩;go_wp2_with fail;refine (HPF.out w).mono ?_;rintro e w1 ⟨rfl,rfl⟩;go_wp2_with fail;refine (HIB.out w).mono ?_;rintro e w1 ⟨rfl,rfl⟩;go_wp2_with fail
  go_ret3
  rw [HRR.out];exact ⟨rfl,Below.refl _ _⟩
 have f1 : decide (k < 1) = false:=decide_eq_false k1
 by_cases k6 : 6 < k
 ·have f2 : decide (6 < k) = true:=decide_eq_true k6;rw [if_pos (.inr k6)] at hR;have HRR : Hid (R = (0,0,false)):=hid hR.symm;clear hR hso;go_enter Tryz.func93,Tryz.ntmps93;go_wp2_with fail;refine (HIX.out w).mono ?_;rintro e w1 ⟨rfl,rfl⟩;go_wp2_with fail;refine (HPF.out w).mono ?_;rintro e w1 ⟨rfl,rfl⟩;go_wp2_with fail;refine (HIB.out w).mono ?_;rintro e w1 ⟨rfl,rfl⟩;go_wp2_with fail
  go_ret3
  rw [HRR.out];exact ⟨rfl,Below.refl _ _⟩
 have f2 : decide (6 < k) = false:=decide_eq_false k6;rw [if_neg (fun h => h.elim k1 k6)] at hR;obtain ⟨m,rfl⟩:=Int.eq_ofNat_of_zero_le (show 0 ≤ k by omega);have hm:=(hso rfl).1;rw [List.getElem?_drop] at hm;obtain ⟨hml,_⟩:=List.getElem?_eq_some_iff.1 hm;rw [Int.toNat_natCast] at hR;have HX:=hid (hexes_any t (i + 3) (i + 3 + m) w (by omega) (by omega) (by omega) he);have hpw:=fun n (hm : hexS (cutL t (i + 3) (i + 3 + m)) = some n) => Nat.lt_of_lt_of_le (hexS_pow hm) (Nat.pow_le_pow_right (by decide) (show (cutL t (i + 3) (i + 3 + m)).length ≤ 6 by rw [cutL_len (by omega)]; omega));obtain ⟨X,hX⟩ : ∃ X,hexS (cutL t (i + 3) (i + 3 + m)) = X:=⟨_,rfl⟩;rw [hX] at HX hR hpw;rw [show ((i + 3:Nat):Int) = (i:Int) + 3 by omega,show ((i + 3 + m:Nat):Int) = (i:Int) + 3 + (m:Int) by omega] at HX;have hm6 : (m:Int) ≤ 6:=by omega
 clear hX hm hso hge k1 k6;rcases X with _ | n
 ·have HRR : Hid (R = (0,(i:Int) + 4 + (m:Int),false)):=hid hR.symm;clear hR hpw;go_enter Tryz.func93,Tryz.ntmps93;go_wp2_with fail;refine (HIX.out w).mono ?_;rintro e w1 ⟨rfl,rfl⟩;go_wp2_with fail;refine (HPF.out w).mono ?_;rintro e w1 ⟨rfl,rfl⟩;go_wp2_with fail;refine (HIB.out w).mono ?_;rintro e w1 ⟨rfl,rfl⟩;go_wp2_with fail;refine HX.out.mono ?_;rintro e w2 ⟨rfl,hb2⟩;clear HX HIX HIB HPF;go_wp2_with fail
  go_ret3
  rw [HRR.out];exact ⟨rfl,hb2⟩
 ·have hn:=hpw n rfl;have HN2:=hid (show (n:Int) ≤ 16777216 from by omega);simp only [Option.getD_some,Option.isSome_some,Bool.true_and] at hR;rw [show (Option.some n).getD 0 = n from rfl,show (Option.some n).isSome = true from rfl] at HX;clear hpw hn
  by_cases v1 : n < 1114112
  ·have G1:=hid (show (n:Int) ≤ 1114111 from by omega)
   by_cases v2 : n < 55296
   ·have G2:=hid (show (n:Int) ≤ 55295 from by omega);rw [show validR n = true from by unfold validR; simp; omega] at hR;have HRR : Hid (R = ((n:Int),(i:Int) + 4 + (m:Int),true)):=hid hR.symm;clear hR v1 v2;go_enter Tryz.func93,Tryz.ntmps93;go_wp2_with fail;refine (HIX.out w).mono ?_;rintro e w1 ⟨rfl,rfl⟩;go_wp2_with fail;refine (HPF.out w).mono ?_;rintro e w1 ⟨rfl,rfl⟩;go_wp2_with fail;refine (HIB.out w).mono ?_;rintro e w1 ⟨rfl,rfl⟩;go_wp2_with fail;refine HX.out.mono ?_;rintro e w2 ⟨rfl,hb2⟩;clear HX HIX HIB HPF
    go_upto_region 14 with fail
    have hw : wrap32 (n:Int) = (n:Int):=IntWalk.wrap32_in _ (by have:=HN2.out; omega);generalize hM : (1114112:Int) = M;generalize hM2 : (55296:Int) = M2;generalize hM3 : (57343:Int) = M3;have g1 : decide ((n:Int) < M) = true:=decide_eq_true (by have:=G1.out; omega);have g2 : decide ((n:Int) < M2) = true:=decide_eq_true (by have:=G2.out; omega);clear hM hM2 hM3;go_wp2_with fail
    go_ret3
    rw [HRR.out];exact ⟨by show Ending.returned (.tuple #[.int .i32 (wrap32 (n:Int)),_,_]) = _; rw [hw]; rfl,hb2⟩
   ·have G2:=hid (show 55296 ≤ (n:Int) from by omega)
    by_cases v3 : 57343 < n
    ·have G3:=hid (show (57344:Int) ≤ (n:Int) from by omega);rw [show validR n = true from by unfold validR; simp; omega] at hR;have HRR : Hid (R = ((n:Int),(i:Int) + 4 + (m:Int),true)):=hid hR.symm;clear hR v1 v2 v3;go_enter Tryz.func93,Tryz.ntmps93;go_wp2_with fail;refine (HIX.out w).mono ?_;rintro e w1 ⟨rfl,rfl⟩;go_wp2_with fail;refine (HPF.out w).mono ?_;rintro e w1 ⟨rfl,rfl⟩;go_wp2_with fail;refine (HIB.out w).mono ?_;rintro e w1 ⟨rfl,rfl⟩;go_wp2_with fail;refine HX.out.mono ?_;rintro e w2 ⟨rfl,hb2⟩;clear HX HIX HIB HPF
     go_upto_region 14 with fail
     have hw : wrap32 (n:Int) = (n:Int):=IntWalk.wrap32_in _ (by have:=HN2.out; omega);generalize hM : (1114112:Int) = M;generalize hM2 : (55296:Int) = M2;generalize hM3 : (57343:Int) = M3;have g1 : decide ((n:Int) < M) = true:=decide_eq_true (by have:=G1.out; omega);have g2 : decide ((n:Int) < M2) = false:=decide_eq_false (by have:=G2.out; omega);have g3 : decide (M3 < (n:Int)) = true:=decide_eq_true (by have:=G3.out; omega);clear hM hM2 hM3;go_wp2_with fail
     go_ret3
     rw [HRR.out];exact ⟨by show Ending.returned (.tuple #[.int .i32 (wrap32 (n:Int)),_,_]) = _; rw [hw]; rfl,hb2⟩
    ·have G3:=hid (show (n:Int) ≤ 57343 from by omega);rw [show validR n = false from by unfold validR; simp; omega] at hR;have HRR : Hid (R = ((n:Int),(i:Int) + 4 + (m:Int),false)):=hid hR.symm;clear hR v1 v2 v3;go_enter Tryz.func93,Tryz.ntmps93;go_wp2_with fail;refine (HIX.out w).mono ?_;rintro e w1 ⟨rfl,rfl⟩;go_wp2_with fail;refine (HPF.out w).mono ?_;rintro e w1 ⟨rfl,rfl⟩;go_wp2_with fail;refine (HIB.out w).mono ?_;rintro e w1 ⟨rfl,rfl⟩;go_wp2_with fail;refine HX.out.mono ?_;rintro e w2 ⟨rfl,hb2⟩;clear HX HIX HIB HPF
     go_upto_region 14 with fail
     have hw : wrap32 (n:Int) = (n:Int):=IntWalk.wrap32_in _ (by have:=HN2.out; omega);generalize hM : (1114112:Int) = M;generalize hM2 : (55296:Int) = M2;generalize hM3 : (57343:Int) = M3;have g1 : decide ((n:Int) < M) = true:=decide_eq_true (by have:=G1.out; omega);have g2 : decide ((n:Int) < M2) = false:=decide_eq_false (by have:=G2.out; omega);have g3 : decide (M3 < (n:Int)) = false:=decide_eq_false (by have:=G3.out; omega);clear hM hM2 hM3;go_wp2_with fail
     go_ret3
     rw [HRR.out];exact ⟨by show Ending.returned (.tuple #[.int .i32 (wrap32 (n:Int)),_,_]) = _; rw [hw]; rfl,hb2⟩
  ·have G1:=hid (show 1114112 ≤ (n:Int) from by omega);rw [show validR n = false from by unfold validR; simp; omega] at hR;have HRR : Hid (R = ((n:Int),(i:Int) + 4 + (m:Int),false)):=hid hR.symm;clear hR v1;go_enter Tryz.func93,Tryz.ntmps93;go_wp2_with fail;refine (HIX.out w).mono ?_;rintro e w1 ⟨rfl,rfl⟩;go_wp2_with fail;refine (HPF.out w).mono ?_;rintro e w1 ⟨rfl,rfl⟩;go_wp2_with fail;refine (HIB.out w).mono ?_;rintro e w1 ⟨rfl,rfl⟩;go_wp2_with fail;refine HX.out.mono ?_;rintro e w2 ⟨rfl,hb2⟩;clear HX HIX HIB HPF
   go_upto_region 14 with fail
   have hw : wrap32 (n:Int) = (n:Int):=IntWalk.wrap32_in _ (by have:=HN2.out; omega);generalize hM : (1114112:Int) = M;generalize hM2 : (55296:Int) = M2;generalize hM3 : (57343:Int) = M3;have g1 : decide ((n:Int) < M) = false:=decide_eq_false (by have:=G1.out; omega);clear hM hM2 hM3;go_wp2_with fail
   go_ret3
   rw [HRR.out];exact ⟨by show Ending.returned (.tuple #[.int .i32 (wrap32 (n:Int)),_,_]) = _; rw [hw]; rfl,hb2⟩
end
end Go.Proofs.YtonehlkiackhcaaGreatDoor