/- The scanner's functions add and next: what they do. Nothing is claimed here. -/
import Derived.Test.YtonehlkiackhcaaGreatDoorLitE
import Derived.Shelf.Strconv.Itoa3
import Derived.Shelf.Strings.BuilderRune
import Derived.Deep.DeepMust
set_option linter.unusedVariables false
set_option linter.unusedSimpArgs false
set_option maxRecDepth 100000
set_option maxHeartbeats 16000000
namespace Go.Proofs.YtonehlkiackhcaaGreatDoor
open Go.RowKit Go.Lib
def lg (n:Nat) : List Nat:=dig 4294967296 n
theorem lg_lt (n:Nat) : ∀ x ∈ lg n,x < 4294967296:=dig_lt (by decide) n
theorem lg_nil {n : Nat} : lg n = [] ↔ n = 0:=dig_nil (by decide)
theorem lg_len0 {n : Nat} : (lg n).length = 0 ↔ n = 0:=by rw [List.length_eq_zero_iff,lg_nil]
theorem quo_any {w : World} (n d:Nat) (A : Option Addr) (c:Nat) (hlen : (lg n).length ≤ 10000) (hd0 : 0 < d) (hd : d < 4294967296) (hr : Row w A (u32s (lg n))) :
  Calls Tryz.prog 71 #[.slice A (lg n).length c,.int .u32 (d:Int)] w fun e w' => (∃ A' c',e = .returned (.tuple #[.slice A' (lg (n / d)).length c',.int .u32 ((n % d:Nat):Int)])∧Row w' A' (u32s (lg (n / d))))∧Below w.heap.size w w':=by
 have h:=divide_any (lg n) A c d (lg_lt n) hlen hd0 hd hr;obtain ⟨h1,h2⟩:=divGo_dig (B:=4294967296) (by decide) hd0 n;unfold lg at h ⊢;rw [h1,h2] at h;exact h
theorem prod_any {w : World} (n m x:Nat) (A : Option Addr) (c:Nat) (hlen : (lg n).length ≤ 10000) (hm0 : 0 < m) (hm : m < 4294967296) (hx : x < 4294967296) (hr : Row w A (u32s (lg n))) :
  Calls Tryz.prog 76 #[.slice A (lg n).length c,.int .u32 (m:Int),.int .u32 (x:Int)] w fun e w' => (∃ A' c',e = .returned (.slice A' (lg (n * m + x)).length c')∧Row w' A' (u32s (lg (n * m + x))))∧Below w.heap.size w w':=by
 have h:=times_any (lg n) A c m x (lg_lt n) hlen hm hx hr;have h1:=mulGo_dig (B:=4294967296) (by decide) hm hm0 n x hx;unfold lg at h ⊢;rw [h1] at h;exact h
theorem lg_mono {a b : Nat} (h : a ≤ b) : (lg a).length ≤ (lg b).length:=by
 refine dig_len (by decide) _ _ ?_;have h1:=V_lt (B:=4294967296) (by decide) (lg b) (lg_lt b);have h2 : V 4294967296 (lg b) = b:=V_dig (by decide) b;omega
def wellV (l : List Nat) : Bool:=decide (l.length ≤ 128) && (decide (l = []) || decide (l.getLast? ≠ some 0))
theorem well_any {w : World} (l : List Nat) (A : Option Addr) (c:Nat) (hl : l.length ≤ 9223372036854775807) (hr : Row w A (u32s l)) :
  Calls Tryz.prog 68 #[.slice A l.length c] w fun e w' => e = .returned (.bool (wellV l))∧Below w.heap.size w w':=by
 rcases List.eq_nil_or_concat l with rfl | ⟨a,x,hax⟩
 ·go_enter Tryz.func68,Tryz.ntmps68;go_wp2_with fail;go_ret;exact ⟨rfl,Below.refl _ _⟩
 ·rw [List.concat_eq_append] at hax;subst hax;obtain ⟨b,off,rfl,hc⟩:=row_u32 hr (j:=a.length) (by simp);have hx : (a ++ [x])[a.length]'(by simp) = x:=(by simp);rw [hx] at hc;have HW:=hid (show wellV (a ++ [x]) = (decide (a.length + 1 ≤ 128) && decide (x ≠ 0)) from by unfold wellV; simp);have hlen : (a ++ [x]).length = a.length + 1:=(by simp);rw [hlen] at hl ⊢;have hz : ((a.length:Int) + 1 == 0) = false:=(by rw [beq_eq_false_iff_ne]; omega);clear hr hx hlen
  by_cases h1 : a.length + 1 ≤ 128
  ·by_cases h2 : x = 0
   ·subst h2;go_enter Tryz.func68,Tryz.ntmps68;go_wp2_with fail;go_ret;exact ⟨ret_bool (by rw [HW.out]; simp),Below.refl _ _⟩
   ·have h2b : ((x:Int) == 0) = false:=(by rw [beq_eq_false_iff_ne]; omega);have h2c : ((x:Int) != 0) = true:=(by rw [bne,h2b]; rfl);have H2:=hid h2;clear h2;go_enter Tryz.func68,Tryz.ntmps68;go_wp2_with fail;go_ret;exact ⟨ret_bool (by rw [HW.out,decide_eq_true h1,decide_eq_true H2.out]; rfl),Below.refl _ _⟩
  ·go_enter Tryz.func68,Tryz.ntmps68;go_wp2_with fail;go_ret;exact ⟨ret_bool (by rw [HW.out]; simp; omega),Below.refl _ _⟩
theorem factor_any {w : World} (n p:Nat) (A : Option Addr) (c:Nat) (hlen : (lg n).length ≤ 10000) (K:Nat) (hn : n < 2 ^ K) (hK : K ≤ 1000000) (hp : 2 ≤ p) (hp2 : p < 4294967296) (hr : Row w A (u32s (lg n))) :
  Calls Tryz.prog 75 #[.slice A (lg n).length c,.int .u32 (p:Int)] w fun e w' => (∃ (k m:Nat) (A' : Option Addr) (c':Nat),n = m * p ^ k∧(m % p ≠ 0∨m = 0)∧(n = 0 → k = 0)∧k ≤ K∧e = .returned (.tuple #[.int .i64 (k:Int),.slice A' (lg m).length c'])∧Row w' A' (u32s (lg m)))∧Below w.heap.size w w':=by
 have hkb : ∀ k m : Nat,n = m * p ^ k → m ≠ 0 → k < K:=by
  intro k m h1 h2;have h3 : 2 ^ k ≤ p ^ k:=Nat.pow_le_pow_left hp k;have h4 : p ^ k ≤ m * p ^ k:=Nat.le_mul_of_pos_left _ (by omega);have h5 : 2 ^ k < 2 ^ K:=(by omega);exact (Nat.pow_lt_pow_iff_right (by decide)).1 h5
 have HKB:=hid hkb;clear hkb hn;go_enter Tryz.func75,Tryz.ntmps75;go_wp2_with fail
 go_loopw [0,6,7,8] (fun d i _ _ wr => ∃ (k m:Nat) (A' : Option Addr) (c':Nat),d = .slice A' (lg m).length c'∧i = .int .i64 (k:Int)∧n = m * p ^ k∧(n = 0 → k = 0)∧k ≤ K∧Row wr A' (u32s (lg m))∧Below w.heap.size w wr) (fun _ i _ _ _ => K - (RowKit.intOf i).toNat)
 case atStart => exact ⟨0,n,A,c,rfl,rfl,by simp,fun _ => rfl,Nat.zero_le _,hr,Below.refl _ _⟩
 case round =>
  obtain ⟨k,m,A',c',rfl,rfl,hnm,hn0,hkK,hrm,hbr⟩:=hrel;have HNM:=hid hnm;have HN0:=hid hn0;have hml : (lg m).length ≤ 10000:=by
   refine Nat.le_trans (lg_mono ?_) hlen;rw [hnm];exact Nat.le_mul_of_pos_right _ (Nat.pos_of_ne_zero (by intro h; rw [Nat.pow_eq_zero] at h; omega))
  clear hnm hn0 hr;go_wp2_with fail;refine (quo_any m p A' c' hml (by omega) hp2 hrm).mono ?_;rintro e w2 ⟨⟨A2,c2,rfl,hr2⟩,hbb⟩;have hrm2:=hrm.keepB hbb;have hb2:=below_then hbr hbb hbr.size;clear hrm hbb hbr
  by_cases hr0 : m % p = 0
  ·rw [hr0]
   by_cases hm0 : m = 0
   ·have hl0 : (lg m).length = 0:=lg_len0.2 hm0;have hc0 : ((lg m).length:Int) = 0:=(by omega);have HM:=hid hm0;clear hm0 hl0;go_wp2_with fail;go_ret2;exact ⟨⟨k,m,A',c',HNM.out,.inr HM.out,HN0.out,hkK,rfl,hrm2⟩,hb2⟩
   ·have hl0 : ((lg m).length:Int) ≠ 0:=by
     have : (lg m).length ≠ 0:=fun h => hm0 (lg_len0.1 h);omega
    have HM:=hid hm0;have hkl : k < K:=HKB.out k m HNM.out hm0;have HR:=hid hr0;clear hm0 hr0;go_wp2_with fail;go_roundw
    case rel =>
     refine ⟨k + 1,m / p,A2,c2,rfl,by go_num,?_,fun h => ?_,hkl,hr2,hb2⟩
     ·rw [HNM.out,Nat.pow_succ];have h1 : m / p * p = m:=Nat.div_mul_cancel (Nat.dvd_of_mod_eq_zero HR.out);rw [← Nat.mul_assoc,Nat.mul_right_comm,h1]
     ·have h1:=HNM.out;rw [h] at h1;have h2 : p ^ k ≠ 0:=(by intro h3; rw [Nat.pow_eq_zero] at h3; omega);rcases Nat.mul_eq_zero.1 h1.symm with h3 | h3
      ·exact absurd h3 HM.out
      ·exact absurd h3 h2
    case measure => simp [RowKit.intOf]; omega
  ·have hrb : (((m % p:Nat):Int) == 0) = false:=(by rw [beq_eq_false_iff_ne]; omega);have HR:=hid hr0;obtain ⟨q,hq⟩ : ∃ q,m % p = q:=⟨_,rfl⟩;rw [hq] at hrb ⊢;clear hr0 hq;go_wp2_with fail;go_ret2;exact ⟨⟨k,m,A',c',HNM.out,.inl HR.out,HN0.out,hkK,rfl,hrm2⟩,hb2⟩
end Go.Proofs.YtonehlkiackhcaaGreatDoor

namespace Go.Proofs
open Go.Shelf
def Tryz.laysI_ren : Go.Shelf.Ren:=⟨fun | 129 => 210 | 171 => 72 | 243 => 103 | 246 => 137 | 283 => 175 | 284 => 176 | 285 => 177 | 286 => 178 | 317 => 209 | 318 => 211 | 319 => 212 | 320 => 213 | 337 => 232 | 338 => 233 | n => n,fun | 0 => 0 | 2 => 2 | 3 => 3 | 4 => 4 | 5 => 5 | 9 => 9 | 20 => 20 | 37 => 71 | 46 => 121 | 51 => 63 | 53 => 164 | 171 => 226 | 173 => 229 | 212 => 261 | 213 => 262 | 232 => 308 | 233 => 309 | n => n,fun | 17 => 4 | 18 => 9 | 19 => 10 | n => n⟩
theorem Tryz.laysI171 : Go.Proofs.Lays.n171 Tryz.prog Tryz.laysI_ren:={
 mixed:=by kernel_rfl
 f129:=Tryz.func210.trans (congrArg some (by kernel_rfl))
 f171:=Tryz.func72.trans (congrArg some (by kernel_rfl))
 f243:=Tryz.func103.trans (congrArg some (by kernel_rfl))
 f246:=Tryz.func137.trans (congrArg some (by kernel_rfl))
 f283:=Tryz.func175.trans (congrArg some (by kernel_rfl))
 f284:=Tryz.func176.trans (congrArg some (by kernel_rfl))
 f285:=Tryz.func177.trans (congrArg some (by kernel_rfl))
 f286:=Tryz.func178.trans (congrArg some (by kernel_rfl))
 f317:=Tryz.func209.trans (congrArg some (by kernel_rfl))
 f318:=Tryz.func211.trans (congrArg some (by kernel_rfl))
 f319:=Tryz.func212.trans (congrArg some (by kernel_rfl))
 f320:=Tryz.func213.trans (congrArg some (by kernel_rfl))
 f337:=Tryz.func232.trans (congrArg some (by kernel_rfl))
 f338:=Tryz.func233.trans (congrArg some (by kernel_rfl))
 t0:=Tryz.underlying0
 a0:=Tryz.isAgg0
 z0:=Tryz.sizeOf0
 v0:=Tryz.zeroValue0
 t2:=Tryz.underlying2
 a2:=Tryz.isAgg2
 z2:=Tryz.sizeOf2
 v2:=Tryz.zeroValue2
 t3:=Tryz.underlying3
 a3:=Tryz.isAgg3
 z3:=Tryz.sizeOf3
 v3:=Tryz.zeroValue3
 t4:=Tryz.underlying4
 a4:=Tryz.isAgg4
 z4:=Tryz.sizeOf4
 v4:=Tryz.zeroValue4
 t5:=Tryz.underlying5
 a5:=Tryz.isAgg5
 z5:=Tryz.sizeOf5
 v5:=Tryz.zeroValue5
 t9:=Tryz.underlying9
 a9:=Tryz.isAgg9
 z9:=Tryz.sizeOf9
 v9:=Tryz.zeroValue9
 t20:=Tryz.underlying20
 a20:=Tryz.isAgg20
 z20:=Tryz.sizeOf20
 v20:=Tryz.zeroValue20
 t37:=Tryz.underlying71
 a37:=Tryz.isAgg71
 z37:=Tryz.sizeOf71
 v37:=Tryz.zeroValue71
 t46:=Tryz.underlying121
 a46:=Tryz.isAgg121
 z46:=Tryz.sizeOf121
 v46:=Tryz.zeroValue121
 t51:=Tryz.underlying63
 a51:=Tryz.isAgg63
 z51:=Tryz.sizeOf63
 v51:=Tryz.zeroValue63
 t53:=Tryz.underlying164
 a53:=Tryz.isAgg164
 z53:=Tryz.sizeOf164
 v53:=Tryz.zeroValue164
 t171:=Tryz.underlying226
 a171:=Tryz.isAgg226
 z171:=Tryz.sizeOf226
 v171:=Tryz.zeroValue226
 t173:=Tryz.underlying229
 a173:=Tryz.isAgg229
 z173:=Tryz.sizeOf229
 v173:=Tryz.zeroValue229
 t212:=Tryz.underlying261
 a212:=Tryz.isAgg261
 z212:=Tryz.sizeOf261
 v212:=Tryz.zeroValue261
 t213:=Tryz.underlying262
 a213:=Tryz.isAgg262
 z213:=Tryz.sizeOf262
 t232:=Tryz.underlying308
 a232:=Tryz.isAgg308
 z232:=Tryz.sizeOf308
 v232:=Tryz.zeroValue308
 t233:=Tryz.underlying309
 a233:=Tryz.isAgg309
 z233:=Tryz.sizeOf309
 v233:=Tryz.zeroValue309
 g17:=by kernel_rfl
 g18:=by kernel_rfl
 g19:=by kernel_rfl
}
theorem Tryz.laysMI171 : Go.Proofs.LaysM.n171 Tryz.prog Tryz.laysI_ren:={ Tryz.laysI171 with
 i0:=by kernel_rfl
 i2:=by kernel_rfl
 i3:=by kernel_rfl
 i4:=by kernel_rfl
 i5:=by kernel_rfl
 i9:=by kernel_rfl
 i20:=by kernel_rfl
 i37:=by kernel_rfl
 i46:=by kernel_rfl
 i51:=by kernel_rfl
 i53:=by kernel_rfl
 i171:=by kernel_rfl
 i173:=by kernel_rfl
 i212:=by kernel_rfl
 i232:=by kernel_rfl
 i233:=by kernel_rfl
 m17:=by kernel_rfl
 m18:=by kernel_rfl
 m19:=by kernel_rfl }
open Go.RowKit Go.Lib Go.Sort in
theorem Tryz.strconv_Itoa (n:Int) (h0 : -9223372036854775808 ≤ n) (h1 : n ≤ 9223372036854775807) (w : World) (htab : Lib.TabIs Tryz.prog w "internal/strconv.uint64pow10" .u64 Lib.pow10Tab) :
  Calls Tryz.prog 72 #[.int .i64 n] w fun e w' => e = .returned (.string ⟨(Lib.itoa n).toArray⟩)∧∃ k os,w' = grow (w.drewN k) os:=Any.strconv_Itoa Tryz.laysMI171 n h0 h1 w htab
end Go.Proofs

namespace Go.Proofs
open Go.Shelf
def Tryz.lays138_ren : Go.Shelf.Ren:=⟨fun | 138 => 237 | 195 => 186 | 218 => 246 | 143 => 131 | 219 => 108 | 217 => 124 | 225 => 107 | 224 => 106 | 267 => 141 | 266 => 160 | 314 => 180 | n => n,fun | 9 => 9 | 3 => 3 | 4 => 4 | 5 => 5 | 0 => 0 | 46 => 121 | 146 => 198 | 51 => 63 | n => n,fun | 1 => 2 | n => n⟩
theorem Tryz.lays138 : Go.Proofs.Lays.n138 Tryz.prog Tryz.lays138_ren:={
 mixed:=by kernel_rfl
 f138:=Tryz.func237.trans (congrArg some (by kernel_rfl))
 f143:=Tryz.func131.trans (congrArg some (by kernel_rfl))
 f195:=Tryz.func186.trans (congrArg some (by kernel_rfl))
 f217:=Tryz.func124.trans (congrArg some (by kernel_rfl))
 f218:=Tryz.func246.trans (congrArg some (by kernel_rfl))
 f219:=Tryz.func108.trans (congrArg some (by kernel_rfl))
 f224:=Tryz.func106.trans (congrArg some (by kernel_rfl))
 f225:=Tryz.func107.trans (congrArg some (by kernel_rfl))
 f266:=Tryz.func160.trans (congrArg some (by kernel_rfl))
 f267:=Tryz.func141.trans (congrArg some (by kernel_rfl))
 f314:=Tryz.func180.trans (congrArg some (by kernel_rfl))
 t0:=Tryz.underlying0
 a0:=Tryz.isAgg0
 z0:=Tryz.sizeOf0
 v0:=Tryz.zeroValue0
 t3:=Tryz.underlying3
 a3:=Tryz.isAgg3
 z3:=Tryz.sizeOf3
 v3:=Tryz.zeroValue3
 t4:=Tryz.underlying4
 a4:=Tryz.isAgg4
 z4:=Tryz.sizeOf4
 v4:=Tryz.zeroValue4
 t5:=Tryz.underlying5
 a5:=Tryz.isAgg5
 z5:=Tryz.sizeOf5
 v5:=Tryz.zeroValue5
 t9:=Tryz.underlying9
 a9:=Tryz.isAgg9
 z9:=Tryz.sizeOf9
 v9:=Tryz.zeroValue9
 t46:=Tryz.underlying121
 a46:=Tryz.isAgg121
 z46:=Tryz.sizeOf121
 v46:=Tryz.zeroValue121
 t51:=Tryz.underlying63
 a51:=Tryz.isAgg63
 z51:=Tryz.sizeOf63
 v51:=Tryz.zeroValue63
 t146:=Tryz.underlying198
 a146:=Tryz.isAgg198
 z146:=Tryz.sizeOf198
 v146:=Tryz.zeroValue198
 g1:=by kernel_rfl }
open Go.RowKit Go.Lib in
theorem Tryz.strings_Count_one (s : ByteArray) (c : UInt8) (w : World) :
  Calls Tryz.prog 237 #[.string s,.string ⟨#[c]⟩] w fun e w' => e = .returned (.int .i64 (Lib.countByte s.data.toList c))∧w' = w:=Any.strings_Count_one Tryz.lays138 s c w
end Go.Proofs

namespace Go.Proofs
open Go.Shelf
def Tryz.laysB_ren : Go.Shelf.Ren:=⟨fun | 166 => 62 | 167 => 77 | 168 => 79 | 169 => 66 | 170 => 65 | 240 => 99 | 242 => 46 | 276 => 133 | 278 => 89 | n => n,fun | 0 => 0 | 3 => 3 | 4 => 4 | 5 => 5 | 9 => 9 | 20 => 20 | 21 => 21 | 37 => 71 | 46 => 121 | 51 => 63 | 70 => 97 | 72 => 99 | 75 => 101 | 80 => 54 | 127 => 158 | 164 => 193 | n => n,fun | n => n⟩
theorem Tryz.laysB166 : Go.Proofs.Lays.n166 Tryz.prog Tryz.laysB_ren:={
 mixed:=by kernel_rfl
 f166:=Tryz.func62.trans (congrArg some (by kernel_rfl))
 f240:=Tryz.func99.trans (congrArg some (by kernel_rfl))
 f276:=Tryz.func133.trans (congrArg some (by kernel_rfl))
 t0:=Tryz.underlying0
 a0:=Tryz.isAgg0
 z0:=Tryz.sizeOf0
 v0:=Tryz.zeroValue0
 t3:=Tryz.underlying3
 a3:=Tryz.isAgg3
 z3:=Tryz.sizeOf3
 v3:=Tryz.zeroValue3
 t4:=Tryz.underlying4
 a4:=Tryz.isAgg4
 z4:=Tryz.sizeOf4
 v4:=Tryz.zeroValue4
 t9:=Tryz.underlying9
 a9:=Tryz.isAgg9
 z9:=Tryz.sizeOf9
 v9:=Tryz.zeroValue9
 t20:=Tryz.underlying20
 a20:=Tryz.isAgg20
 z20:=Tryz.sizeOf20
 v20:=Tryz.zeroValue20
 t37:=Tryz.underlying71
 a37:=Tryz.isAgg71
 z37:=Tryz.sizeOf71
 v37:=Tryz.zeroValue71
 t70:=Tryz.underlying97
 a70:=Tryz.isAgg97
 z70:=Tryz.sizeOf97
 v70:=Tryz.zeroValue97
 t72:=Tryz.underlying99
 a72:=Tryz.isAgg99
 z72:=Tryz.sizeOf99
 v72:=Tryz.zeroValue99
 t75:=Tryz.underlying101
 a75:=Tryz.isAgg101
 z75:=Tryz.sizeOf101
 v75:=Tryz.zeroValue101
 t164:=Tryz.underlying193
 a164:=Tryz.isAgg193
 z164:=Tryz.sizeOf193
 v164:=Tryz.zeroValue193
}
theorem Tryz.laysB167 : Go.Proofs.Lays.n167 Tryz.prog Tryz.laysB_ren:={
 mixed:=by kernel_rfl
 f167:=Tryz.func77.trans (congrArg some (by kernel_rfl))
 f240:=Tryz.func99.trans (congrArg some (by kernel_rfl))
 f276:=Tryz.func133.trans (congrArg some (by kernel_rfl))
 t0:=Tryz.underlying0
 a0:=Tryz.isAgg0
 z0:=Tryz.sizeOf0
 v0:=Tryz.zeroValue0
 t4:=Tryz.underlying4
 a4:=Tryz.isAgg4
 z4:=Tryz.sizeOf4
 v4:=Tryz.zeroValue4
 t5:=Tryz.underlying5
 a5:=Tryz.isAgg5
 z5:=Tryz.sizeOf5
 v5:=Tryz.zeroValue5
 t9:=Tryz.underlying9
 a9:=Tryz.isAgg9
 z9:=Tryz.sizeOf9
 v9:=Tryz.zeroValue9
 t20:=Tryz.underlying20
 a20:=Tryz.isAgg20
 z20:=Tryz.sizeOf20
 v20:=Tryz.zeroValue20
 t37:=Tryz.underlying71
 a37:=Tryz.isAgg71
 z37:=Tryz.sizeOf71
 v37:=Tryz.zeroValue71
 t70:=Tryz.underlying97
 a70:=Tryz.isAgg97
 z70:=Tryz.sizeOf97
 v70:=Tryz.zeroValue97
 t72:=Tryz.underlying99
 a72:=Tryz.isAgg99
 z72:=Tryz.sizeOf99
 v72:=Tryz.zeroValue99
 t75:=Tryz.underlying101
 a75:=Tryz.isAgg101
 z75:=Tryz.sizeOf101
 v75:=Tryz.zeroValue101
 t164:=Tryz.underlying193
 a164:=Tryz.isAgg193
 z164:=Tryz.sizeOf193
 v164:=Tryz.zeroValue193
}
theorem Tryz.laysB168 : Go.Proofs.Lays.n168 Tryz.prog Tryz.laysB_ren:={
 mixed:=by kernel_rfl
 f168:=Tryz.func79.trans (congrArg some (by kernel_rfl))
 f240:=Tryz.func99.trans (congrArg some (by kernel_rfl))
 f242:=Tryz.func46.trans (congrArg some (by kernel_rfl))
 f276:=Tryz.func133.trans (congrArg some (by kernel_rfl))
 f278:=Tryz.func89.trans (congrArg some (by kernel_rfl))
 t0:=Tryz.underlying0
 a0:=Tryz.isAgg0
 z0:=Tryz.sizeOf0
 v0:=Tryz.zeroValue0
 t3:=Tryz.underlying3
 a3:=Tryz.isAgg3
 z3:=Tryz.sizeOf3
 v3:=Tryz.zeroValue3
 t4:=Tryz.underlying4
 a4:=Tryz.isAgg4
 z4:=Tryz.sizeOf4
 v4:=Tryz.zeroValue4
 t5:=Tryz.underlying5
 a5:=Tryz.isAgg5
 z5:=Tryz.sizeOf5
 v5:=Tryz.zeroValue5
 t9:=Tryz.underlying9
 a9:=Tryz.isAgg9
 z9:=Tryz.sizeOf9
 v9:=Tryz.zeroValue9
 t20:=Tryz.underlying20
 a20:=Tryz.isAgg20
 z20:=Tryz.sizeOf20
 v20:=Tryz.zeroValue20
 t21:=Tryz.underlying21
 a21:=Tryz.isAgg21
 z21:=Tryz.sizeOf21
 v21:=Tryz.zeroValue21
 t37:=Tryz.underlying71
 a37:=Tryz.isAgg71
 z37:=Tryz.sizeOf71
 v37:=Tryz.zeroValue71
 t46:=Tryz.underlying121
 a46:=Tryz.isAgg121
 z46:=Tryz.sizeOf121
 v46:=Tryz.zeroValue121
 t51:=Tryz.underlying63
 a51:=Tryz.isAgg63
 z51:=Tryz.sizeOf63
 v51:=Tryz.zeroValue63
 t70:=Tryz.underlying97
 a70:=Tryz.isAgg97
 z70:=Tryz.sizeOf97
 v70:=Tryz.zeroValue97
 t72:=Tryz.underlying99
 a72:=Tryz.isAgg99
 z72:=Tryz.sizeOf99
 v72:=Tryz.zeroValue99
 t75:=Tryz.underlying101
 a75:=Tryz.isAgg101
 z75:=Tryz.sizeOf101
 v75:=Tryz.zeroValue101
 t164:=Tryz.underlying193
 a164:=Tryz.isAgg193
 z164:=Tryz.sizeOf193
 v164:=Tryz.zeroValue193
}
theorem Tryz.laysB169 : Go.Proofs.Lays.n169 Tryz.prog Tryz.laysB_ren:={
 mixed:=by kernel_rfl
 f169:=Tryz.func66.trans (congrArg some (by kernel_rfl))
 t0:=Tryz.underlying0
 a0:=Tryz.isAgg0
 z0:=Tryz.sizeOf0
 v0:=Tryz.zeroValue0
 t3:=Tryz.underlying3
 a3:=Tryz.isAgg3
 z3:=Tryz.sizeOf3
 v3:=Tryz.zeroValue3
 t9:=Tryz.underlying9
 a9:=Tryz.isAgg9
 z9:=Tryz.sizeOf9
 v9:=Tryz.zeroValue9
 t37:=Tryz.underlying71
 a37:=Tryz.isAgg71
 z37:=Tryz.sizeOf71
 v37:=Tryz.zeroValue71
 t70:=Tryz.underlying97
 a70:=Tryz.isAgg97
 z70:=Tryz.sizeOf97
 v70:=Tryz.zeroValue97
 t72:=Tryz.underlying99
 a72:=Tryz.isAgg99
 z72:=Tryz.sizeOf99
 v72:=Tryz.zeroValue99
 t127:=Tryz.underlying158
 a127:=Tryz.isAgg158
 z127:=Tryz.sizeOf158
 v127:=Tryz.zeroValue158
}
theorem Tryz.Builder_ExtraB : Builder.Extra Tryz.prog Tryz.laysB_ren:={
 sizeBuilder:=by kernel_rfl
 liesBuilder:=by kernel_rfl
 t5:=Tryz.underlying5
 a5:=Tryz.isAgg5
 z5:=Tryz.sizeOf5
 v5:=Tryz.zeroValue5
 infoByte:=by kernel_rfl
 cellsByte:=by kernel_rfl
 sizeByte:=by kernel_rfl
 neB5:=by decide }
end Go.Proofs

namespace Go.Proofs.YtonehlkiackhcaaGreatDoor
open Go.RowKit Go.Shelf Go.Lib Go.Maps Go.Sort
attribute [local go_sem] steady
theorem Row.new (w : World) (cs : Array Value) (t : TypeId) : Row (w.alloc (.cells cs t)) (some ⟨w.heap.size,0,none⟩) cs.toList:=by
 refine .inr ⟨w.heap.size,0,rfl,by simp,fun j u hu => ?_⟩;rw [Nat.zero_add,(Blk.new w t cs).cell j];simpa using hu
theorem below_iter (w : World) (s : ByteArray) (pos:Nat) : Below w.heap.size w (w.iter s pos):=by
 unfold World.iter;exact (Below.refl _ _).alloc (Nat.le_refl _) _
theorem rcount_any (t : List UInt8) (w : World) (ht : t.length ≤ 16000) : Calls Tryz.prog 186 #[.string ⟨t.toArray⟩] w fun e w' => e = .returned (.int .i64 ((runeCountL t:Nat):Int))∧Below w.heap.size w w':=by
 refine (Tryz.utf8_RuneCountInString ⟨t.toArray⟩ w (by simp [ByteArray.size]; omega)).mono ?_;rintro e w' ⟨rfl,pos,rfl⟩;exact ⟨rfl,below_iter w _ _⟩
theorem next_any {a w : World} {B g : Nat} {l : List UInt8} {at_ : Nat} {ind : List Nat} {op : List UInt8} {ts : List Tok} {vi vo vt : Value} {m : Nat} {vs : Value} (h : Sc w B g l at_ ind op ts vi vo vt m vs) (hl : l.length ≤ 16000) (ha : at_ < l.length) (hc : at0 l at_ = 10) (hb : Below B a w) :
  Calls Tryz.prog 150 #[.pointer (some ⟨g,0,none⟩)] w fun e w' => e = .returned (.tuple #[])∧Sc w' B g l (at_ + 1) ind op ts vi vo vt m vs∧Below B a w':=by
 have e1:=line_nl l at_ ha hc;have e2:=bol_nl l at_ ha hc;have hb1:=line_bound l at_;have HE1:=hid e1;have HE2:=hid e2;obtain ⟨L,hL⟩ : ∃ L,lineAt l at_ = L:=⟨_,rfl⟩;obtain ⟨bb,hbb⟩ : ∃ bb,bol l at_ = bb:=⟨_,rfl⟩;have HL:=hid hL;have HBB:=hid hbb;unfold Sc scCells at h;rw [hL,hbb] at h;rw [hL] at hb1;clear e1 e2 hL hbb hc;obtain ⟨q1,q2,q3⟩:=h.blk.rules;go_enter Tryz.func150,Tryz.ntmps150;go_wp2;go_end0;refine ⟨rfl,?_,((hb.setCell (p:=⟨g,1,none⟩) h.ge _).setCell (p:=⟨g,2,none⟩) h.ge _).setCell (p:=⟨g,3,none⟩) h.ge _⟩;unfold Sc scCells;rw [HE1.out,HE2.out,HL.out];exact ((h.set 1 (.int .i64 ((at_:Int) + 1))).set 2 (.int .i64 (L + 1))).set 3 (.int .i64 ((at_:Int) + 1))
theorem Blk.grows {w : World} {g t : Nat} {cs : Array Value} (h : Blk w g t cs) : ∀ (d:Nat) (os : Array Obj) (i:Nat),(grow (redrawn w d) os).cell? ⟨g,i,none⟩ = cs[i]?:=fun d os i => (h.belowS (below_regrown w d os)).cell i
def AddPost (a : World) (B g:Nat) (l : List UInt8) (at_:Nat) (ind : List Nat) (op : List UInt8) (ts : List Tok) (vi vo : Value) (m:Nat) (vs : Value) (e : Ending) (w' : World) : Prop :=
 ∃ vt',e = .returned (.tuple #[])∧Sc w' B g l at_ ind op ts vi vo vt' m vs∧Below B a w'
theorem add_any {a w : World} {B g : Nat} {l : List UInt8} {at_ : Nat} {ind : List Nat} {op : List UInt8} {ts : List Tok} {vi vo vt : Value} {m : Nat} {vs : Value} (h : Sc w B g l at_ ind op ts vi vo vt m vs) (hl : l.length ≤ 16000) (hts : ts.length ≤ 1000000) (hb : Below B a w)
  (k:Int) (t : List UInt8) (i:Nat) (hi : i ≤ l.length) (h1 : lineAt l at_ = lineAt l i) (h2 : bol l at_ = bol l i) :
  Calls Tryz.prog 149 #[.pointer (some ⟨g,0,none⟩),.int .i64 k,.string ⟨t.toArray⟩,.int .i64 (i:Int)] w (AddPost a B g l at_ ind op (ts ++ [tokAt l k t i]) vi vo m vs):=by
 obtain ⟨i0,hi0,hz0,hz1,hz2⟩:=info_parts info_tok;have hcb:=col_bound l i;have hln:=line_text l i hi;have hble:=bol_le l i;have hcol : colAt l i = ((runeCountL (tailNl (l.take i)):Nat):Int) + 1:=rfl;obtain ⟨L,hL⟩ : ∃ L,lineAt l i = L:=⟨_,rfl⟩;obtain ⟨bb,hbb⟩ : ∃ bb,bol l i = bb:=⟨_,rfl⟩;obtain ⟨rc,hrc⟩ : ∃ rc,runeCountL (tailNl (l.take i)) = rc:=⟨_,rfl⟩;rw [hrc] at hcol;rw [hcol] at hcb;have HT:=hid (show tokc (tokAt l k t i) = [.int .i64 k,.string ⟨t.toArray⟩,.int .i64 L,.int .i64 ((rc:Int) + 1)] by unfold tokAt tokc; rw [hcol,hL]);have HH:=hid h;unfold Sc scCells at h;rw [h1,h2,hL,hbb] at h;rw [hbb] at hln hble;have hsb:=run_sub l bb i hble hi (bb:Int) (i:Int) rfl rfl;rw [hln] at hsb;have hrcc : ∀ W : World,Calls Tryz.prog 186 #[.string ⟨(tailNl (l.take i)).toArray⟩] W fun e w' => e = .returned (.int .i64 (rc:Int))∧Below W.heap.size W w':=fun W => by
  have:=rcount_any (tailNl (l.take i)) W (by rw [← hln,List.length_take,List.length_drop]; omega)
  rwa [hrc] at this
 have HRC:=hid hrcc;generalize tailNl (l.take i) = tl at *
 have e1 : IntKind.i64.wrap ((rc:Int) + 1) = (rc:Int) + 1:=IntWalk.i64_in _ (by omega);have hlen : ((ts ++ [tokAt l k t i]).flatMap tokc) = ts.flatMap tokc ++ [.int .i64 k,.string ⟨t.toArray⟩,.int .i64 L,.int .i64 ((rc:Int) + 1)]:=by rw [List.flatMap_append,List.flatMap_singleton,HT.out]
 have HLEN:=hid hlen;have HH1:=hid h1;have HH2:=hid h2;have HLL:=hid hL;have HBB:=hid hbb;have HX:=hid h;have hlt:=h.blk.lt;clear hln hcol hrc hL hbb h1 h2 hrcc hlen hcb hble;obtain ⟨q1,q2,q3⟩:=h.blk.rules;clear h;have m1 : ts.length + 1 ≤ maxLen:=by unfold maxLen; omega
 have m2 : (ts.length + 1) * 40 ≤ 140737488355328:=by omega
 go_enter Tryz.func149,Tryz.ntmps149;go_wp2_with fail;have G : ∀ (p : Held fun w' => Blk w' g 180 #[.string ⟨l.toArray⟩,.int .i64 (at_:Int),.int .i64 L,.int .i64 (bb:Int),vi,vo,vt,.map (some m),vs]) (i:Nat),p.w.cell? ⟨g,i,none⟩ = #[.string ⟨l.toArray⟩,.int .i64 (at_:Int),.int .i64 L,.int .i64 (bb:Int),vi,vo,vt,.map (some m),vs][i]?:=fun p i => p.h.cell i;refine wp_region_steady_tail 21 26 (by kernel_rfl) (by kernel_rfl) (fun w' => ∃ p : Held fun w' => Blk w' g 180 #[.string ⟨l.toArray⟩,.int .i64 (at_:Int),.int .i64 L,.int .i64 (bb:Int),vi,vo,vt,.map (some m),vs],w' = p.w) (isHeld_mk HX.out.blk.drew) (fun c a d v w h => by cases d <;> exact h) ?_;simp only [List.take_succ_cons,List.take_zero,List.drop_succ_cons,List.drop_zero]
 repeat (refine wpSteady_step (fun K hK => ?_) --
         go_simp
         first
           | (refine ⟨_,fun _ => rfl,hK _ ?_⟩; clear hK K)
           | (refine hK _ ?_; clear hK K))
 refine wpSteady_nil ?_;refine tailM_one ?_;go_wp2_with fail;refine (HRC.out _).mono ?_;rintro e w1 ⟨rfl,hb1⟩;have hR1:=(HX.out.drewN 1).belowS hb1;have hb2 : RowKit.Below B a w1:=below_then hb.drew hb1 (Nat.le_trans HX.out.ge (Nat.le_of_lt hlt));have hs1:=hR1.blk.lt;have hge:=hR1.ge;clear hb1 q1 q2 q3;go_wp2_with fail;refine thenC_mk (isHeld_mk hR1.blk) ?_;refine tailM_one ?_;go_wp2_with fail;refine thenC_mk (isHeld_mk hR1.blk) ?_;refine tailM_one ?_;go_wp2_with fail;refine thenC_mk (isHeld_mk hR1.blk) ?_;refine tailM_one ?_;go_wp2_with fail;refine thenC_mk (isHeld_mk (hR1.alloc _).blk) ?_;refine tailM_one ?_
 go_wp2_with (at_builtin --
              refine wpList_append_row _ rfl (.tmp 12) (.tmp 32) 126 rfl B 130 i0 (.agg #[.int .i64 0,.string ByteArray.empty,.int .i64 0,.int .i64 0]) 4 40 Tryz.underlying126 hi0 hz0 hz1 hz2 rfl (by decide) vt ts.length (ts.flatMap tokc) rfl (hR1.ot.alloc _) (some ⟨w1.heap.size,0,none⟩) 1 1 [.int .i64 k,.string ⟨t.toArray⟩,.int .i64 L,.int .i64 ((rc:Int) + 1)] rfl rfl (Row.new w1 #[.int .i64 k,.string ⟨t.toArray⟩,.int .i64 L,.int .i64 ((rc:Int) + 1)] 130) (by simp [Value.oneCell']) m1 m2 (by simp; omega) ?_
              intro v3 w3 hown3 hg3 hat3
              have hR3:=(hR1.alloc (.cells #[.int .i64 k,.string ⟨t.toArray⟩,.int .i64 L,.int .i64 ((rc:Int) + 1)] 130)).growT hg3 (ts':=ts ++ [tokAt l k t i]) (by rw [HLEN.out]; simpa using hown3)
              obtain ⟨A3,c3,rfl,_,_⟩:=own_form hown3)
 refine thenC_mk (isHeld_mk hR3.blk) ?_;refine tailM_zero ?_;have hb3:=(hb2.alloc (by omega) (.cells #[.int .i64 k,.string ⟨t.toArray⟩,.int .i64 L,.int .i64 ((rc:Int) + 1)] 130)).grown hg3 (by simp; omega) (fun g' e => (HX.out.ot.lt g' e).1);clear hg3 hown3 hat3 G;obtain ⟨q1,q2,q3⟩:=hR3.blk.rules;go_wp2_with fail;go_end0;refine ⟨.slice A3 (ts.length + 1) c3,rfl,?_,hb3.setCell (p:=⟨g,6,none⟩) hge _⟩;unfold Sc scCells;rw [HH1.out,HH2.out,HLL.out,HBB.out];have hlen3 : (ts ++ [tokAt l k t i]).length = ts.length + 1:=by simp
 exact hR3.set 6 _
end Go.Proofs.YtonehlkiackhcaaGreatDoor
