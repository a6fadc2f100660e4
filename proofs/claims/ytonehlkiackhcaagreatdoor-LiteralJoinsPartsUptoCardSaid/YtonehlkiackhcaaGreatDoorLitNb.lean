/- The literals: a number's decimal numeral. Nothing is claimed here. -/
import Derived.Shelf.Strings.Split
import Derived.Test.YtonehlkiackhcaaGreatDoorRefR
set_option linter.unusedVariables false
set_option linter.unusedSimpArgs false
set_option maxRecDepth 100000
set_option maxHeartbeats 16000000
namespace Go.Proofs
open Go.Shelf
def Tryz.lays156_ren : Go.Shelf.Ren:=⟨fun | 156 => 74 | 165 => 105 | 166 => 62 | 169 => 66 | 240 => 99 | 241 => 140 | 276 => 133 | 277 => 179 | n => n,fun | 31 => 50 | 9 => 9 | 3 => 3 | 4 => 4 | 0 => 0 | 20 => 20 | 72 => 99 | 76 => 102 | 70 => 97 | 37 => 71 | 75 => 101 | 127 => 158 | 164 => 193 | 5 => 5 | 80 => 54 | n => n,fun | n => n⟩
theorem Tryz.lays156 : Go.Proofs.Lays.n156 Tryz.prog Tryz.lays156_ren:={
 mixed:=by kernel_rfl
 f156:=Tryz.func74.trans (congrArg some (by kernel_rfl))
 f165:=Tryz.func105.trans (congrArg some (by kernel_rfl))
 f166:=Tryz.func62.trans (congrArg some (by kernel_rfl))
 f169:=Tryz.func66.trans (congrArg some (by kernel_rfl))
 f240:=Tryz.func99.trans (congrArg some (by kernel_rfl))
 f241:=Tryz.func140.trans (congrArg some (by kernel_rfl))
 f276:=Tryz.func133.trans (congrArg some (by kernel_rfl))
 f277:=Tryz.func179.trans (congrArg some (by kernel_rfl))
 t0:=Tryz.underlying0
 a0:=Tryz.isAgg0
 z0:=Tryz.sizeOf0
 v0:=Tryz.zeroValue0
 t3:=Tryz.underlying3
 a3:=Tryz.isAgg3
 z3:=Tryz.sizeOf3
 v3:=Tryz.zeroValue3
 t4:=Tryz.underlying4
 a4:=Tryz.isAgg4
 z4:=Tryz.sizeOf4
 v4:=Tryz.zeroValue4
 t9:=Tryz.underlying9
 a9:=Tryz.isAgg9
 z9:=Tryz.sizeOf9
 v9:=Tryz.zeroValue9
 t20:=Tryz.underlying20
 a20:=Tryz.isAgg20
 z20:=Tryz.sizeOf20
 v20:=Tryz.zeroValue20
 t31:=Tryz.underlying50
 a31:=Tryz.isAgg50
 z31:=Tryz.sizeOf50
 v31:=Tryz.zeroValue50
 t37:=Tryz.underlying71
 a37:=Tryz.isAgg71
 z37:=Tryz.sizeOf71
 v37:=Tryz.zeroValue71
 t70:=Tryz.underlying97
 a70:=Tryz.isAgg97
 z70:=Tryz.sizeOf97
 v70:=Tryz.zeroValue97
 t72:=Tryz.underlying99
 a72:=Tryz.isAgg99
 z72:=Tryz.sizeOf99
 v72:=Tryz.zeroValue99
 t75:=Tryz.underlying101
 a75:=Tryz.isAgg101
 z75:=Tryz.sizeOf101
 v75:=Tryz.zeroValue101
 t76:=Tryz.underlying102
 a76:=Tryz.isAgg102
 z76:=Tryz.sizeOf102
 v76:=Tryz.zeroValue102
 t127:=Tryz.underlying158
 a127:=Tryz.isAgg158
 z127:=Tryz.sizeOf158
 v127:=Tryz.zeroValue158
 t164:=Tryz.underlying193
 a164:=Tryz.isAgg193
 z164:=Tryz.sizeOf193
 v164:=Tryz.zeroValue193 }
theorem Tryz.Builder_Extra_156 : Builder.Extra Tryz.prog Tryz.lays156_ren:={
 sizeBuilder:=by kernel_rfl
 liesBuilder:=by kernel_rfl
 t5:=Tryz.underlying5
 a5:=Tryz.isAgg5
 z5:=Tryz.sizeOf5
 v5:=Tryz.zeroValue5
 infoByte:=by kernel_rfl
 cellsByte:=by kernel_rfl
 sizeByte:=by kernel_rfl
 neB5:=by decide }
open Go.RowKit in
theorem Tryz.strings_Join (bk o c:Nat) (xs : List ByteArray) (sep : ByteArray) (w : World) (hcells : ∀ (j:Nat) x,xs[j]? = some x → w.cell? ⟨bk,o + j,none⟩ = some (.string x)) (hbk : bk < w.heap.size) (hN : xs.length ≤ 140737488355328) (hcap : xs.length ≤ c) (hlen : (Lib.join (xs.map (·.data.toList)) sep.data.toList).length ≤ 140737488355328) :
  Calls Tryz.prog 74 #[.slice (some ⟨bk,o,none⟩) xs.length c,.string sep] w fun e w' => e = .returned (.string ⟨(Lib.join (xs.map (·.data.toList)) sep.data.toList).toArray⟩)∧Below w.heap.size w w':=Any.strings_Join Tryz.lays156 Tryz.Builder_Extra_156 bk o c xs sep w hcells hbk hN hcap hlen
def Tryz.lays146_ren : Go.Shelf.Ren:=⟨fun | 146 => 200 | 221 => 219 | 268 => 236 | 138 => 237 | 143 => 131 | 195 => 186 | 197 => 84 | 218 => 246 | 219 => 108 | 260 => 121 | 217 => 124 | 225 => 107 | 224 => 106 | 267 => 141 | 266 => 160 | 314 => 180 | n => n,fun | 9 => 9 | 31 => 50 | 3 => 3 | 4 => 4 | 0 => 0 | 105 => 131 | 21 => 21 | 5 => 5 | 46 => 121 | 119 => 160 | 139 => 163 | 138 => 162 | 146 => 198 | 51 => 63 | n => n,fun | 1 => 2 | 3 => 0 | 4 => 1 | n => n⟩
theorem Tryz.lays146 : Go.Proofs.Lays.n146 Tryz.prog Tryz.lays146_ren:={
 mixed:=by kernel_rfl
 f138:=Tryz.func237.trans (congrArg some (by kernel_rfl))
 f143:=Tryz.func131.trans (congrArg some (by kernel_rfl))
 f146:=Tryz.func200.trans (congrArg some (by kernel_rfl))
 f195:=Tryz.func186.trans (congrArg some (by kernel_rfl))
 f197:=Tryz.func84.trans (congrArg some (by kernel_rfl))
 f217:=Tryz.func124.trans (congrArg some (by kernel_rfl))
 f218:=Tryz.func246.trans (congrArg some (by kernel_rfl))
 f219:=Tryz.func108.trans (congrArg some (by kernel_rfl))
 f221:=Tryz.func219.trans (congrArg some (by kernel_rfl))
 f224:=Tryz.func106.trans (congrArg some (by kernel_rfl))
 f225:=Tryz.func107.trans (congrArg some (by kernel_rfl))
 f260:=Tryz.func121.trans (congrArg some (by kernel_rfl))
 f266:=Tryz.func160.trans (congrArg some (by kernel_rfl))
 f267:=Tryz.func141.trans (congrArg some (by kernel_rfl))
 f268:=Tryz.func236.trans (congrArg some (by kernel_rfl))
 f314:=Tryz.func180.trans (congrArg some (by kernel_rfl))
 t0:=Tryz.underlying0
 a0:=Tryz.isAgg0
 z0:=Tryz.sizeOf0
 v0:=Tryz.zeroValue0
 t3:=Tryz.underlying3
 a3:=Tryz.isAgg3
 z3:=Tryz.sizeOf3
 v3:=Tryz.zeroValue3
 t4:=Tryz.underlying4
 a4:=Tryz.isAgg4
 z4:=Tryz.sizeOf4
 v4:=Tryz.zeroValue4
 t5:=Tryz.underlying5
 a5:=Tryz.isAgg5
 z5:=Tryz.sizeOf5
 v5:=Tryz.zeroValue5
 t9:=Tryz.underlying9
 a9:=Tryz.isAgg9
 z9:=Tryz.sizeOf9
 v9:=Tryz.zeroValue9
 t21:=Tryz.underlying21
 a21:=Tryz.isAgg21
 z21:=Tryz.sizeOf21
 v21:=Tryz.zeroValue21
 t31:=Tryz.underlying50
 a31:=Tryz.isAgg50
 z31:=Tryz.sizeOf50
 v31:=Tryz.zeroValue50
 t46:=Tryz.underlying121
 a46:=Tryz.isAgg121
 z46:=Tryz.sizeOf121
 v46:=Tryz.zeroValue121
 t51:=Tryz.underlying63
 a51:=Tryz.isAgg63
 z51:=Tryz.sizeOf63
 v51:=Tryz.zeroValue63
 t105:=Tryz.underlying131
 a105:=Tryz.isAgg131
 z105:=Tryz.sizeOf131
 v105:=Tryz.zeroValue131
 t119:=Tryz.underlying160
 a119:=Tryz.isAgg160
 z119:=Tryz.sizeOf160
 t138:=Tryz.underlying162
 a138:=Tryz.isAgg162
 z138:=Tryz.sizeOf162
 v138:=Tryz.zeroValue162
 t139:=Tryz.underlying163
 a139:=Tryz.isAgg163
 z139:=Tryz.sizeOf163
 v139:=Tryz.zeroValue163
 t146:=Tryz.underlying198
 a146:=Tryz.isAgg198
 z146:=Tryz.sizeOf198
 v146:=Tryz.zeroValue198
 g1:=by kernel_rfl
 g3:=by kernel_rfl
 g4:=by kernel_rfl }
open Go.RowKit Go.Lib in
theorem Tryz.strings_Split (s sep : ByteArray) (m:Int) (w : World) (hs : s.size < 4294967281) (hm : w.cell? ⟨2,0,none⟩ = some (.int .i64 m)) (h1 : 1 ≤ sep.size) :
  Calls Tryz.prog 200 #[.string s,.string sep] w fun e w' =>
   e = .returned (.slice (some ⟨w.heap.size,0,none⟩) (Lib.countB s sep + 1) (Lib.countB s sep + 1))∧w' = w.alloc (.cells ((Lib.splitB sep 0 (Lib.countB s sep) s).map Value.string).toArray 9):=Any.strings_Split Tryz.lays146 (by kernel_rfl) s sep m w hs hm h1
end Go.Proofs

namespace Go.Proofs.YtonehlkiackhcaaGreatDoor
open Go.RowKit Go.Lib Go.Sort
def padL : Nat → Nat → List UInt8
 | 0,_ => []
 | k + 1,r => padL k (r / 10) ++ [UInt8.ofNat (48 + r % 10)]
theorem dec_split (m:Nat) (hm : 1 ≤ m) : ∀ (k r:Nat),r < 10 ^ k → decDigits (m * 10 ^ k + r) = decDigits m ++ padL k r
 | 0,r,h => by
  have : r = 0:=(by simpa using h);subst this;simp [padL]
 | k + 1,r,h => by
  have h10 : 10 ^ (k + 1) = 10 * 10 ^ k:=(by rw [Nat.pow_succ,Nat.mul_comm]);have e1 : m * 10 ^ (k + 1) = 10 * (m * 10 ^ k):=(by rw [h10,← Nat.mul_assoc,← Nat.mul_assoc,Nat.mul_comm m 10]);have hp : 1 ≤ m * 10 ^ k:=Nat.mul_pos hm (Nat.pos_of_ne_zero (by intro h; rw [Nat.pow_eq_zero] at h; omega));have hd : (m * 10 ^ (k + 1) + r) / 10 = m * 10 ^ k + r / 10:=(by omega);have hmod : (m * 10 ^ (k + 1) + r) % 10 = r % 10:=(by omega);have ih:=dec_split m hm k (r / 10) (by omega);rw [decDigits,dif_neg (by omega),hd,hmod,ih,padL,List.append_assoc]
theorem padL_zero : ∀ k : Nat,padL k 0 = List.replicate k 48
 | 0 => rfl
 | k + 1 => by rw [padL,Nat.zero_div,padL_zero k,List.replicate_succ']; rfl
theorem padL_eq : ∀ (k r:Nat),r < 10 ^ (k + 1) → padL (k + 1) r = List.replicate (k + 1 - (decDigits r).length) 48 ++ decDigits r∧(decDigits r).length ≤ k + 1∧1 ≤ (decDigits r).length
 | 0,r,h => by
  have h1 : r < 10:=(by simpa using h);rw [decDigits_one h1,padL,padL,Nat.mod_eq_of_lt h1];simp
 | k + 1,r,h => by
  by_cases h1 : r < 10
  ·rw [decDigits_one h1,padL,Nat.div_eq_of_lt h1,padL_zero,Nat.mod_eq_of_lt h1];simp
  ·have h10 : 10 ^ (k + 2) = 10 * 10 ^ (k + 1):=(by rw [Nat.pow_succ,Nat.mul_comm]);obtain ⟨i1,i2,i3⟩:=padL_eq k (r / 10) (by omega);rw [decDigits,dif_neg h1,padL,i1];simp;omega
theorem dec_chunk (q r:Nat) (hq : 1 ≤ q) (hr : r < 1000000000) : decDigits (q * 1000000000 + r) = decDigits q ++ (List.replicate (9 - (decDigits r).length) 48 ++ decDigits r):=by
 have h:=dec_split q hq 9 r (by simpa using hr);rw [show (10:Nat) ^ 9 = 1000000000 from by decide] at h;rw [h,(padL_eq 8 r (by simpa using hr)).1]
theorem dec_len9 (r:Nat) (hr : r < 1000000000) : (decDigits r).length ≤ 9∧1 ≤ (decDigits r).length:=by
 have:=padL_eq 8 r (by simpa using hr);exact ⟨this.2.1,this.2.2⟩
theorem decDigits_pos (m:Nat) : 1 ≤ (decDigits m).length:=by
 rw [decDigits];split <;> simp
theorem zeros_any (n:Nat) (hn : n ≤ 10000000) (w : World) : Calls Tryz.prog 73 #[.string ⟨#[48]⟩,.int .i64 (n:Int)] w fun e w' => e = .returned (.string ⟨(List.replicate n 48).toArray⟩)∧Below w.heap.size w w':=by
 refine (Tryz.strings_Repeat ⟨#[48]⟩ n w (by omega) (by show 1 * n ≤ _; omega)).mono ?_;rintro e w' ⟨rfl,hb⟩;refine ⟨?_,hb⟩;rw [show Lib.repeatL [48] n = List.replicate n (48 : UInt8) from ?_];clear hn hb
 induction n with
 | zero => rfl
 | succ n ih =>
  rw [List.replicate_succ,← ih];rfl
theorem itoa_any (n:Nat) (hn : n < 9223372036854775808) (w : World) (htab : Lib.TabIs Tryz.prog w "internal/strconv.uint64pow10" .u64 Lib.pow10Tab) :
  Calls Tryz.prog 72 #[.int .i64 (n:Int)] w fun e w' => e = .returned (.string ⟨(decDigits n).toArray⟩)∧Below w.heap.size w w':=by
 refine (Tryz.strconv_Itoa (n:Int) (by omega) (by omega) w htab).mono ?_;rintro e w' ⟨rfl,k,os,rfl⟩;refine ⟨by rw [itoa_nonneg],⟨rfl,rfl,rfl,by simp [grow],fun j hj => ?_⟩⟩;show (w.heap ++ os)[j]? = w.heap[j]?;rw [Array.getElem?_append_left hj]
def strL (l : List (List UInt8)) : List Value:=l.map strV
theorem flatL_len : ∀ ts : List (List UInt8),(∀ t ∈ ts,1 ≤ t.length) → ts.length ≤ ts.flatten.length
 | [],_ => Nat.zero_le _
 | t :: ts,h => by
  have h1:=flatL_len ts (fun u hu => h u (by simp [hu]));have h2:=h t (by simp);simp only [List.flatten_cons,List.length_append,List.length_cons];omega
theorem join_none (ts : List (List UInt8)) : Lib.join ((ts.map fun t => (⟨t.toArray⟩ : ByteArray)).map (·.data.toList)) (⟨#[]⟩ : ByteArray).data.toList = ts.flatten:=by
 rw [List.map_map,show (((·.data.toList) : ByteArray → List UInt8) ∘ fun t : List UInt8 => (⟨t.toArray⟩ : ByteArray)) = id from by funext t; simp,List.map_id]
 induction ts with
 | nil => rfl
 | cons t ts ih =>
  cases ts with
  | nil => simp [Lib.join]
  | cons u us =>
   unfold Lib.join at ih ⊢;simp [List.intercalate] at ih ⊢;exact ih
def DecI (n m:Nat) (ts : List (List UInt8)) : Prop:=(m = 0∧n = 0∧ts = [])∨(m = 0∧ts ≠ []∧ts.flatten = decDigits n)∨(m ≠ 0∧decDigits m ++ ts.flatten = decDigits n)
theorem DecI.len {n m : Nat} {ts : List (List UInt8)} (h : DecI n m ts) : ts.flatten.length ≤ (decDigits n).length:=by
 rcases h with ⟨_,_,rfl⟩ | ⟨_,_,h⟩ | ⟨_,h⟩
 ·simp
 ·rw [h]; exact Nat.le_refl _
 ·rw [← h]; simp
theorem DecI.start (n:Nat) : DecI n n []:=by
 by_cases h : n = 0
 ·exact .inl ⟨h,h,rfl⟩
 ·exact .inr (.inr ⟨h,by simp⟩)
def pieceL (m:Nat) : List UInt8:=if m / 1000000000 = 0 then decDigits (m % 1000000000) else List.replicate (9 - (decDigits (m % 1000000000)).length) 48 ++ decDigits (m % 1000000000)
theorem DecI.next {n m : Nat} {ts : List (List UInt8)} (h : DecI n m ts) (hm : m ≠ 0) : DecI n (m / 1000000000) (pieceL m :: ts):=by
 rcases h with ⟨h0,_⟩ | ⟨h0,_⟩ | ⟨_,h⟩
 ·exact absurd h0 hm
 ·exact absurd h0 hm
 ·have hd:=Nat.div_add_mod m 1000000000
  by_cases hq : m / 1000000000 = 0
  ·refine .inr (.inl ⟨hq,by simp,?_⟩);unfold pieceL;rw [if_pos hq,List.flatten_cons,← h,show m % 1000000000 = m by omega]
  ·refine .inr (.inr ⟨hq,?_⟩);unfold pieceL;rw [if_neg hq,List.flatten_cons,← List.append_assoc,← dec_chunk _ _ (by omega) (Nat.mod_lt _ (by decide)),show m / 1000000000 * 1000000000 + m % 1000000000 = m by omega,h]
theorem decimal_any {w : World} (n:Nat) (A : Option Addr) (c:Nat) (hlen : (lg n).length ≤ 10000) (hdl : (decDigits n).length ≤ 1000000) (hr : Row w A (u32s (lg n))) (htab : Lib.TabIs Tryz.prog w "internal/strconv.uint64pow10" .u64 Lib.pow10Tab) :
  Calls Tryz.prog 23 #[.slice A (lg n).length c] w fun e w' => e = .returned (.string ⟨(decDigits n).toArray⟩)∧Below w.heap.size w w':=by
 obtain ⟨is,his,hsz0,hsz1,hsz2⟩:=info_parts info_str16;obtain ⟨B,hB⟩ : ∃ B,w.heap.size = B:=⟨_,rfl⟩;have HB:=hid hB;clear hB;go_enter Tryz.func23,Tryz.ntmps23;go_wp2_with fail
 go_loopw [0,3,4,5,6] (fun d v _ _ _ wr => ∃ (m:Nat) (A' : Option Addr) (c':Nat) (ts : List (List UInt8)),d = .slice A' (lg m).length c'∧m ≤ n∧DecI n m ts∧(∀ t ∈ ts,1 ≤ t.length)∧Row wr A' (u32s (lg m))∧wr.ownsRow B 9 1 v ts.length (strL ts)∧Below w.heap.size w wr) (fun _ v _ _ _ wr => (decDigits n).length + 1 - lenOf v)
 case atStart => exact ⟨n,A,c,[],rfl,Nat.le_refl _,DecI.start n,by simp,hr,⟨rfl,.inl ⟨rfl,rfl⟩⟩,Below.refl _ _⟩
 case round =>
  obtain ⟨m,A',c',ts,rfl,hmn,hI,hts,hrm,hown,hbr⟩:=hrel;clear hr;have htr:=tab_keep htab hbr;have hml : (lg m).length ≤ 10000:=Nat.le_trans (lg_mono hmn) hlen
  by_cases hm0 : m = 0
  ·have hl0 : ((lg m).length:Int) = 0:=(by rw [lg_len0.2 hm0]; rfl);have HM:=hid hm0;rcases hI with ⟨-,hn0,hts0⟩ | ⟨-,hne,hfl⟩ | ⟨h1,-⟩
   ·subst hts0;obtain ⟨Av,cv,rfl,_,_⟩:=own_form hown;have HN:=hid hn0;clear hm0 hn0;go_wp2_with fail;go_ret;exact ⟨by rw [HN.out,decDigits_one (by decide)]; rfl,hbr⟩
   ·have hfl2:=flatL_len ts hts;have htl3 : ts.length ≤ 1000000:=(by rw [hfl] at hfl2; omega);clear hfl2;have htl : ts.length ≠ 0:=fun h => hne (List.eq_nil_of_length_eq_zero h);obtain ⟨g,cv,cs,rfl,hge,hblk,hcs,htk,hcv⟩:=own_some hown htl;have htb : ((ts.length:Int) == 0) = false:=(by rw [beq_eq_false_iff_ne]; omega);have HJ:=hid (Tryz.strings_Join g 0 cv (ts.map fun t => (⟨t.toArray⟩ : ByteArray)) ⟨#[]⟩ wr (by
     intro j x hx;rw [List.getElem?_map] at hx;cases htj : ts[j]? with
     | none => rw [htj] at hx; cases hx
     | some t =>
      rw [htj] at hx;obtain rfl : (⟨t.toArray⟩ : ByteArray) = x:=(by simpa using hx);rw [Nat.zero_add,hblk.cell j];have h1 : (strL ts)[j]? = some (strV t):=(by unfold strL; rw [List.getElem?_map,htj]; rfl);rw [← htk,List.getElem?_take] at h1;split at h1
      ·simpa [strV] using h1
      ·cases h1) hblk.lt (by rw [List.length_map]; omega) (by rw [List.length_map]; exact hcv) (by rw [join_none,hfl]; omega))
    rw [List.length_map,join_none,hfl] at HJ;clear hm0;go_wp2_with fail;refine HJ.out.mono ?_;rintro e w2 ⟨rfl,hbb⟩;go_wp2_with fail;go_ret;exact ⟨rfl,below_then hbr hbb hbr.size⟩
   ·exact absurd hm0 h1
  ·have hl0 : (0:Int) < ((lg m).length:Int):=by
    have : (lg m).length ≠ 0:=fun h => hm0 (lg_len0.1 h);omega
   have HI:=hid (hI.next hm0);have hfl:=flatL_len ts hts;have hIl : ts.flatten.length < (decDigits n).length:=by
    rcases hI with ⟨h0,_⟩ | ⟨h0,_⟩ | ⟨_,h⟩
    ·exact absurd h0 hm0
    ·exact absurd h0 hm0
    ·rw [← h,List.length_append];have:=decDigits_pos m;omega
   have HTS:=hid hts;have hQ:=quo_any m 1000000000 A' c' hml (by omega) (by omega) hrm;have hr9 : m % 1000000000 < 1000000000:=Nat.mod_lt _ (by decide);have hqn : m / 1000000000 ≤ n:=Nat.le_trans (Nat.div_le_self _ _) hmn;have HPC:=hid (show pieceL m = if m / 1000000000 = 0 then decDigits (m % 1000000000) else List.replicate (9 - (decDigits (m % 1000000000)).length) 48 ++ decDigits (m % 1000000000) from rfl);obtain ⟨q,hq⟩ : ∃ q,m / 1000000000 = q:=⟨_,rfl⟩;obtain ⟨r,hrr⟩ : ∃ r,m % 1000000000 = r:=⟨_,rfl⟩;obtain ⟨pc,hpc⟩ : ∃ pc,pieceL m = pc:=⟨_,rfl⟩;rw [hq] at HI hQ hqn HPC;rw [hrr] at hQ hr9 HPC;rw [hpc] at HI HPC;have HQ:=hid hQ;clear hI hts hq hrr hpc hQ;go_wp2_with fail;refine HQ.out.mono ?_;rintro e w2 ⟨⟨A2,c2,rfl,hr2⟩,hbb⟩;have hown2:=own_below hown hbb;have hb2:=below_then hbr hbb hbr.size;clear hrm hbb hbr hown HQ;go_wp2_with fail;refine (itoa_any r (by omega) w2 (tab_keep htab hb2)).mono ?_;rintro e w3 ⟨rfl,hbb⟩;have hown3:=own_below hown2 hbb;have hr3:=hr2.keepB hbb;have hb3:=below_then hb2 hbb hb2.size;clear hr2 hbb hb2 hown2;obtain ⟨l1,l2⟩:=dec_len9 r hr9;obtain ⟨D,hD⟩ : ∃ D,decDigits r = D:=⟨_,rfl⟩;rw [hD] at l1 l2 HPC ⊢;clear hD
   by_cases hq0 : q = 0
   ·have HPT : Hid (pc = D):=hid (by rw [HPC.out,if_pos hq0]);have hc0 : ((lg q).length:Int) = 0:=(by rw [lg_len0.2 hq0]; rfl);have hT1:=l2;clear hq0 HPC;obtain ⟨Av,cv,rfl,hrw,_⟩:=own_form hown3;have hrw8 : Row ((w3).alloc (.cells #[strV D] 9)) Av (strL ts):=hrw.keepB ((Below.refl _ (w3)).alloc (Nat.le_refl _) _);have hBW : B ≤ (w3).heap.size:=(by have:=Below.size hb3; rw [HB.out] at this; exact this);have hon8 : ((w3).alloc (.cells #[strV D] 9)).ownsRow B 9 1 (.slice (some ⟨(w3).heap.size,0,none⟩) 1 1) 1 [strV D]:=own_new1 (w3) hBW (strV D) 9;have hbA:=Below.alloc hb3 (Below.size hb3) (.cells #[strV D] 9);have hrA:=Row.keepB hr3 ((Below.refl _ (w3)).alloc (Nat.le_refl _) (.cells #[strV D] 9));clear hrw;go_wp2_with (at_builtin; refine wpList_append_row _ rfl (.tmp 28) (.tmp 29) 50 rfl B 9 is (.string ByteArray.empty) 1 16 Tryz.underlying50 his hsz0 hsz1 hsz2 rfl (by decide) _ 1 [strV D] rfl hon8 Av ts.length cv (strL ts) rfl (by simp [strL]) hrw8 (by simp [Value.oneCell',strL,strV]) (by unfold maxLen; omega) (by omega) (by simp; omega) ?_; intro v8 w8 hown8 hg8 hat8; obtain ⟨A8,c8,rfl,_,_⟩:=own_form hown8);have hbW8 : Below (w3).heap.size (w3) w8:=((Below.refl _ (w3)).alloc (Nat.le_refl _) _).grown hg8 (by simp) (fun k e => by cases e; exact Nat.le_refl _);go_roundw
    case rel =>
     refine ⟨q,A2,c2,pc :: ts,rfl,hqn,HI.out,?_,Row.keepB hr3 hbW8,?_,below_then hb3 hbW8 (Below.size hb3)⟩
     ·intro t ht;rcases List.mem_cons.1 ht with rfl | ht
      ·rw [HPT.out]; exact hT1
      ·exact HTS.out t ht
     ·rw [HPT.out,show (D :: ts).length = 1 + ts.length by simp; omega];exact hown8
    case measure => simp only [lenOf]; omega
   ·have hl1 : (0:Int) < ((lg q).length:Int):=by
     have : (lg q).length ≠ 0:=fun h => hq0 (lg_len0.1 h);omega
    have HPD : Hid (pc = List.replicate (9 - D.length) 48 ++ D):=hid (by rw [HPC.out,if_neg hq0]);obtain ⟨k9,hk9⟩ : ∃ k9 : Nat,9 - D.length = k9:=⟨_,rfl⟩;have hk9i : (9:Int) - (D.length:Int) = (k9:Int):=(by omega);clear hq0 HPC;go_wp2_with fail;refine (zeros_any k9 (by omega) w3).mono ?_;rintro e w4 ⟨rfl,hbb⟩;have hown4:=own_below hown3 hbb;have hr4:=hr3.keepB hbb;have hb4:=below_then hb3 hbb hb3.size;clear hr3 hbb hb3 hown3;obtain ⟨Z,hZ⟩ : ∃ Z,List.replicate k9 (48 : UInt8) = Z:=⟨_,rfl⟩;have hzl : Z.length = k9:=(by rw [← hZ]; simp);obtain ⟨T,hT⟩ : ∃ T,Z ++ D = T:=⟨_,rfl⟩;have hadd : ∀ W : World,(Op.stringOp .add ⟨Z.toArray⟩ ⟨D.toArray⟩).run Tryz.prog W = .ok (.string ⟨T.toArray⟩) W:=fun W => by rw [← hT]; exact run_string_add_lists W Z D (by omega) (by omega)
    have HPT : Hid (pc = T):=hid (by rw [HPD.out,hk9,hZ,hT]);have hT1 : 1 ≤ T.length:=(by rw [← hT,List.length_append]; omega);rw [hZ];clear hZ hT hk9i hk9 hzl;obtain ⟨Av,cv,rfl,hrw,_⟩:=own_form hown4;have hrw8 : Row ((w4).alloc (.cells #[strV T] 9)) Av (strL ts):=hrw.keepB ((Below.refl _ (w4)).alloc (Nat.le_refl _) _);have hBW : B ≤ (w4).heap.size:=(by have:=Below.size hb4; rw [HB.out] at this; exact this);have hon8 : ((w4).alloc (.cells #[strV T] 9)).ownsRow B 9 1 (.slice (some ⟨(w4).heap.size,0,none⟩) 1 1) 1 [strV T]:=own_new1 (w4) hBW (strV T) 9;have hbA:=Below.alloc hb4 (Below.size hb4) (.cells #[strV T] 9);have hrA:=Row.keepB hr4 ((Below.refl _ (w4)).alloc (Nat.le_refl _) (.cells #[strV T] 9));clear hrw;go_wp2_with (at_builtin; refine wpList_append_row _ rfl (.tmp 28) (.tmp 29) 50 rfl B 9 is (.string ByteArray.empty) 1 16 Tryz.underlying50 his hsz0 hsz1 hsz2 rfl (by decide) _ 1 [strV T] rfl hon8 Av ts.length cv (strL ts) rfl (by simp [strL]) hrw8 (by simp [Value.oneCell',strL,strV]) (by unfold maxLen; omega) (by omega) (by simp; omega) ?_; intro v8 w8 hown8 hg8 hat8; obtain ⟨A8,c8,rfl,_,_⟩:=own_form hown8);have hbW8 : Below (w4).heap.size (w4) w8:=((Below.refl _ (w4)).alloc (Nat.le_refl _) _).grown hg8 (by simp) (fun k e => by cases e; exact Nat.le_refl _);go_roundw
    case rel =>
     refine ⟨q,A2,c2,pc :: ts,rfl,hqn,HI.out,?_,Row.keepB hr4 hbW8,?_,below_then hb4 hbW8 (Below.size hb4)⟩
     ·intro t ht;rcases List.mem_cons.1 ht with rfl | ht
      ·rw [HPT.out]; exact hT1
      ·exact HTS.out t ht
     ·rw [HPT.out,show (T :: ts).length = 1 + ts.length by simp; omega];exact hown8
    case measure => simp only [lenOf]; omega
end Go.Proofs.YtonehlkiackhcaaGreatDoor
