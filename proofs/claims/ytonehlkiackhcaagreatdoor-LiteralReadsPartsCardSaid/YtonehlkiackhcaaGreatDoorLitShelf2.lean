/- Contracts of Go library functions over this dump, as the kit's command for the shelf lays them in plain words. Nothing is claimed here. -/
import Derived.Test.YtonehlkiackhcaaGreatDoorQTail
import Derived.Shelf.Strings.Trim
import Derived.Shelf.Strings.Cut
import Derived.Shelf.Utf8.AppendRunePlain
import Derived.Shelf.Strings.LastIndex
import Derived.Shelf.Small.Utf8
import Derived.Test.YtonehlkiackhcaaGreatDoorSeqI
import Derived.Test.YtonehlkiackhcaaGreatDoorProg
import Derived.Shelf.Strconv.Lower
import Derived.Shelf.Strconv.ToError
import Derived.Shelf.Strconv.ToErrorRange
import Derived.Shelf.Strings.Runes
import Derived.Shelf.Small.Wraps
set_option linter.unusedVariables false
set_option maxRecDepth 100000
set_option maxHeartbeats 16000000
namespace Go.Proofs.YtonehlkiackhcaaGreatDoor
open Go.Lib
def cutL (l : List UInt8) (a b : Nat) : List UInt8:=(l.drop a).take (b - a)
theorem cutL_len {l : List UInt8} {a b : Nat} (h : b ≤ l.length) : (cutL l a b).length = b - a:=by
 unfold cutL;rw [List.length_take,List.length_drop];omega
theorem cutL_at {l : List UInt8} {a b k : Nat} (h : a + k < b) : at0 (cutL l a b) k = at0 l (a + k):=by
 unfold cutL;rw [at0_take _ _ _ (by omega),at0_drop]
theorem cutL_nil {l : List UInt8} {a b : Nat} (h : b ≤ l.length) : cutL l a b = [] ↔ b ≤ a:=by
 rw [← List.length_eq_zero_iff,cutL_len h];omega
def hexD (c : UInt8) : Option Nat :=
 if 48 ≤ c.toNat ∧ c.toNat ≤ 57 then some (c.toNat - 48)
 else if 97 ≤ c.toNat ∧ c.toNat ≤ 102 then some (c.toNat - 87)
 else if 65 ≤ c.toNat ∧ c.toNat ≤ 70 then some (c.toNat - 55)
 else none
def hexF : Nat → List UInt8 → Option Nat
 | n,[] => some n
 | n,c :: r => match hexD c with
  | none => none
  | some d => if n * 16 + d < 4294967296 then hexF (n * 16 + d) r else none
def hexS (r : List UInt8) : Option Nat:=if r = [] then none else hexF 0 r
theorem hexD_byte {c : UInt8} {d : Nat} (h : hexD c = some d) : c ≠ 92 ∧ isQuo c = false ∧ d < 16 ∧ c ≠ 125:=by
 unfold hexD at h;have hb : 48 ≤ c.toNat ∧ c.toNat ≤ 57 ∨ 97 ≤ c.toNat ∧ c.toNat ≤ 102 ∨ 65 ≤ c.toNat ∧ c.toNat ≤ 70:=by
  split at h
  ·exact .inl ‹_›
  ·split at h
   ·exact .inr (.inl ‹_›)
   ·split at h
    ·exact .inr (.inr ‹_›)
    ·cases h
 have hd : d < 16:=by
  split at h
  ·injection h with h; omega
  ·split at h
   ·injection h with h; omega
   ·split at h
    ·injection h with h; omega
    ·cases h
 refine ⟨by rintro rfl; revert hb; decide,?_,hd,by rintro rfl; revert hb; decide⟩;unfold isQuo;rw [Bool.or_eq_false_iff,beq_eq_false_iff_ne,beq_eq_false_iff_ne];exact ⟨by rintro rfl; revert hb; decide,by rintro rfl; revert hb; decide⟩
theorem hexF_bytes : ∀ (r : List UInt8) (n m : Nat),hexF n r = some m → ∀ j,j < r.length → at0 r j ≠ 92 ∧ isQuo (at0 r j) = false ∧ at0 r j ≠ 125
 | [],_,_,_,j,hj => by simp at hj
 | c :: r,n,m,h,j,hj => by
  unfold hexF at h;cases hd : hexD c with
  | none => rw [hd] at h; cases h
  | some d =>
   rw [hd] at h;simp only at h;split at h
   ·rcases j with _ | j
    ·have:=hexD_byte hd;exact ⟨this.1,this.2.1,this.2.2.2⟩
    ·exact hexF_bytes r _ m h j (by simpa using hj)
   ·cases h
theorem hexS_bytes {r : List UInt8} {m : Nat} (h : hexS r = some m) : r ≠ [] ∧ ∀ j,j < r.length → at0 r j ≠ 92 ∧ isQuo (at0 r j) = false ∧ at0 r j ≠ 125:=by
 unfold hexS at h;split at h
 ·cases h
 ·exact ⟨‹_›,hexF_bytes r 0 m h⟩
theorem hexF_lt : ∀ (r : List UInt8) (n m : Nat),n < 4294967296 → hexF n r = some m → m < 4294967296
 | [],n,m,hn,h => by unfold hexF at h; injection h with h; omega
 | c :: r,n,m,hn,h => by
  unfold hexF at h;cases hd : hexD c with
  | none => rw [hd] at h; cases h
  | some d =>
   rw [hd] at h;simp only at h;split at h
   ·exact hexF_lt r _ m ‹_› h
   ·cases h
theorem hexS_lt {r : List UInt8} {m : Nat} (h : hexS r = some m) : m < 4294967296:=by
 unfold hexS at h;split at h
 ·cases h
 ·exact hexF_lt r 0 m (by decide) h
theorem hexF_pow : ∀ (r : List UInt8) (n m : Nat),hexF n r = some m → m < (n + 1) * 16 ^ r.length
 | [],n,m,h => by unfold hexF at h; injection h with h; simp; omega
 | c :: r,n,m,h => by
  unfold hexF at h;cases hd : hexD c with
  | none => rw [hd] at h; cases h
  | some d =>
   rw [hd] at h;simp only at h;split at h
   ·have h1:=hexF_pow r _ m h;have h2:=(hexD_byte hd).2.2.1;have h3 : (n * 16 + d + 1) * 16 ^ r.length ≤ ((n + 1) * 16) * 16 ^ r.length:=Nat.mul_le_mul (by omega) (Nat.le_refl _);rw [List.length_cons,Nat.pow_succ,Nat.mul_comm (16 ^ r.length) 16,← Nat.mul_assoc];omega
   ·cases h
theorem hexS_pow {r : List UInt8} {m : Nat} (h : hexS r = some m) : m < 16 ^ r.length:=by
 unfold hexS at h;split at h
 ·cases h
 ·have:=hexF_pow r 0 m h;simpa using this
def brcL (l : List UInt8) (x : Sht) (i : Nat) : Nat:=span (· != 125) (cutL l (i + 2) x.lim)
def validR (n : Nat) : Bool:=decide (n < 1114112) && !(decide (55296 ≤ n) && decide (n ≤ 57343))
def escS (l : List UInt8) (x : Sht) (i : Nat) : Option (Nat × Nat) :=
 if at0 l (i + 1) = 110 then some (10,i + 2)
 else if at0 l (i + 1) = 116 then some (9,i + 2)
 else if at0 l (i + 1) = 92 then some (92,i + 2)
 else if at0 l (i + 1) = 34 then some (34,i + 2)
 else if at0 l (i + 1) = 39 then some (39,i + 2)
 else if at0 l (i + 1) = 120 then (if i + 4 ≤ x.lim then (hexS (cutL l (i + 2) (i + 4))).map fun n => (n,i + 4) else none)
 else if at0 l (i + 1) = 117 ∧ x.pre ≠ 98 ∧ at0 l (i + 2) = 123 then
  match hexS (cutL l (i + 3) (i + 2 + brcL l x i)) with
  | none => none
  | some n => if i + 2 + brcL l x i < x.lim ∧ brcL l x i ≤ 7 ∧ validR n = true then some (n,i + 3 + brcL l x i) else none
 else none
def charS (l : List UInt8) (x : Sht) (i : Nat) : Except Nat (Nat × Nat) :=
 if x.pre = 98 ∧ 128 ≤ (decodeL (l.drop i)).1 then .error i
 else if at0 l i ≠ 92 ∨ x.pre = 114 then .ok ((decodeL (l.drop i)).1,i + (decodeL (l.drop i)).2)
 else match escS l x i with
  | none => .error i
  | some r => .ok r
theorem decodeL_head (l : List UInt8) (hne : l ≠ []) : bAt l 0 < 128 ∧ decodeL l = (bAt l 0,1) ∨
  128 ≤ (decodeL l).1 ∧ 1 ≤ (decodeL l).2 ∧ (decodeL l).2 ≤ l.length ∧ (decodeL l).2 ≤ 4 ∧ ∀ j,j < (decodeL l).2 → 128 ≤ bAt l j:=by
 have hl:=List.length_pos_iff.2 hne
 by_cases h0 : bAt l 0 < 128
 ·refine .inl ⟨h0,?_⟩;rw [decodeL_eq];unfold decodeN;rw [if_pos h0]
 ·refine .inr ?_;rcases decodeN_cases l.length (bAt l 0) (bAt l 1) (bAt l 2) (bAt l 3) with ⟨h,_⟩ | h | ⟨hn,h1,h2,c,hc,h⟩ | ⟨hn,h1,h2,h3,c,hc,h⟩ | ⟨hn,h1,h2,h3,h4,c,hc,h⟩
  ·exact absurd h h0
  ·rw [decodeL_eq,h];exact ⟨by simp,by simp,hl,by simp,fun j hj => by simp only at hj; rw [show j = 0 by omega]; omega⟩
  ·have h:=h l.length (bAt l 2) (bAt l 3) hn;rw [decodeL_eq,h];exact ⟨hc,by simp,hn,by simp,fun j hj => by simp only at hj; rcases (show j = 0 ∨ j = 1 by omega) with rfl | rfl <;> omega⟩
  ·have h:=h l.length (bAt l 3) hn;rw [decodeL_eq,h];exact ⟨hc,by simp,hn,by simp,fun j hj => by simp only at hj; rcases (show j = 0 ∨ j = 1 ∨ j = 2 by omega) with rfl | rfl | rfl <;> omega⟩
  ·have h:=h l.length hn;rw [decodeL_eq,h];exact ⟨hc,by simp,hn,by simp,fun j hj => by simp only at hj; rcases (show j = 0 ∨ j = 1 ∨ j = 2 ∨ j = 3 by omega) with rfl | rfl | rfl | rfl <;> omega⟩
theorem bAt_drop (l : List UInt8) (i j : Nat) : bAt (l.drop i) j = (at0 l (i + j)).toNat:=by
 show (at0 (l.drop i) j).toNat = _;rw [at0_drop]
theorem high_byte {c : UInt8} (h : 128 ≤ c.toNat) : c ≠ 92 ∧ isQuo c = false:=by
 refine ⟨by rintro rfl; revert h; decide,?_⟩;unfold isQuo;rw [Bool.or_eq_false_iff,beq_eq_false_iff_ne,beq_eq_false_iff_ne];exact ⟨by rintro rfl; revert h; decide,by rintro rfl; revert h; decide⟩
theorem Gd.brc {l : List UInt8} (hs : Strg l) {i : Nat} (h : Gd l i) (hi : i < (shtOf l).lim) (hc : at0 l i = 92) (hr : (shtOf l).pre ≠ 114) (h3 : at0 l (i + 2) = 123) (hn : at0 l (i + 1) ≠ 10) : i + 2 < (shtOf l).lim:=by
 have h2:=(h.esc hs hi hc hr).2 hn;have hl:=lim_lt hs;rcases Nat.lt_or_ge (i + 2) (shtOf l).lim with h4 | h4
 ·exact h4
 ·exfalso;have h5 : i + 2 = (shtOf l).lim:=(by have:=h2.le; omega);have hp : (quotes (l.drop (strP l))).isPrefixOf (l.drop (i + 2)) = true:=by
   cases hp : (quotes (l.drop (strP l))).isPrefixOf (l.drop (i + 2))
   ·exfalso;have h6:=h2;unfold Gd at h6;rw [se_other _ _ l (i + 2) (i + 2) (by omega) hp (by rw [h3]; rintro ⟨e,_⟩; exact absurd e (by decide)) (by rw [h3]; rintro ⟨e,_⟩; exact absurd e (by decide))] at h6;have:=strEnd_room _ _ _ _ _ _ h6;omega
   ·rfl
  have:=quo_head hs hp;rw [h3] at this;exact absurd this (by decide)
theorem escS_gd {l : List UInt8} (hs : Strg l) {i : Nat} (h : Gd l i) (hi : i < (shtOf l).lim) (hc : at0 l i = 92) (hr : (shtOf l).pre ≠ 114) {n j : Nat} (he : escS l (shtOf l) i = some (n,j)) : Gd l j ∧ i < j ∧ n < 1114112:=by
 have hl:=lim_lt hs;have hE:=h.esc hs hi hc hr;have hb : ∀ c : UInt8,c.toNat < 1114112:=fun c => Nat.lt_trans c.toNat_lt (by decide);unfold escS at he;split at he
 ·rename_i h1;injection he with he;injection he with h2 h3;subst h2 h3;exact ⟨hE.2 (by rw [h1]; decide),by omega,by decide⟩
 split at he
 ·rename_i h1;injection he with he;injection he with h2 h3;subst h2 h3;exact ⟨hE.2 (by rw [h1]; decide),by omega,by decide⟩
 split at he
 ·rename_i h1;injection he with he;injection he with h2 h3;subst h2 h3;exact ⟨hE.2 (by rw [h1]; decide),by omega,by decide⟩
 split at he
 ·rename_i h1;injection he with he;injection he with h2 h3;subst h2 h3;exact ⟨hE.2 (by rw [h1]; decide),by omega,by decide⟩
 split at he
 ·rename_i h1;injection he with he;injection he with h2 h3;subst h2 h3;exact ⟨hE.2 (by rw [h1]; decide),by omega,by decide⟩
 split at he
 ·rename_i h1;split at he
  ·rename_i h4;cases hx : hexS (cutL l (i + 2) (i + 4)) with
   | none => rw [hx] at he; cases he
   | some m =>
    rw [hx] at he;simp only [Option.map_some] at he;injection he with he;injection he with h2 h3;subst h2 h3;have hcl:=cutL_len (l:=l) (a:=i + 2) (b:=i + 4) (by omega);have hbt:=(hexS_bytes hx).2;have hrun:=Gd.run hs 2 (hE.2 (by rw [h1]; decide)) (fun j hj => by
     have:=hbt j (by omega);rw [cutL_at (by omega)] at this;exact ⟨this.1,this.2.1⟩) (by omega)
    have hp:=hexS_pow hx;rw [hcl,show i + 4 - (i + 2) = 2 by omega] at hp;exact ⟨hrun.1,by omega,by omega⟩
  ·cases he
 split at he
 ·rename_i h1;obtain ⟨h1,_,h5⟩:=h1;have hn10 : at0 l (i + 1) ≠ 10:=(by rw [h1]; decide);have hlt:=h.brc hs hi hc hr h5 hn10;cases hx : hexS (cutL l (i + 3) (i + 2 + brcL l (shtOf l) i)) with
  | none => rw [hx] at he; cases he
  | some m =>
   rw [hx] at he;simp only at he;split at he
   ·rename_i h4;injection he with he;injection he with h2 h3;subst h2 h3;have hcl:=cutL_len (l:=l) (a:=i + 3) (b:=i + 2 + brcL l (shtOf l) i) (by omega);have hbt:=hexS_bytes hx;have hclose : at0 l (i + 2 + brcL l (shtOf l) i) = 125:=by
     have hsp:=(span_spec (· != 125) (cutL l (i + 2) (shtOf l).lim)).2 (by rw [cutL_len (by omega)]; have:=h4.1; unfold brcL at this; omega);rw [cutL_at (by have:=h4.1; unfold brcL at this; omega)] at hsp;show at0 l (i + 2 + span (· != 125) (cutL l (i + 2) (shtOf l).lim)) = 125;simpa using hsp
    have hrun:=Gd.run hs (1 + brcL l (shtOf l) i) (hE.2 hn10) (fun j hj => by
     rcases Nat.lt_or_ge j 1 with hj0 | hj0
     ·rw [show j = 0 by omega,Nat.add_zero,h5];exact ⟨by decide,by decide⟩
     ·rcases Nat.lt_or_ge j (brcL l (shtOf l) i) with hj1 | hj1
      ·have:=hbt.2 (j - 1) (by omega);rw [cutL_at (by omega),show i + 3 + (j - 1) = i + 2 + j by omega] at this;exact ⟨this.1,this.2.1⟩
      ·rw [show j = brcL l (shtOf l) i by omega,hclose];exact ⟨by decide,by decide⟩) (by omega)
    have hv:=h4.2.2;unfold validR at hv;rw [Bool.and_eq_true,decide_eq_true_eq] at hv;exact ⟨by have:=hrun.1; rwa [show i + 2 + (1 + brcL l (shtOf l) i) = i + 3 + brcL l (shtOf l) i by omega] at this,by omega,hv.1⟩
   ·cases he
 ·cases he
theorem decodeL_lt (l : List UInt8) : (decodeL l).1 < 1114112:=by
 rw [decodeL_eq];have h0:=bAt_lt l 0;unfold decodeN;split
 ·simp only; omega
 ·split
  ·split
   ·simp only; omega
   ·decide
  ·split
   ·split
    ·simp only; omega
    ·decide
   ·split
    ·split
     ·simp only; omega
     ·decide
    ·decide
theorem charS_gd {l : List UInt8} (hs : Strg l) {i : Nat} (h : Gd l i) (hi : i < (shtOf l).lim) {n j : Nat} (he : charS l (shtOf l) i = .ok (n,j)) : Gd l j ∧ i < j ∧ n < 1114112:=by
 have hl:=lim_lt hs;have hne : l.drop i ≠ []:=fun e => by
  have:=congrArg List.length e;rw [List.length_drop] at this;simp at this;omega
 unfold charS at he;split at he
 ·cases he
 split at he
 ·rename_i h1;injection he with he;injection he with h2 h3;subst h2 h3;refine ⟨?_,?_,decodeL_lt _⟩
  ·rcases decodeL_head (l.drop i) hne with ⟨hb,hd⟩ | ⟨hc,h1',h2,h4,hb⟩
   ·rw [hd];exact h.next hs hi (fun e => h1.elim (fun e2 => e2 e.1) (fun e2 => e.2.1 e2))
   ·rw [List.length_drop] at h2;exact (Gd.run hs _ h (fun j hj => by
     have:=hb j hj;rw [bAt_drop] at this;exact high_byte this) (by omega)).1
  ·have:=width_pos (l.drop i) hne;omega
 ·rename_i h1;simp only [not_or,Decidable.not_not] at h1;cases hx : escS l (shtOf l) i with
  | none => rw [hx] at he; cases he
  | some r =>
   rw [hx] at he;injection he with he;subst he;exact escS_gd hs h hi h1.1 h1.2 hx
end Go.Proofs.YtonehlkiackhcaaGreatDoor

namespace Go.Proofs
open Go.Shelf
def Tryz.lays160_ren : Go.Shelf.Ren:=⟨fun | 160 => 81 | 232 => 110 | 231 => 109 | 227 => 111 | 234 => 113 | 233 => 112 | 236 => 115 | 235 => 114 | 228 => 142 | 271 => 144 | 151 => 143 | 197 => 84 | 120 => 181 | 152 => 78 | 260 => 121 | 137 => 87 | 119 => 88 | 224 => 106 | 225 => 107 | 217 => 124 | 266 => 160 | n => n,fun | 9 => 9 | 4 => 4 | 3 => 3 | 5 => 5 | 117 => 172 | 116 => 171 | 0 => 0 | 124 => 175 | 21 => 21 | 105 => 131 | 46 => 121 | 119 => 160 | 139 => 163 | 138 => 162 | n => n,fun | 3 => 0 | 4 => 1 | n => n⟩
theorem Tryz.lays160 : Go.Proofs.Lays.n160 Tryz.prog Tryz.lays160_ren:={
 mixed:=by kernel_rfl
 f119:=Tryz.func88.trans (congrArg some (by kernel_rfl))
 f120:=Tryz.func181.trans (congrArg some (by kernel_rfl))
 f137:=Tryz.func87.trans (congrArg some (by kernel_rfl))
 f151:=Tryz.func143.trans (congrArg some (by kernel_rfl))
 f152:=Tryz.func78.trans (congrArg some (by kernel_rfl))
 f160:=Tryz.func81.trans (congrArg some (by kernel_rfl))
 f197:=Tryz.func84.trans (congrArg some (by kernel_rfl))
 f217:=Tryz.func124.trans (congrArg some (by kernel_rfl))
 f224:=Tryz.func106.trans (congrArg some (by kernel_rfl))
 f225:=Tryz.func107.trans (congrArg some (by kernel_rfl))
 f227:=Tryz.func111.trans (congrArg some (by kernel_rfl))
 f228:=Tryz.func142.trans (congrArg some (by kernel_rfl))
 f231:=Tryz.func109.trans (congrArg some (by kernel_rfl))
 f232:=Tryz.func110.trans (congrArg some (by kernel_rfl))
 f233:=Tryz.func112.trans (congrArg some (by kernel_rfl))
 f234:=Tryz.func113.trans (congrArg some (by kernel_rfl))
 f235:=Tryz.func114.trans (congrArg some (by kernel_rfl))
 f236:=Tryz.func115.trans (congrArg some (by kernel_rfl))
 f260:=Tryz.func121.trans (congrArg some (by kernel_rfl))
 f266:=Tryz.func160.trans (congrArg some (by kernel_rfl))
 f271:=Tryz.func144.trans (congrArg some (by kernel_rfl))
 t0:=Tryz.underlying0
 a0:=Tryz.isAgg0
 z0:=Tryz.sizeOf0
 v0:=Tryz.zeroValue0
 t3:=Tryz.underlying3
 a3:=Tryz.isAgg3
 z3:=Tryz.sizeOf3
 v3:=Tryz.zeroValue3
 t4:=Tryz.underlying4
 a4:=Tryz.isAgg4
 z4:=Tryz.sizeOf4
 v4:=Tryz.zeroValue4
 t5:=Tryz.underlying5
 a5:=Tryz.isAgg5
 z5:=Tryz.sizeOf5
 v5:=Tryz.zeroValue5
 t9:=Tryz.underlying9
 a9:=Tryz.isAgg9
 z9:=Tryz.sizeOf9
 v9:=Tryz.zeroValue9
 t21:=Tryz.underlying21
 a21:=Tryz.isAgg21
 z21:=Tryz.sizeOf21
 v21:=Tryz.zeroValue21
 t46:=Tryz.underlying121
 a46:=Tryz.isAgg121
 z46:=Tryz.sizeOf121
 v46:=Tryz.zeroValue121
 t105:=Tryz.underlying131
 a105:=Tryz.isAgg131
 z105:=Tryz.sizeOf131
 v105:=Tryz.zeroValue131
 t116:=Tryz.underlying171
 a116:=Tryz.isAgg171
 z116:=Tryz.sizeOf171
 t117:=Tryz.underlying172
 a117:=Tryz.isAgg172
 z117:=Tryz.sizeOf172
 v117:=Tryz.zeroValue172
 t119:=Tryz.underlying160
 a119:=Tryz.isAgg160
 z119:=Tryz.sizeOf160
 t124:=Tryz.underlying175
 a124:=Tryz.isAgg175
 z124:=Tryz.sizeOf175
 v124:=Tryz.zeroValue175
 t138:=Tryz.underlying162
 a138:=Tryz.isAgg162
 z138:=Tryz.sizeOf162
 v138:=Tryz.zeroValue162
 t139:=Tryz.underlying163
 a139:=Tryz.isAgg163
 z139:=Tryz.sizeOf163
 v139:=Tryz.zeroValue163
 g3:=by kernel_rfl
 g4:=by kernel_rfl }
open Go.RowKit in
theorem Tryz.strings_Trim_one (s : ByteArray) (c : UInt8) (hc : c.toNat < 128) (w : World) (hs : s.size ≤ 9223372036854775807) :
  Calls Tryz.prog 81 #[.string s,.string ⟨#[c]⟩] w fun e w' => e = .returned (.string ⟨(Lib.trimB s.data.toList c).toArray⟩) ∧ (w' = w ∨ w' = w.drew):=Any.strings_Trim_one Tryz.lays160 s c hc w hs
def Tryz.lays119_ren : Go.Shelf.Ren:=⟨fun | 119 => 88 | n => n,fun | 21 => 21 | 4 => 4 | n => n,fun | n => n⟩
theorem Tryz.lays119 : Go.Proofs.Lays.n119 Tryz.prog Tryz.lays119_ren:={
 mixed:=by kernel_rfl
 f119:=Tryz.func88.trans (congrArg some (by kernel_rfl))
 t4:=Tryz.underlying4
 a4:=Tryz.isAgg4
 z4:=Tryz.sizeOf4
 v4:=Tryz.zeroValue4
 t21:=Tryz.underlying21
 a21:=Tryz.isAgg21
 z21:=Tryz.sizeOf21
 v21:=Tryz.zeroValue21 }
theorem Tryz.utf8_ValidRune (r : Int) (w : World) :
  Calls Tryz.prog 88 #[.int .i32 r] w fun e w' => e = .returned (.bool (Lib.validRune r)) ∧ w' = w:=Any.utf8_ValidRune Tryz.lays119 r w
def Tryz.lays242_ren : Go.Shelf.Ren:=⟨fun | 242 => 46 | 278 => 89 | n => n,fun | 37 => 71 | 21 => 21 | 51 => 63 | 4 => 4 | 5 => 5 | 46 => 121 | n => n,fun | n => n⟩
theorem Tryz.lays242 : Go.Proofs.Lays.n242 Tryz.prog Tryz.lays242_ren:={
 mixed:=by kernel_rfl
 f242:=Tryz.func46.trans (congrArg some (by kernel_rfl))
 f278:=Tryz.func89.trans (congrArg some (by kernel_rfl))
 t4:=Tryz.underlying4
 a4:=Tryz.isAgg4
 z4:=Tryz.sizeOf4
 v4:=Tryz.zeroValue4
 t5:=Tryz.underlying5
 a5:=Tryz.isAgg5
 z5:=Tryz.sizeOf5
 v5:=Tryz.zeroValue5
 t21:=Tryz.underlying21
 a21:=Tryz.isAgg21
 z21:=Tryz.sizeOf21
 v21:=Tryz.zeroValue21
 t37:=Tryz.underlying71
 a37:=Tryz.isAgg71
 z37:=Tryz.sizeOf71
 v37:=Tryz.zeroValue71
 t46:=Tryz.underlying121
 a46:=Tryz.isAgg121
 z46:=Tryz.sizeOf121
 v46:=Tryz.zeroValue121
 t51:=Tryz.underlying63
 a51:=Tryz.isAgg63
 z51:=Tryz.sizeOf63
 v51:=Tryz.zeroValue63 }
open Go.RowKit in
theorem Tryz.utf8_AppendRune_plain (B : Nat) (v : Value) (n : Nat) (xs : List Value) (r : Int) (hr0 : -2147483648 ≤ r) (hr1 : r ≤ 2147483647) (w : World) (hown : w.ownsRow B 5 1 v n xs) (hlen : n + 4 ≤ 140737488355328) (hBw : B ≤ w.heap.size) :
  Calls Tryz.prog 46 #[v,.int .i32 r] w fun e w' => ∃ v',e = .returned v' ∧ w'.ownsRow B 5 1 v' (n + (Lib.runeCells r).length) (xs ++ Lib.runeCells r) ∧ ∃ o,(w.alloc o).grownBy w' v.ownBlock:=Any.utf8_AppendRune_plain Tryz.lays242 (by kernel_rfl) B v n xs r hr0 hr1 w hown hlen hBw
def Tryz.lays145_ren : Go.Shelf.Ren:=⟨fun | 145 => 37 | 220 => 80 | 219 => 108 | 217 => 124 | 225 => 107 | 224 => 106 | 267 => 141 | 266 => 160 | 314 => 180 | n => n,fun | 9 => 9 | 4 => 4 | 59 => 58 | 3 => 3 | 5 => 5 | 46 => 121 | 146 => 198 | 51 => 63 | n => n,fun | 1 => 2 | n => n⟩
theorem Tryz.lays145 : Go.Proofs.Lays.n145 Tryz.prog Tryz.lays145_ren:={
 mixed:=by kernel_rfl
 f145:=Tryz.func37.trans (congrArg some (by kernel_rfl))
 f217:=Tryz.func124.trans (congrArg some (by kernel_rfl))
 f219:=Tryz.func108.trans (congrArg some (by kernel_rfl))
 f220:=Tryz.func80.trans (congrArg some (by kernel_rfl))
 f224:=Tryz.func106.trans (congrArg some (by kernel_rfl))
 f225:=Tryz.func107.trans (congrArg some (by kernel_rfl))
 f266:=Tryz.func160.trans (congrArg some (by kernel_rfl))
 f267:=Tryz.func141.trans (congrArg some (by kernel_rfl))
 f314:=Tryz.func180.trans (congrArg some (by kernel_rfl))
 t3:=Tryz.underlying3
 a3:=Tryz.isAgg3
 z3:=Tryz.sizeOf3
 v3:=Tryz.zeroValue3
 t4:=Tryz.underlying4
 a4:=Tryz.isAgg4
 z4:=Tryz.sizeOf4
 v4:=Tryz.zeroValue4
 t5:=Tryz.underlying5
 a5:=Tryz.isAgg5
 z5:=Tryz.sizeOf5
 v5:=Tryz.zeroValue5
 t9:=Tryz.underlying9
 a9:=Tryz.isAgg9
 z9:=Tryz.sizeOf9
 v9:=Tryz.zeroValue9
 t46:=Tryz.underlying121
 a46:=Tryz.isAgg121
 z46:=Tryz.sizeOf121
 v46:=Tryz.zeroValue121
 t51:=Tryz.underlying63
 a51:=Tryz.isAgg63
 z51:=Tryz.sizeOf63
 v51:=Tryz.zeroValue63
 t59:=Tryz.underlying58
 a59:=Tryz.isAgg58
 z59:=Tryz.sizeOf58
 v59:=Tryz.zeroValue58
 t146:=Tryz.underlying198
 a146:=Tryz.isAgg198
 z146:=Tryz.sizeOf198
 v146:=Tryz.zeroValue198
 g1:=by kernel_rfl }
open Go.RowKit Go.Lib in
theorem Tryz.strings_Cut (s sep : ByteArray) (m : Int) (w : World) (hs : s.size < 4294967281) (hm : w.cell? ⟨2,0,none⟩ = some (.int .i64 m)) :
  Calls Tryz.prog 37 #[.string s,.string sep] w fun e w' => e = .returned (.tuple #[.string ⟨(Lib.cut s.data.toList sep.data.toList).1.toArray⟩,.string ⟨(Lib.cut s.data.toList sep.data.toList).2.1.toArray⟩,.bool (Lib.cut s.data.toList sep.data.toList).2.2]) ∧ ∃ n,w' = w.drewN n:=Any.strings_Cut Tryz.lays145 s sep m w hs hm
def Tryz.lays149_ren : Go.Shelf.Ren:=⟨fun | 149 => 85 | 222 => 122 | n => n,fun | 9 => 9 | 5 => 5 | 3 => 3 | 4 => 4 | n => n,fun | n => n⟩
theorem Tryz.lays149 : Go.Proofs.Lays.n149 Tryz.prog Tryz.lays149_ren:={
 mixed:=by kernel_rfl
 f149:=Tryz.func85.trans (congrArg some (by kernel_rfl))
 f222:=Tryz.func122.trans (congrArg some (by kernel_rfl))
 t3:=Tryz.underlying3
 a3:=Tryz.isAgg3
 z3:=Tryz.sizeOf3
 v3:=Tryz.zeroValue3
 t4:=Tryz.underlying4
 a4:=Tryz.isAgg4
 z4:=Tryz.sizeOf4
 v4:=Tryz.zeroValue4
 t5:=Tryz.underlying5
 a5:=Tryz.isAgg5
 z5:=Tryz.sizeOf5
 v5:=Tryz.zeroValue5
 t9:=Tryz.underlying9
 a9:=Tryz.isAgg9
 z9:=Tryz.sizeOf9
 v9:=Tryz.zeroValue9 }
open Go.RowKit Go.Lib in
theorem Tryz.strings_LastIndexByte (s : ByteArray) (c : Int) (hs : s.size < 4611686018427387904) (w : World) :
  Calls Tryz.prog 85 #[.string s,.int .u8 c] w fun e w' => e = .returned (.int .i64 (Lib.lastIndexByte s c)) ∧ w' = w:=Any.strings_LastIndexByte Tryz.lays149 s c hs w
end Go.Proofs

namespace Go.Proofs
open Go.Shelf
def Tryz.lays121_ren : Go.Shelf.Ren:=⟨fun | 121 => 22 | 214 => 70 | n => n,fun | 4 => 4 | 9 => 9 | n => n,fun | n => n⟩
open Go.RowKit in
def Tryz.laysC245_ren : Go.Shelf.Ren:=⟨fun | 245 => 159 | 279 => 195 | 280 => 196 | 281 => 197 | 282 => 198 | 316 => 216 | 171 => 72 | 205 => 217 | 243 => 103 | 246 => 137 | 283 => 175 | 284 => 176 | 285 => 177 | 286 => 178 | 129 => 210 | 317 => 209 | 318 => 211 | 319 => 212 | 320 => 213 | 337 => 232 | 338 => 233 | n => n,fun | 9 => 9 | 3 => 3 | 75 => 101 | 167 => 238 | 4 => 4 | 168 => 240 | 210 => 272 | 37 => 71 | 0 => 0 | 127 => 158 | 145 => 300 | 143 => 298 | 2 => 2 | 171 => 226 | 53 => 164 | 5 => 5 | 173 => 229 | 212 => 261 | 51 => 63 | 20 => 20 | 213 => 262 | 46 => 121 | 232 => 308 | 233 => 309 | 80 => 54 | n => n,fun | 15 => 6 | 16 => 7 | 17 => 4 | 18 => 9 | 19 => 10 | n => n⟩
theorem Tryz.laysC245 : Go.Proofs.LaysC.n245 Tryz.prog Tryz.laysC245_ren:={
 mixed:=by kernel_rfl
 f129:=Tryz.func210.trans (congrArg some (by kernel_rfl))
 f171:=Tryz.func72.trans (congrArg some (by kernel_rfl))
 f205:=Tryz.func217.trans (congrArg some (by kernel_rfl))
 f243:=Tryz.func103.trans (congrArg some (by kernel_rfl))
 f245:=Tryz.func159.trans (congrArg some (by kernel_rfl))
 f246:=Tryz.func137.trans (congrArg some (by kernel_rfl))
 f279:=Tryz.func195.trans (congrArg some (by kernel_rfl))
 f280:=Tryz.func196.trans (congrArg some (by kernel_rfl))
 f281:=Tryz.func197.trans (congrArg some (by kernel_rfl))
 f282:=Tryz.func198.trans (congrArg some (by kernel_rfl))
 f283:=Tryz.func175.trans (congrArg some (by kernel_rfl))
 f284:=Tryz.func176.trans (congrArg some (by kernel_rfl))
 f285:=Tryz.func177.trans (congrArg some (by kernel_rfl))
 f286:=Tryz.func178.trans (congrArg some (by kernel_rfl))
 f316:=Tryz.func216.trans (congrArg some (by kernel_rfl))
 f317:=Tryz.func209.trans (congrArg some (by kernel_rfl))
 f318:=Tryz.func211.trans (congrArg some (by kernel_rfl))
 f319:=Tryz.func212.trans (congrArg some (by kernel_rfl))
 f320:=Tryz.func213.trans (congrArg some (by kernel_rfl))
 f337:=Tryz.func232.trans (congrArg some (by kernel_rfl))
 f338:=Tryz.func233.trans (congrArg some (by kernel_rfl))
 t0:=Tryz.underlying0
 a0:=Tryz.isAgg0
 z0:=Tryz.sizeOf0
 v0:=Tryz.zeroValue0
 t2:=Tryz.underlying2
 a2:=Tryz.isAgg2
 z2:=Tryz.sizeOf2
 v2:=Tryz.zeroValue2
 t3:=Tryz.underlying3
 a3:=Tryz.isAgg3
 z3:=Tryz.sizeOf3
 v3:=Tryz.zeroValue3
 t4:=Tryz.underlying4
 a4:=Tryz.isAgg4
 z4:=Tryz.sizeOf4
 v4:=Tryz.zeroValue4
 t5:=Tryz.underlying5
 a5:=Tryz.isAgg5
 z5:=Tryz.sizeOf5
 v5:=Tryz.zeroValue5
 t9:=Tryz.underlying9
 a9:=Tryz.isAgg9
 z9:=Tryz.sizeOf9
 v9:=Tryz.zeroValue9
 t20:=Tryz.underlying20
 a20:=Tryz.isAgg20
 z20:=Tryz.sizeOf20
 v20:=Tryz.zeroValue20
 t37:=Tryz.underlying71
 a37:=Tryz.isAgg71
 z37:=Tryz.sizeOf71
 v37:=Tryz.zeroValue71
 t46:=Tryz.underlying121
 a46:=Tryz.isAgg121
 z46:=Tryz.sizeOf121
 v46:=Tryz.zeroValue121
 t51:=Tryz.underlying63
 a51:=Tryz.isAgg63
 z51:=Tryz.sizeOf63
 v51:=Tryz.zeroValue63
 t53:=Tryz.underlying164
 a53:=Tryz.isAgg164
 z53:=Tryz.sizeOf164
 v53:=Tryz.zeroValue164
 t75:=Tryz.underlying101
 a75:=Tryz.isAgg101
 z75:=Tryz.sizeOf101
 v75:=Tryz.zeroValue101
 t127:=Tryz.underlying158
 a127:=Tryz.isAgg158
 z127:=Tryz.sizeOf158
 v127:=Tryz.zeroValue158
 t143:=Tryz.underlying298
 a143:=Tryz.isAgg298
 z143:=Tryz.sizeOf298
 v143:=Tryz.zeroValue298
 t145:=Tryz.underlying300
 a145:=Tryz.isAgg300
 z145:=Tryz.sizeOf300
 v145:=Tryz.zeroValue300
 t167:=Tryz.underlying238
 a167:=Tryz.isAgg238
 z167:=Tryz.sizeOf238
 v167:=Tryz.zeroValue238
 t168:=Tryz.underlying240
 a168:=Tryz.isAgg240
 z168:=Tryz.sizeOf240
 v168:=Tryz.zeroValue240
 t171:=Tryz.underlying226
 a171:=Tryz.isAgg226
 z171:=Tryz.sizeOf226
 v171:=Tryz.zeroValue226
 t173:=Tryz.underlying229
 a173:=Tryz.isAgg229
 z173:=Tryz.sizeOf229
 v173:=Tryz.zeroValue229
 t210:=Tryz.underlying272
 a210:=Tryz.isAgg272
 z210:=Tryz.sizeOf272
 v210:=Tryz.zeroValue272
 t212:=Tryz.underlying261
 a212:=Tryz.isAgg261
 z212:=Tryz.sizeOf261
 v212:=Tryz.zeroValue261
 t213:=Tryz.underlying262
 a213:=Tryz.isAgg262
 z213:=Tryz.sizeOf262
 t232:=Tryz.underlying308
 a232:=Tryz.isAgg308
 z232:=Tryz.sizeOf308
 v232:=Tryz.zeroValue308
 t233:=Tryz.underlying309
 a233:=Tryz.isAgg309
 z233:=Tryz.sizeOf309
 v233:=Tryz.zeroValue309
 g15:=by kernel_rfl
 g16:=by kernel_rfl
 g17:=by kernel_rfl
 g18:=by kernel_rfl
 g19:=by kernel_rfl
 t80:=Tryz.underlying54
 a80:=Tryz.isAgg54
 z80:=Tryz.sizeOf54
 v80:=Tryz.zeroValue54
 i0:=by kernel_rfl
 i2:=by kernel_rfl
 i3:=by kernel_rfl
 i4:=by kernel_rfl
 i5:=by kernel_rfl
 i9:=by kernel_rfl
 i20:=by kernel_rfl
 i37:=by kernel_rfl
 i46:=by kernel_rfl
 i51:=by kernel_rfl
 i53:=by kernel_rfl
 i75:=by kernel_rfl
 i80:=by kernel_rfl
 i127:=by kernel_rfl
 i143:=by kernel_rfl
 i145:=by kernel_rfl
 i167:=by kernel_rfl
 i168:=by kernel_rfl
 i171:=by kernel_rfl
 i173:=by kernel_rfl
 i210:=by kernel_rfl
 i212:=by kernel_rfl
 i232:=by kernel_rfl
 i233:=by kernel_rfl
 m15:=by kernel_rfl
 m16:=by kernel_rfl
 m17:=by kernel_rfl
 m18:=by kernel_rfl
 m19:=by kernel_rfl
 c0:=by kernel_rfl
 c2:=by kernel_rfl
 c3:=by kernel_rfl
 c4:=by kernel_rfl
 c5:=by kernel_rfl
 c9:=by kernel_rfl
 c20:=by kernel_rfl
 c37:=by kernel_rfl
 c46:=by kernel_rfl
 c51:=by kernel_rfl
 c53:=by kernel_rfl
 c75:=by kernel_rfl
 c80:=by kernel_rfl
 c127:=by kernel_rfl
 c143:=by kernel_rfl
 c145:=by kernel_rfl
 c167:=by kernel_rfl
 c168:=by kernel_rfl
 c171:=by kernel_rfl
 c173:=by kernel_rfl
 c210:=by kernel_rfl
 c212:=by kernel_rfl
 c213:=by kernel_rfl
 c232:=by kernel_rfl
 c233:=by kernel_rfl }
open Go.RowKit in
theorem Tryz.strconv_toError_syntax (fn s : ByteArray) (base bits : Int) (ev : Value) (w : World) (hlim : s.size ≤ 281474976710656) (hv : w.cell? ⟨6,0,none⟩ = some ev) (hev : ev = .nilIface ∨ ∃ te pe,ev = .iface te pe) :
  Calls Tryz.prog 159 #[.string fn,.string s,.int .i64 base,.int .i64 bits,.iface 238 (.int .i64 2)] w fun e w' => ∃ N,e = .returned (.iface 240 (.pointer (some ⟨N,0,none⟩))) ∧ w.heap.size ≤ N ∧ w'.heap[N]? = some (.cells #[.string fn,.string s,ev] 272 (0,0)) ∧ Below w.heap.size w w':=Any.strconv_toError_syntax Tryz.laysC245 fn s base bits ev w hlim hv hev
def Tryz.lays321_ren : Go.Shelf.Ren:=⟨fun | 321 => 193 | n => n,fun | 5 => 5 | n => n,fun | n => n⟩
theorem Tryz.lays321 : Go.Proofs.Lays.n321 Tryz.prog Tryz.lays321_ren:={
 mixed:=by kernel_rfl
 f321:=Tryz.func193.trans (congrArg some (by kernel_rfl))
 t5:=Tryz.underlying5
 a5:=Tryz.isAgg5
 z5:=Tryz.sizeOf5
 v5:=Tryz.zeroValue5 }
open Go.RowKit in
theorem Tryz.internal_strconv_lower (c : Int) (w : World) :
  Calls Tryz.prog 193 #[.int .u8 c] w fun e w' => e = .returned (.int .u8 (bits .or .u8 c 32)) ∧ w' = w:=Any.internal_strconv_lower Tryz.lays321 c w
open Go.RowKit in
theorem Tryz.strconv_toError_range (fn s : ByteArray) (base bits : Int) (ev : Value) (w : World) (hlim : s.size ≤ 281474976710656) (hv : w.cell? ⟨7,0,none⟩ = some ev) (hev : ev = .nilIface ∨ ∃ te pe,ev = .iface te pe) :
  Calls Tryz.prog 159 #[.string fn,.string s,.int .i64 base,.int .i64 bits,.iface 238 (.int .i64 1)] w fun e w' => ∃ N,e = .returned (.iface 240 (.pointer (some ⟨N,0,none⟩))) ∧ w.heap.size ≤ N ∧ w'.heap[N]? = some (.cells #[.string fn,.string s,ev] 272 (0,0)) ∧ Below w.heap.size w w':=Any.strconv_toError_range Tryz.laysC245 fn s base bits ev w hlim hv hev
def Tryz.lays152_ren : Go.Shelf.Ren:=⟨fun | 152 => 78 | 137 => 87 | 119 => 88 | 224 => 106 | 225 => 107 | 217 => 124 | 266 => 160 | n => n,fun | 9 => 9 | 21 => 21 | 3 => 3 | 4 => 4 | 5 => 5 | 0 => 0 | 46 => 121 | n => n,fun | n => n⟩
theorem Tryz.lays152 : Go.Proofs.Lays.n152 Tryz.prog Tryz.lays152_ren:={
 mixed:=by kernel_rfl
 f119:=Tryz.func88.trans (congrArg some (by kernel_rfl))
 f137:=Tryz.func87.trans (congrArg some (by kernel_rfl))
 f152:=Tryz.func78.trans (congrArg some (by kernel_rfl))
 f217:=Tryz.func124.trans (congrArg some (by kernel_rfl))
 f224:=Tryz.func106.trans (congrArg some (by kernel_rfl))
 f225:=Tryz.func107.trans (congrArg some (by kernel_rfl))
 f266:=Tryz.func160.trans (congrArg some (by kernel_rfl))
 t0:=Tryz.underlying0
 a0:=Tryz.isAgg0
 z0:=Tryz.sizeOf0
 v0:=Tryz.zeroValue0
 t3:=Tryz.underlying3
 a3:=Tryz.isAgg3
 z3:=Tryz.sizeOf3
 v3:=Tryz.zeroValue3
 t4:=Tryz.underlying4
 a4:=Tryz.isAgg4
 z4:=Tryz.sizeOf4
 v4:=Tryz.zeroValue4
 t5:=Tryz.underlying5
 a5:=Tryz.isAgg5
 z5:=Tryz.sizeOf5
 v5:=Tryz.zeroValue5
 t9:=Tryz.underlying9
 a9:=Tryz.isAgg9
 z9:=Tryz.sizeOf9
 v9:=Tryz.zeroValue9
 t21:=Tryz.underlying21
 a21:=Tryz.isAgg21
 z21:=Tryz.sizeOf21
 v21:=Tryz.zeroValue21
 t46:=Tryz.underlying121
 a46:=Tryz.isAgg121
 z46:=Tryz.sizeOf121
 v46:=Tryz.zeroValue121 }
open Go.RowKit Go.Lib in
theorem Tryz.strings_IndexRune_ascii (s : ByteArray) (r : Int) (w : World) (h0 : 0 ≤ r) (h1 : r < 128) :
  Calls Tryz.prog 78 #[.string s,.int .i32 r] w fun e w' => e = .returned (.int .i64 (Lib.indexByte s.data.toList r.toNat.toUInt8)) ∧ w' = w:=Any.strings_IndexRune_ascii Tryz.lays152 s r w h0 h1
end Go.Proofs
