/- The literals: a finite fraction's numeral. Nothing is claimed here. -/
import Derived.Test.YtonehlkiackhcaaGreatDoorRefV
set_option linter.unusedVariables false
set_option linter.unusedSimpArgs false
set_option maxRecDepth 100000
set_option maxHeartbeats 16000000
namespace Go.Proofs.YtonehlkiackhcaaGreatDoor
section
open Go.RowKit Go.Lib Go.Sort
def padL : Nat → Nat → List UInt8
 | 0,_ => []
 | k + 1,r => padL k (r / 10) ++ [UInt8.ofNat (48 + r % 10)]
theorem dec_split (m:Nat) (hm : 1 ≤ m) : ∀ (k r:Nat),r < 10 ^ k → decDigits (m * 10 ^ k + r) = decDigits m ++ padL k r
 | 0,r,h => by
  have : r = 0:=(by simpa using h);subst this;simp [padL]
 | k + 1,r,h => by
  have h10 : 10 ^ (k + 1) = 10 * 10 ^ k:=(by rw [Nat.pow_succ,Nat.mul_comm]);have e1 : m * 10 ^ (k + 1) = 10 * (m * 10 ^ k):=(by rw [h10,← Nat.mul_assoc,← Nat.mul_assoc,Nat.mul_comm m 10]);have hp : 1 ≤ m * 10 ^ k:=Nat.mul_pos hm (Nat.pos_of_ne_zero (by intro h; rw [Nat.pow_eq_zero] at h; omega));have hd : (m * 10 ^ (k + 1) + r) / 10 = m * 10 ^ k + r / 10:=(by omega);have hmod : (m * 10 ^ (k + 1) + r) % 10 = r % 10:=(by omega);have ih:=dec_split m hm k (r / 10) (by omega);rw [decDigits,dif_neg (by omega),hd,hmod,ih,padL,List.append_assoc]
theorem padL_zero : ∀ k : Nat,padL k 0 = List.replicate k 48
 | 0 => rfl
 | k + 1 => by rw [padL,Nat.zero_div,padL_zero k,List.replicate_succ']; rfl
theorem padL_eq : ∀ (k r:Nat),r < 10 ^ (k + 1) → padL (k + 1) r = List.replicate (k + 1 - (decDigits r).length) 48 ++ decDigits r∧(decDigits r).length ≤ k + 1∧1 ≤ (decDigits r).length
 | 0,r,h => by
  have h1 : r < 10:=(by simpa using h);rw [decDigits_one h1,padL,padL,Nat.mod_eq_of_lt h1];simp
 | k + 1,r,h => by
  by_cases h1 : r < 10
  ·rw [decDigits_one h1,padL,Nat.div_eq_of_lt h1,padL_zero,Nat.mod_eq_of_lt h1];simp
  ·have h10 : 10 ^ (k + 2) = 10 * 10 ^ (k + 1):=(by rw [Nat.pow_succ,Nat.mul_comm]);obtain ⟨i1,i2,i3⟩:=padL_eq k (r / 10) (by omega);rw [decDigits,dif_neg h1,padL,i1];simp;omega
theorem dec_chunk (q r:Nat) (hq : 1 ≤ q) (hr : r < 1000000000) : decDigits (q * 1000000000 + r) = decDigits q ++ (List.replicate (9 - (decDigits r).length) 48 ++ decDigits r):=by
 have h:=dec_split q hq 9 r (by simpa using hr);rw [show (10:Nat) ^ 9 = 1000000000 from by decide] at h;rw [h,(padL_eq 8 r (by simpa using hr)).1]
theorem dec_len9 (r:Nat) (hr : r < 1000000000) : (decDigits r).length ≤ 9∧1 ≤ (decDigits r).length:=by
 have:=padL_eq 8 r (by simpa using hr);exact ⟨this.2.1,this.2.2⟩
theorem decDigits_pos (m:Nat) : 1 ≤ (decDigits m).length:=by
 rw [decDigits];split <;> simp
theorem zeros_any (n:Nat) (hn : n ≤ 10000000) (w : World) : Calls Tryz.prog 73 #[.string ⟨#[48]⟩,.int .i64 (n:Int)] w fun e w' => e = .returned (.string ⟨(List.replicate n 48).toArray⟩)∧Below w.heap.size w w':=by
 refine (Tryz.strings_Repeat ⟨#[48]⟩ n w (by omega) (by show 1 * n ≤ _; omega)).mono ?_;rintro e w' ⟨rfl,hb⟩;refine ⟨?_,hb⟩;rw [show Lib.repeatL [48] n = List.replicate n (48 : UInt8) from ?_];clear hn hb
 induction n with
 | zero => rfl
 | succ n ih =>
  rw [List.replicate_succ,← ih];rfl
theorem itoa_any (n:Nat) (hn : n < 9223372036854775808) (w : World) (htab : Lib.TabIs Tryz.prog w "internal/strconv.uint64pow10" .u64 Lib.pow10Tab) :
  Calls Tryz.prog 72 #[.int .i64 (n:Int)] w fun e w' => e = .returned (.string ⟨(decDigits n).toArray⟩)∧Below w.heap.size w w':=by
 refine (Tryz.strconv_Itoa (n:Int) (by omega) (by omega) w htab).mono ?_;rintro e w' ⟨rfl,k,os,rfl⟩;refine ⟨by rw [itoa_nonneg],⟨rfl,rfl,rfl,by simp [grow],fun j hj => ?_⟩⟩;show (w.heap ++ os)[j]? = w.heap[j]?;rw [Array.getElem?_append_left hj]
def strL (l : List (List UInt8)) : List Value:=l.map strV
theorem flatL_len : ∀ ts : List (List UInt8),(∀ t ∈ ts,1 ≤ t.length) → ts.length ≤ ts.flatten.length
 | [],_ => Nat.zero_le _
 | t :: ts,h => by
  have h1:=flatL_len ts (fun u hu => h u (by simp [hu]));have h2:=h t (by simp);simp only [List.flatten_cons,List.length_append,List.length_cons];omega
theorem join_none (ts : List (List UInt8)) : Lib.join ((ts.map fun t => (⟨t.toArray⟩ : ByteArray)).map (·.data.toList)) (⟨#[]⟩ : ByteArray).data.toList = ts.flatten:=by
 rw [List.map_map,show (((·.data.toList) : ByteArray → List UInt8) ∘ fun t : List UInt8 => (⟨t.toArray⟩ : ByteArray)) = id from by funext t; simp,List.map_id]
 induction ts with
 | nil => rfl
 | cons t ts ih =>
  cases ts with
  | nil => simp [Lib.join]
  | cons u us =>
   unfold Lib.join at ih ⊢;simp [List.intercalate] at ih ⊢;exact ih
def DecI (n m:Nat) (ts : List (List UInt8)) : Prop:=(m = 0∧n = 0∧ts = [])∨(m = 0∧ts ≠ []∧ts.flatten = decDigits n)∨(m ≠ 0∧decDigits m ++ ts.flatten = decDigits n)
theorem DecI.len {n m : Nat} {ts : List (List UInt8)} (h : DecI n m ts) : ts.flatten.length ≤ (decDigits n).length:=by
 rcases h with ⟨_,_,rfl⟩ | ⟨_,_,h⟩ | ⟨_,h⟩
 ·simp
 ·rw [h]; exact Nat.le_refl _
 ·rw [← h]; simp
theorem DecI.start (n:Nat) : DecI n n []:=by
 by_cases h : n = 0
 ·exact .inl ⟨h,h,rfl⟩
 ·exact .inr (.inr ⟨h,by simp⟩)
def pieceL (m:Nat) : List UInt8:=if m / 1000000000 = 0 then decDigits (m % 1000000000) else List.replicate (9 - (decDigits (m % 1000000000)).length) 48 ++ decDigits (m % 1000000000)
theorem DecI.next {n m : Nat} {ts : List (List UInt8)} (h : DecI n m ts) (hm : m ≠ 0) : DecI n (m / 1000000000) (pieceL m :: ts):=by
 rcases h with ⟨h0,_⟩ | ⟨h0,_⟩ | ⟨_,h⟩
 ·exact absurd h0 hm
 ·exact absurd h0 hm
 ·have hd:=Nat.div_add_mod m 1000000000
  by_cases hq : m / 1000000000 = 0
  ·refine .inr (.inl ⟨hq,by simp,?_⟩);unfold pieceL;rw [if_pos hq,List.flatten_cons,← h,show m % 1000000000 = m by omega]
  ·refine .inr (.inr ⟨hq,?_⟩);unfold pieceL;rw [if_neg hq,List.flatten_cons,← List.append_assoc,← dec_chunk _ _ (by omega) (Nat.mod_lt _ (by decide)),show m / 1000000000 * 1000000000 + m % 1000000000 = m by omega,h]
theorem decimal_any {w : World} (n:Nat) (A : Option Addr) (c:Nat) (hlen : (lg n).length ≤ 10000) (hdl : (decDigits n).length ≤ 1000000) (hr : Row w A (u32s (lg n))) (htab : Lib.TabIs Tryz.prog w "internal/strconv.uint64pow10" .u64 Lib.pow10Tab) :
  Calls Tryz.prog 23 #[.slice A (lg n).length c] w fun e w' => e = .returned (.string ⟨(decDigits n).toArray⟩)∧Below w.heap.size w w':=by
 obtain ⟨is,his,hsz0,hsz1,hsz2⟩:=info_parts info_str16;obtain ⟨B,hB⟩ : ∃ B,w.heap.size = B:=⟨_,rfl⟩;have HB:=hid hB;clear hB;go_enter Tryz.func23,Tryz.ntmps23;go_wp2_with fail
 go_loopw [0,3,4,5,6] (fun d v _ _ _ wr => ∃ (m:Nat) (A' : Option Addr) (c':Nat) (ts : List (List UInt8)),d = .slice A' (lg m).length c'∧m ≤ n∧DecI n m ts∧(∀ t ∈ ts,1 ≤ t.length)∧Row wr A' (u32s (lg m))∧wr.ownsRow B 9 1 v ts.length (strL ts)∧Below w.heap.size w wr) (fun _ v _ _ _ wr => (decDigits n).length + 1 - lenOf v)
 case atStart => exact ⟨n,A,c,[],rfl,Nat.le_refl _,DecI.start n,by simp,hr,⟨rfl,.inl ⟨rfl,rfl⟩⟩,Below.refl _ _⟩
 case round =>
  obtain ⟨m,A',c',ts,rfl,hmn,hI,hts,hrm,hown,hbr⟩:=hrel;clear hr;have htr:=tab_keep htab hbr;have hml : (lg m).length ≤ 10000:=Nat.le_trans (lg_mono hmn) hlen
  by_cases hm0 : m = 0
  ·have hl0 : ((lg m).length:Int) = 0:=(by rw [lg_len0.2 hm0]; rfl);have HM:=hid hm0;rcases hI with ⟨-,hn0,hts0⟩ | ⟨-,hne,hfl⟩ | ⟨h1,-⟩
   ·subst hts0;obtain ⟨Av,cv,rfl,_,_⟩:=own_form hown;have HN:=hid hn0;clear hm0 hn0;go_wp2_with fail;go_ret;exact ⟨by rw [HN.out,decDigits_one (by decide)]; rfl,hbr⟩
   ·have hfl2:=flatL_len ts hts;have htl3 : ts.length ≤ 1000000:=(by rw [hfl] at hfl2; omega);clear hfl2;have htl : ts.length ≠ 0:=fun h => hne (List.eq_nil_of_length_eq_zero h);obtain ⟨g,cv,cs,rfl,hge,hblk,hcs,htk,hcv⟩:=own_some hown htl;have htb : ((ts.length:Int) == 0) = false:=(by rw [beq_eq_false_iff_ne]; omega);have HJ:=hid (Tryz.strings_Join g 0 cv (ts.map fun t => (⟨t.toArray⟩ : ByteArray)) ⟨#[]⟩ wr (by
     intro j x hx;rw [List.getElem?_map] at hx;cases htj : ts[j]? with
     | none => rw [htj] at hx; cases hx
     | some t =>
      rw [htj] at hx;obtain rfl : (⟨t.toArray⟩ : ByteArray) = x:=(by simpa using hx);rw [Nat.zero_add,hblk.cell j];have h1 : (strL ts)[j]? = some (strV t):=(by unfold strL; rw [List.getElem?_map,htj]; rfl);rw [← htk,List.getElem?_take] at h1;split at h1
      ·simpa [strV] using h1
      ·cases h1) hblk.lt (by rw [List.length_map]; omega) (by rw [List.length_map]; exact hcv) (by rw [join_none,hfl]; omega))
    rw [List.length_map,join_none,hfl] at HJ;clear hm0;go_wp2_with fail;refine HJ.out.mono ?_;rintro e w2 ⟨rfl,hbb⟩;go_wp2_with fail;go_ret;exact ⟨rfl,below_then hbr hbb hbr.size⟩
   ·exact absurd hm0 h1
  ·have hl0 : (0:Int) < ((lg m).length:Int):=by
    have : (lg m).length ≠ 0:=fun h => hm0 (lg_len0.1 h);omega
   have HI:=hid (hI.next hm0);have hfl:=flatL_len ts hts;have hIl : ts.flatten.length < (decDigits n).length:=by
    rcases hI with ⟨h0,_⟩ | ⟨h0,_⟩ | ⟨_,h⟩
    ·exact absurd h0 hm0
    ·exact absurd h0 hm0
    ·rw [← h,List.length_append];have:=decDigits_pos m;omega
   have HTS:=hid hts;have hQ:=quo_any m 1000000000 A' c' hml (by omega) (by omega) hrm;have hr9 : m % 1000000000 < 1000000000:=Nat.mod_lt _ (by decide);have hqn : m / 1000000000 ≤ n:=Nat.le_trans (Nat.div_le_self _ _) hmn;have HPC:=hid (show pieceL m = if m / 1000000000 = 0 then decDigits (m % 1000000000) else List.replicate (9 - (decDigits (m % 1000000000)).length) 48 ++ decDigits (m % 1000000000) from rfl);obtain ⟨q,hq⟩ : ∃ q,m / 1000000000 = q:=⟨_,rfl⟩;obtain ⟨r,hrr⟩ : ∃ r,m % 1000000000 = r:=⟨_,rfl⟩;obtain ⟨pc,hpc⟩ : ∃ pc,pieceL m = pc:=⟨_,rfl⟩;rw [hq] at HI hQ hqn HPC;rw [hrr] at hQ hr9 HPC;rw [hpc] at HI HPC;have HQ:=hid hQ;clear hI hts hq hrr hpc hQ;go_wp2_with fail;refine HQ.out.mono ?_;rintro e w2 ⟨⟨A2,c2,rfl,hr2⟩,hbb⟩;have hown2:=own_below hown hbb;have hb2:=below_then hbr hbb hbr.size;clear hrm hbb hbr hown HQ;go_wp2_with fail;refine (itoa_any r (by omega) w2 (tab_keep htab hb2)).mono ?_;rintro e w3 ⟨rfl,hbb⟩;have hown3:=own_below hown2 hbb;have hr3:=hr2.keepB hbb;have hb3:=below_then hb2 hbb hb2.size;clear hr2 hbb hb2 hown2;obtain ⟨l1,l2⟩:=dec_len9 r hr9;obtain ⟨D,hD⟩ : ∃ D,decDigits r = D:=⟨_,rfl⟩;rw [hD] at l1 l2 HPC ⊢;clear hD
   by_cases hq0 : q = 0
   ·have HPT : Hid (pc = D):=hid (by rw [HPC.out,if_pos hq0]);have hc0 : ((lg q).length:Int) = 0:=(by rw [lg_len0.2 hq0]; rfl);have hT1:=l2;clear hq0 HPC;obtain ⟨Av,cv,rfl,hrw,_⟩:=own_form hown3;have hrw8 : Row ((w3).alloc (.cells #[strV D] 9)) Av (strL ts):=hrw.keepB ((Below.refl _ (w3)).alloc (Nat.le_refl _) _);have hBW : B ≤ (w3).heap.size:=(by have:=Below.size hb3; rw [HB.out] at this; exact this);have hon8 : ((w3).alloc (.cells #[strV D] 9)).ownsRow B 9 1 (.slice (some ⟨(w3).heap.size,0,none⟩) 1 1) 1 [strV D]:=own_new1 (w3) hBW (strV D) 9;have hbA:=Below.alloc hb3 (Below.size hb3) (.cells #[strV D] 9);have hrA:=Row.keepB hr3 ((Below.refl _ (w3)).alloc (Nat.le_refl _) (.cells #[strV D] 9));clear hrw;go_wp2_with (at_builtin; refine wpList_append_row _ rfl (.tmp 28) (.tmp 29) 50 rfl B 9 is (.string ByteArray.empty) 1 16 Tryz.underlying50 his hsz0 hsz1 hsz2 rfl (by decide) _ 1 [strV D] rfl hon8 Av ts.length cv (strL ts) rfl (by simp [strL]) hrw8 (by simp [Value.oneCell',strL,strV]) (by unfold maxLen; omega) (by omega) (by simp; omega) ?_; intro v8 w8 hown8 hg8 hat8; obtain ⟨A8,c8,rfl,_,_⟩:=own_form hown8);have hbW8 : Below (w3).heap.size (w3) w8:=((Below.refl _ (w3)).alloc (Nat.le_refl _) _).grown hg8 (by simp) (fun k e => by cases e; exact Nat.le_refl _);go_roundw
    case rel =>
     refine ⟨q,A2,c2,pc :: ts,rfl,hqn,HI.out,?_,Row.keepB hr3 hbW8,?_,below_then hb3 hbW8 (Below.size hb3)⟩
     ·intro t ht;rcases List.mem_cons.1 ht with rfl | ht
      ·rw [HPT.out]; exact hT1
      ·exact HTS.out t ht
     ·rw [HPT.out,show (D :: ts).length = 1 + ts.length by simp; omega];exact hown8
    case measure => simp only [lenOf]; omega
   ·have hl1 : (0:Int) < ((lg q).length:Int):=by
     have : (lg q).length ≠ 0:=fun h => hq0 (lg_len0.1 h);omega
    have HPD : Hid (pc = List.replicate (9 - D.length) 48 ++ D):=hid (by rw [HPC.out,if_neg hq0]);obtain ⟨k9,hk9⟩ : ∃ k9 : Nat,9 - D.length = k9:=⟨_,rfl⟩;have hk9i : (9:Int) - (D.length:Int) = (k9:Int):=(by omega);clear hq0 HPC;go_wp2_with fail;refine (zeros_any k9 (by omega) w3).mono ?_;rintro e w4 ⟨rfl,hbb⟩;have hown4:=own_below hown3 hbb;have hr4:=hr3.keepB hbb;have hb4:=below_then hb3 hbb hb3.size;clear hr3 hbb hb3 hown3;obtain ⟨Z,hZ⟩ : ∃ Z,List.replicate k9 (48 : UInt8) = Z:=⟨_,rfl⟩;have hzl : Z.length = k9:=(by rw [← hZ]; simp);obtain ⟨T,hT⟩ : ∃ T,Z ++ D = T:=⟨_,rfl⟩;have hadd : ∀ W : World,(Op.stringOp .add ⟨Z.toArray⟩ ⟨D.toArray⟩).run Tryz.prog W = .ok (.string ⟨T.toArray⟩) W:=fun W => by rw [← hT]; exact run_string_add_lists W Z D (by omega) (by omega)
    have HPT : Hid (pc = T):=hid (by rw [HPD.out,hk9,hZ,hT]);have hT1 : 1 ≤ T.length:=(by rw [← hT,List.length_append]; omega);rw [hZ];clear hZ hT hk9i hk9 hzl;obtain ⟨Av,cv,rfl,hrw,_⟩:=own_form hown4;have hrw8 : Row ((w4).alloc (.cells #[strV T] 9)) Av (strL ts):=hrw.keepB ((Below.refl _ (w4)).alloc (Nat.le_refl _) _);have hBW : B ≤ (w4).heap.size:=(by have:=Below.size hb4; rw [HB.out] at this; exact this);have hon8 : ((w4).alloc (.cells #[strV T] 9)).ownsRow B 9 1 (.slice (some ⟨(w4).heap.size,0,none⟩) 1 1) 1 [strV T]:=own_new1 (w4) hBW (strV T) 9;have hbA:=Below.alloc hb4 (Below.size hb4) (.cells #[strV T] 9);have hrA:=Row.keepB hr4 ((Below.refl _ (w4)).alloc (Nat.le_refl _) (.cells #[strV T] 9));clear hrw;go_wp2_with (at_builtin; refine wpList_append_row _ rfl (.tmp 28) (.tmp 29) 50 rfl B 9 is (.string ByteArray.empty) 1 16 Tryz.underlying50 his hsz0 hsz1 hsz2 rfl (by decide) _ 1 [strV T] rfl hon8 Av ts.length cv (strL ts) rfl (by simp [strL]) hrw8 (by simp [Value.oneCell',strL,strV]) (by unfold maxLen; omega) (by omega) (by simp; omega) ?_; intro v8 w8 hown8 hg8 hat8; obtain ⟨A8,c8,rfl,_,_⟩:=own_form hown8);have hbW8 : Below (w4).heap.size (w4) w8:=((Below.refl _ (w4)).alloc (Nat.le_refl _) _).grown hg8 (by simp) (fun k e => by cases e; exact Nat.le_refl _);go_roundw
    case rel =>
     refine ⟨q,A2,c2,pc :: ts,rfl,hqn,HI.out,?_,Row.keepB hr4 hbW8,?_,below_then hb4 hbW8 (Below.size hb4)⟩
     ·intro t ht;rcases List.mem_cons.1 ht with rfl | ht
      ·rw [HPT.out]; exact hT1
      ·exact HTS.out t ht
     ·rw [HPT.out,show (T :: ts).length = 1 + ts.length by simp; omega];exact hown8
    case measure => simp only [lenOf]; omega
def valD (k:Int) (sn : Bool) (N : Value) (sd : Bool) (D : Value) (t : List UInt8) (r:Int) : Array Value:=#[.int .i64 k,.bool sn,N,.bool sd,D,.string ⟨t.toArray⟩,.int .i64 r]
def padP (p:Nat) (s : List UInt8) : List UInt8:=List.replicate (p + 1 - s.length) 48 ++ s
def pointed (p:Nat) (s : List UInt8) : List UInt8:=(padP p s).take ((padP p s).length - p) ++ [46] ++ (padP p s).drop ((padP p s).length - p)
def FinP (n d:Nat) (R : Except Int (List UInt8)) : Prop:=∃ a m1 b m,d = m1 * 2 ^ a∧(m1 % 2 ≠ 0∨m1 = 0)∧(d = 0 → a = 0)∧m1 = m * 5 ^ b∧(m % 5 ≠ 0∨m = 0)∧(m1 = 0 → b = 0) ∧
 R = if m ≠ 1 then .error 26 else if a + b = 0∨(0 < a∧n % 2 = 0)∨(0 < b∧n % 5 = 0) then .error 6 else .ok (pointed (max a b) (decDigits (n * 2 ^ (max a b - a) * 5 ^ (max a b - b))))
def FinPost (w : World) (n d:Nat) (e : Ending) (w' : World) : Prop:=Below w.heap.size w w'∧∃ R,FinP n d R∧match R with
 | .error c => e = .returned (.tuple #[.string ⟨#[]⟩,flt c (-1)])
 | .ok t => e = .returned (.tuple #[.string ⟨t.toArray⟩,flt 0 0])
theorem lg_pow (n K:Nat) (h : (lg n).length ≤ K) : n < 2 ^ (32 * K):=by
 have h1:=V_lt (B:=4294967296) (by decide) (lg n) (lg_lt n);have h2 : V 4294967296 (lg n) = n:=V_dig (by decide) n;rw [h2] at h1;refine Nat.lt_of_lt_of_le h1 ?_;rw [Nat.pow_mul];exact Nat.pow_le_pow_right (by decide) h
theorem lg_one : lg 1 = [1]:=by
 unfold lg;rw [dig_pos (by decide) (by decide),show 1 / 4294967296 = 0 from rfl,dig_zero]
theorem lg_len_le (N K:Nat) (h : N < 2 ^ (32 * K)) : (lg N).length ≤ K:=by
 refine dig_len (by decide) K N ?_;rw [Nat.pow_mul] at h;exact h
theorem dec_len_pow (N k:Nat) (h : N < 2 ^ (k + 1)) : (decDigits N).length ≤ k + 1 :=
 (padL_eq k N (Nat.lt_of_lt_of_le h (Nat.pow_le_pow_left (by decide) _))).2.1
theorem big_bd (n K i j T:Nat) (h : n < 2 ^ K) (hT : K + i + 3 * j ≤ T) : n * 2 ^ i * 5 ^ j < 2 ^ T:=by
 have h1 : n * 2 ^ i < 2 ^ (K + i):=by
  rw [Nat.pow_add];exact Nat.mul_lt_mul_of_pos_right h (Nat.pow_pos (by decide))
 have h2 : 5 ^ j ≤ 2 ^ (3 * j):=by
  rw [Nat.pow_mul];exact Nat.pow_le_pow_left (by decide) _
 have h3 : n * 2 ^ i * 5 ^ j < 2 ^ (K + i) * 2 ^ (3 * j) :=
  Nat.lt_of_le_of_lt (Nat.mul_le_mul_left _ h2) (Nat.mul_lt_mul_of_pos_right h1 (Nat.pow_pos (by decide)))
 rw [← Nat.pow_add] at h3;exact Nat.lt_of_lt_of_le h3 (Nat.pow_le_pow_right (by decide) hT)
theorem lim_any (n i j:Nat) (hn : (lg n).length ≤ 128) (hi : i ≤ 4096) (hj : j ≤ 4096) : (lg (n * 2 ^ i * 5 ^ j)).length ≤ 640∧(decDigits (n * 2 ^ i * 5 ^ j)).length ≤ 20480:=by
 have h:=lg_pow n 128 hn;obtain ⟨a,ha⟩ : ∃ a,32 * 128 = a:=⟨_,rfl⟩;rw [ha] at h;obtain ⟨K,hK⟩ : ∃ K,640 = K:=⟨_,rfl⟩;obtain ⟨L,hL⟩ : ∃ L,20479 = L:=⟨_,rfl⟩;have h1:=lg_len_le _ K (big_bd n a i j (32 * K) h (by omega));have h2:=dec_len_pow _ L (big_bd n a i j (L + 1) h (by omega));exact ⟨by omega,by omega⟩
structure FiC (w : World) (cs : Array Value) (wi : World) : Prop where
 v : Blk wi w.heap.size 26 cs
 p : Blk wi (w.heap.size + 1) 29 #[.int .i64 0,.int .i64 0]
 bel : Below w.heap.size w wi
theorem FiC.step {w wi wj : World} {cs : Array Value} (h : FiC w cs wi) (hb : Below wi.heap.size wi wj) : FiC w cs wj:=⟨h.v.belowS hb,h.p.belowS hb,below_then h.bel hb h.bel.size⟩
theorem FiC.new (w : World) (cs : Array Value) : FiC w cs ((w.alloc (.cells cs 26)).alloc (.cells #[.int .i64 0,.int .i64 0] 29)):=by
 refine ⟨(Blk.new w 26 cs).alloc _,?_,((Below.refl _ w).alloc (Nat.le_refl _) _).alloc (by simp) _⟩;have h:=Blk.new (w.alloc (.cells cs 26)) 29 #[.int .i64 0,.int .i64 0]
 rwa [show (w.alloc (.cells cs 26)).heap.size = w.heap.size + 1 from by simp] at h
theorem finite_any {w : World} (n d:Nat) (k r:Int) (sn sd : Bool) (t : List UInt8) (A1 A2 : Option Addr) (c1 c2:Nat) (hn : (lg n).length ≤ 128) (hd : (lg d).length ≤ 128) (hrn : Row w A1 (u32s (lg n))) (hrd : Row w A2 (u32s (lg d))) (htab : Lib.TabIs Tryz.prog w "internal/strconv.uint64pow10" .u64 Lib.pow10Tab) :
  Calls Tryz.prog 24 #[.agg (valD k sn (.slice A1 (lg n).length c1) sd (.slice A2 (lg d).length c2) t r)] w (FinPost w n d):=by
 have hdK:=lg_pow d 128 hd;obtain ⟨K,hK⟩ : ∃ K,32 * 128 = K:=⟨_,rfl⟩;rw [hK] at hdK;have hK2 : K ≤ 4096:=by omega
 have hC:=FiC.new w (valD k sn (.slice A1 (lg n).length c1) sd (.slice A2 (lg d).length c2) t r);unfold valD at *
 clear hK;go_enter Tryz.func24,Tryz.ntmps24;go_wp2_with fail;refine (factor_any d 2 A2 c2 (by omega) K hdK (by omega) (by decide) (by decide) (hrd.keepB hC.bel)).mono ?_;rintro e w2 ⟨⟨a,m1,A3,c3,hdm,hm1,hd0,haK,rfl,hr3⟩,hbb⟩;have hC2:=hC.step hbb;have hp2 : 0 < 2 ^ a:=Nat.pow_pos (by decide);have hm1d : m1 ≤ d:=by rw [hdm]; exact Nat.le_mul_of_pos_right _ hp2
 have H1:=hid (And.intro hdm (And.intro hm1 hd0));have hl1:=Nat.le_trans (lg_mono hm1d) hd;have hm1K : m1 < 2 ^ K:=Nat.lt_of_le_of_lt hm1d hdK;clear hC hbb hdm hm1 hd0 hp2 hm1d;go_wp2_with fail;refine (factor_any m1 5 A3 c3 (by omega) K hm1K (by omega) (by decide) (by decide) hr3).mono ?_;rintro e w3 ⟨⟨b,m,A4,c4,hdm,hm2,hd0,hbK,rfl,hr4⟩,hbb⟩;have hC3:=hC2.step hbb;have H2:=hid (And.intro hdm (And.intro hm2 hd0));clear hC2 hbb hdm hm2 hd0 hr3 hm1K hl1 hdK;obtain ⟨p1,p2,p3⟩:=hC3.p.rules;obtain ⟨v1,v2,v3⟩:=hC3.v.rules
 by_cases hm : m = 1
 ·subst hm;obtain ⟨g,off,rfl,hc⟩:=row_u32 hr4 (j:=0) (by rw [lg_one]; decide);have hc : w3.cell? ⟨g,off,none⟩ = some (.int .u32 1):=(by simpa [lg_one] using hc);have hl1 : (lg 1).length = 1:=(by rw [lg_one]; rfl);rw [hl1];clear hr4 hl1;go_wp2_with fail;refine (quo_any n 2 A1 c1 (by omega) (by decide) (by decide) (hrn.keepB hC3.bel)).mono ?_;rintro e w4 ⟨⟨A5,c5,rfl,hr5⟩,hbb⟩;have hC4:=hC3.step hbb;obtain ⟨v1,v2,v3⟩:=hC4.v.rules;clear hC3 hbb hr5 p1 p2 p3;obtain ⟨x2,hx2⟩ : ∃ x2,n % 2 = x2:=⟨_,rfl⟩;rw [hx2];have HX2:=hid hx2;clear hx2;go_wp2_with fail;refine (quo_any n 5 A1 c1 (by omega) (by decide) (by decide) (hrn.keepB hC4.bel)).mono ?_;rintro e w5 ⟨⟨A6,c6,rfl,hr6⟩,hbb⟩;have hC5:=hC4.step hbb;clear hC4 hbb hr6 v1 v2 v3;obtain ⟨x5,hx5⟩ : ∃ x5,n % 5 = x5:=⟨_,rfl⟩;rw [hx5];have HX5:=hid hx5;clear hx5
  go_upto_region 8 with fail
  go_cut [68] from 49 to 68 (fun s68 wx => s68 = .bool (decide (a + b = 0∨(0 < a∧x2 = 0)∨(0 < b∧x5 = 0)))∧wx = w5)
  case first =>
   have ew : IntKind.i64.wrap ((a:Int) + (b:Int)) = (a:Int) + (b:Int):=IntWalk.i64_in _ (by omega)
   by_cases h0 : a + b = 0
   ·have hfact : (a:Int) + (b:Int) = 0:=(by first | omega | (rw [beq_iff_eq]; omega));have HD : decide (a + b = 0∨(0 < a∧x2 = 0)∨(0 < b∧x5 = 0)) = true:=(by simp; omega);have HDD:=hid HD;clear HD h0;go_wp2_with fail;go_meet;exact ⟨by rw [HDD.out],rfl⟩
   ·have h0b : (((a:Int) + (b:Int)) == 0) = false:=by rw [beq_eq_false_iff_ne]; omega
    by_cases ha : 0 < a
    ·have hai : (0:Int) < (a:Int):=by omega
     by_cases h2 : x2 = 0
     ·have hfact : ((x2:Int) == 0) = true:=(by first | omega | (rw [beq_iff_eq]; omega));have HD : decide (a + b = 0∨(0 < a∧x2 = 0)∨(0 < b∧x5 = 0)) = true:=(by simp; omega);have HDD:=hid HD;clear HD h2;go_wp2_with fail;go_meet;exact ⟨by rw [HDD.out],rfl⟩
     ·have h2b : ((x2:Int) == 0) = false:=by rw [beq_eq_false_iff_ne]; omega
      by_cases hb : 0 < b
      ·have hbi : (0:Int) < (b:Int):=by omega
       by_cases h5 : x5 = 0
       ·have hfact : ((x5:Int) == 0) = true:=(by first | omega | (rw [beq_iff_eq]; omega));have HD : decide (a + b = 0∨(0 < a∧x2 = 0)∨(0 < b∧x5 = 0)) = true:=(by simp; omega);have HDD:=hid HD;clear HD h5;go_wp2_with fail;go_meet;exact ⟨by rw [HDD.out],rfl⟩
       ·have h5b : ((x5:Int) == 0) = false:=(by rw [beq_eq_false_iff_ne]; omega);have hfact : (0:Int) ≤ 0:=(by first | omega | (rw [beq_iff_eq]; omega));have HD : decide (a + b = 0∨(0 < a∧x2 = 0)∨(0 < b∧x5 = 0)) = false:=(by simp; omega);have HDD:=hid HD;clear HD h5;go_wp2_with fail;go_meet;exact ⟨by rw [HDD.out],rfl⟩
      ·have hfact : ¬ (0:Int) < (b:Int):=(by first | omega | (rw [beq_iff_eq]; omega));have HD : decide (a + b = 0∨(0 < a∧x2 = 0)∨(0 < b∧x5 = 0)) = false:=(by simp; omega);have HDD:=hid HD;clear HD hb;go_wp2_with fail;go_meet;exact ⟨by rw [HDD.out],rfl⟩
    ·have hbi : (0:Int) < (b:Int):=by omega
     by_cases h5 : x5 = 0
     ·have hfact2 : ¬ (0:Int) < (a:Int):=(by omega);have hfact : ((x5:Int) == 0) = true:=(by first | omega | (rw [beq_iff_eq]; omega));have HD : decide (a + b = 0∨(0 < a∧x2 = 0)∨(0 < b∧x5 = 0)) = true:=(by simp; omega);have HDD:=hid HD;clear HD h5;go_wp2_with fail;go_meet;exact ⟨by rw [HDD.out],rfl⟩
     ·have h5b : ((x5:Int) == 0) = false:=(by rw [beq_eq_false_iff_ne]; omega);have hfact : ¬ (0:Int) < (a:Int):=(by first | omega | (rw [beq_iff_eq]; omega));have HD : decide (a + b = 0∨(0 < a∧x2 = 0)∨(0 < b∧x5 = 0)) = false:=(by simp; omega);have HDD:=hid HD;clear HD ha;go_wp2_with fail;go_meet;exact ⟨by rw [HDD.out],rfl⟩
  case rest =>
   obtain ⟨rfl,rfl⟩:=hcut
   by_cases hcd : a + b = 0∨(0 < a∧x2 = 0)∨(0 < b∧x5 = 0)
   ·have hF : FinP n d (.error 6):=⟨a,m1,b,1,H1.out.1,H1.out.2.1,H1.out.2.2,H2.out.1,H2.out.2.1,H2.out.2.2,by rw [if_neg (by decide),if_pos (by rw [HX2.out,HX5.out]; exact hcd)]⟩;have HF:=hid hF;rw [decide_eq_true hcd];clear hF hcd;go_wp2_with fail;refine (lfault_any (6) (-1) _).mono ?_;rintro e w9 ⟨rfl,hbb9⟩;have hC9:=FiC.step hC5 hbb9;obtain ⟨p1,p2,p3⟩:=hC9.p.rules;go_wp2_with fail;have hPz:=(hC9.p.set_ 0 (.int .i64 (6))).set_ 1 (.int .i64 (-1));exact ret_tmp_blk rfl rfl hPz _ Tryz.underlying29 rfl (by kernel_rfl) rfl _ rfl ⟨(hC9.bel.setCell (p:=⟨w.heap.size + 1,0,none⟩) (Nat.le_succ _) _).setCell (p:=⟨w.heap.size + 1,1,none⟩) (Nat.le_succ _) _,.error (6),HF.out,rfl⟩
   ·have hF : FinP n d (.ok (pointed (max a b) (decDigits (n * 2 ^ (max a b - a) * 5 ^ (max a b - b))))):=⟨a,m1,b,1,H1.out.1,H1.out.2.1,H1.out.2.2,H2.out.1,H2.out.2.1,H2.out.2.2,by rw [if_neg (by decide),if_neg (by rw [HX2.out,HX5.out]; exact hcd)]⟩;have HF:=hid hF;rw [decide_eq_false hcd];clear hF hcd H1 H2 HX2 HX5;obtain ⟨p,hp⟩ : ∃ p,max a b = p:=⟨_,rfl⟩;have hpi : max (a:Int) (b:Int) = (p:Int):=(by rw [← hp]; omega);have hpa : a ≤ p:=(by omega);have hpb : b ≤ p:=(by omega);have hpK : p ≤ 4096:=(by omega);obtain ⟨e1,he1⟩ : ∃ e1,p - a = e1:=⟨_,rfl⟩;obtain ⟨e2,he2⟩ : ∃ e2,p - b = e2:=⟨_,rfl⟩;have he1i : (p:Int) - (a:Int) = (e1:Int):=(by omega);have he2i : (p:Int) - (b:Int) = (e2:Int):=(by omega);rw [hp,he1,he2] at HF;have he1K : e1 ≤ 4096:=(by omega);have he2K : e2 ≤ 4096:=(by omega);clear hp he1 he2;have hlim:=fun i j => lim_any n i j hn;go_wp2_with fail
    go_loopw [7,76] (fun v i wr => ∃ (j:Nat) (A7 : Option Addr) (c7:Nat),j ≤ e1∧i = .int .i64 (j:Int)∧v = .slice A7 (lg (n * 2 ^ j)).length c7∧Row wr A7 (u32s (lg (n * 2 ^ j)))∧FiC w #[.int .i64 k,.bool sn,.slice A1 (lg n).length c1,.bool sd,.slice A2 (lg d).length c2,.string ⟨t.toArray⟩,.int .i64 r] wr) (fun _ i _ => e1 - (RowKit.intOf i).toNat)
    case atStart => exact ⟨0,A1,c1,Nat.zero_le _,rfl,by rw [Nat.pow_zero,Nat.mul_one],by rw [Nat.pow_zero,Nat.mul_one]; exact hrn.keepB hC5.bel,hC5⟩
    case round =>
     obtain ⟨j,A7,c7,hj,rfl,rfl,hrj,hCj⟩:=hrel;have hlj:=(hlim j 0 (by omega) (by omega)).1;rw [Nat.pow_zero,Nat.mul_one] at hlj
     by_cases hlt : j < e1
     ·go_wp2_with fail;refine (prod_any (n * 2 ^ j) 2 0 A7 c7 (by omega) (by decide) (by decide) (by decide) hrj).mono ?_;rintro e w6 ⟨⟨A8,c8,rfl,hr8⟩,hbb⟩;have hC6:=hCj.step hbb;rw [Nat.add_zero,Nat.mul_assoc,← Nat.pow_succ] at hr8 ⊢;clear hCj hbb hrj hC5;go_wp2_with fail;go_roundw
      case rel => exact ⟨j + 1,A8,c8,by omega,by go_num,rfl,hr8,hC6⟩
      case measure => simp [RowKit.intOf]; omega
     ·have hje : j = e1:=(by omega);subst hje;obtain ⟨N,hN⟩ : ∃ N,n * 2 ^ j = N:=⟨_,rfl⟩;rw [hN] at hrj hlj HF ⊢;have hlim2:=fun i => hlim j i (by omega);rw [hN] at hlim2;clear hN hC5;go_wp2_with fail
      go_loopw [7,84] (fun v i wr => ∃ (y:Nat) (A7 : Option Addr) (c7:Nat),y ≤ e2∧i = .int .i64 (y:Int)∧v = .slice A7 (lg (N * 5 ^ y)).length c7∧Row wr A7 (u32s (lg (N * 5 ^ y)))∧FiC w #[.int .i64 k,.bool sn,.slice A1 (lg n).length c1,.bool sd,.slice A2 (lg d).length c2,.string ⟨t.toArray⟩,.int .i64 r] wr) (fun _ i _ => e2 - (RowKit.intOf i).toNat)
      case atStart => exact ⟨0,A7,c7,Nat.zero_le _,rfl,by rw [Nat.pow_zero,Nat.mul_one],by rw [Nat.pow_zero,Nat.mul_one]; exact hrj,hCj⟩
      case round =>
       obtain ⟨y,A9,c9,hy,rfl,rfl,hry,hCy⟩:=hrel;have hly:=(hlim2 y (by omega)).1
       by_cases hlt2 : y < e2
       ·go_wp2_with fail;refine (prod_any (N * 5 ^ y) 5 0 A9 c9 (by omega) (by decide) (by decide) (by decide) hry).mono ?_;rintro e w6 ⟨⟨A8,c8,rfl,hr8⟩,hbb⟩;have hC6:=hCy.step hbb;rw [Nat.add_zero,Nat.mul_assoc,← Nat.pow_succ] at hr8 ⊢;clear hCy hbb hry hrj hCj;go_wp2_with fail;go_roundw
        case rel => exact ⟨y + 1,A8,c8,by omega,by go_num,rfl,hr8,hC6⟩
        case measure => simp [RowKit.intOf]; omega
       ·have hye : y = e2:=(by omega);subst hye;have hld:=(hlim2 y (by omega)).2;obtain ⟨M,hM⟩ : ∃ M,N * 5 ^ y = M:=⟨_,rfl⟩;rw [hM] at hry hly hld HF ⊢;clear hM hCj hrj hlim2 hlim;go_wp2_with fail;refine (decimal_any M A9 c9 (by omega) (by omega) hry (tab_keep htab hCy.bel)).mono ?_;rintro e w7 ⟨rfl,hbb⟩;have hC7:=hCy.step hbb;clear hCy hbb hry;obtain ⟨S,hS⟩ : ∃ S,decDigits M = S:=⟨_,rfl⟩;rw [hS] at hld HF ⊢;clear hS;have hpl : p < (padP p S).length:=(by unfold padP; simp; omega);have hpl2 : (padP p S).length ≤ 30000:=(by unfold padP; simp; omega);have HPO:=hid (show pointed p S = (padP p S).take ((padP p S).length - p) ++ [46] ++ (padP p S).drop ((padP p S).length - p) from rfl);obtain ⟨X,hX⟩ : ∃ X,padP p S = X:=⟨_,rfl⟩;rw [hX] at hpl hpl2 HPO
        by_cases hsp : S.length ≤ p
        ·have hspi : (S.length:Int) ≤ (p:Int):=(by omega);obtain ⟨z,hz⟩ : ∃ z,p + 1 - S.length = z:=⟨_,rfl⟩;have hzi : (p:Int) + 1 - (S.length:Int) = (z:Int):=(by omega);have hzl : z ≤ 4097:=(by omega);obtain ⟨Z,hZ⟩ : ∃ Z,List.replicate z (48 : UInt8) = Z:=⟨_,rfl⟩;have hZl : Z.length ≤ 4097:=(by rw [← hZ]; simpa using hzl);have hadd : ∀ W : World,(Op.stringOp .add ⟨Z.toArray⟩ ⟨S.toArray⟩).run Tryz.prog W = .ok (.string ⟨X.toArray⟩) W:=fun W => by
          rw [← hX,show padP p S = Z ++ S from by unfold padP; rw [hz,hZ]];exact run_string_add_lists W Z S (by omega) (by omega)
         clear hz hX;go_wp2_with fail;refine (zeros_any z (by omega) _).mono ?_;rintro e w8 ⟨rfl,hbb⟩;have hC8:=hC7.step hbb;rw [hZ];clear hC7 hbb hZ hzi;go_wp2_with fail;obtain ⟨q,hq⟩ : ∃ q,X.length - p = q:=⟨_,rfl⟩;obtain ⟨j9,hj9⟩ : ∃ j9 : Int,(X.length:Int) - (p:Int) = j9:=⟨_,rfl⟩;have hqj : j9 = (q:Int):=(by omega);rw [hqj] at hj9;have hqw : IntKind.i64.wrap (q:Int) = (q:Int):=IntWalk.i64_in _ (by omega);have hs1:=fun W => run_upto X q (by omega) (q:Int) rfl W;have hs2 : ∀ W : World,(Instr.slice 9 (.string ⟨X.toArray⟩) (some (.int .i64 (q:Int))) none none).run Tryz.prog W = .ok (.string ⟨(X.drop q).toArray⟩) W:=fun W => by
          rw [run_slice_string_from_if W 9 ⟨X.toArray⟩ .i64 _ Tryz.underlying9,if_pos ⟨by omega,by simp [ByteArray.size]; omega⟩,Int.toNat_natCast,extract_from _ _ _ (by simp [ByteArray.size])]
         have ha1 : (X.take q).length ≤ 30000:=(by rw [List.length_take]; omega);have ha2 : (X.drop q).length ≤ 30000:=(by rw [List.length_drop]; omega);obtain ⟨U,hU⟩ : ∃ U,X.take q = U:=⟨_,rfl⟩;obtain ⟨V9,hV9⟩ : ∃ V9,X.drop q = V9:=⟨_,rfl⟩;obtain ⟨U2,hU2⟩ : ∃ U2,U ++ [46] = U2:=⟨_,rfl⟩;obtain ⟨U3,hU3⟩ : ∃ U3,U2 ++ V9 = U3:=⟨_,rfl⟩;rw [hU] at hs1 ha1;rw [hV9] at hs2 ha2;have hl2 : U2.length ≤ 30001:=(by rw [← hU2]; simp; omega);have had1 : ∀ W : World,(Op.stringOp .add ⟨U.toArray⟩ ⟨#[46]⟩).run Tryz.prog W = .ok (.string ⟨U2.toArray⟩) W:=fun W => by rw [← hU2]; exact run_string_add_lists W U [46] (by omega) (by simp)
         have had2 : ∀ W : World,(Op.stringOp .add ⟨U2.toArray⟩ ⟨V9.toArray⟩).run Tryz.prog W = .ok (.string ⟨U3.toArray⟩) W:=fun W => by rw [← hU3]; exact run_string_add_lists W U2 V9 (by omega) (by omega)
         have HPP : Hid (pointed p S = U3):=hid (by rw [HPO.out,hq,hU,hV9,hU2,hU3]);have hq0 : (0:Int) ≤ (q:Int):=(by omega);have hq1 : (q:Int) ≤ (X.length:Int):=(by omega);clear hq hqj hU hV9 hU2 hU3 HPO;obtain ⟨p1,p2,p3⟩:=hC8.p.rules
         go_region_with (fail)
         all_goals go_wp2_with fail
         all_goals exact ret_tmp_blk rfl rfl ((hC8.p.drew.set_ 0 (.int .i64 0)).set_ 1 (.int .i64 0)) _ Tryz.underlying29 rfl (by kernel_rfl) rfl _ rfl ⟨(hC8.bel.drew.setCell (p:=⟨w.heap.size + 1,0,none⟩) (Nat.le_succ _) _).setCell (p:=⟨w.heap.size + 1,1,none⟩) (Nat.le_succ _) _,.ok (pointed p S),HF.out,by rw [HPP.out]; rfl⟩
        ·have hspi : ¬ (S.length:Int) ≤ (p:Int):=(by omega);have hpp : S = X:=(by rw [← hX]; unfold padP; rw [show p + 1 - S.length = 0 by omega]; rfl);clear hX;rw [hpp] at hspi ⊢;clear hpp;go_wp2_with fail;obtain ⟨q,hq⟩ : ∃ q,X.length - p = q:=⟨_,rfl⟩;obtain ⟨j9,hj9⟩ : ∃ j9 : Int,(X.length:Int) - (p:Int) = j9:=⟨_,rfl⟩;have hqj : j9 = (q:Int):=(by omega);rw [hqj] at hj9;have hqw : IntKind.i64.wrap (q:Int) = (q:Int):=IntWalk.i64_in _ (by omega);have hs1:=fun W => run_upto X q (by omega) (q:Int) rfl W;have hs2 : ∀ W : World,(Instr.slice 9 (.string ⟨X.toArray⟩) (some (.int .i64 (q:Int))) none none).run Tryz.prog W = .ok (.string ⟨(X.drop q).toArray⟩) W:=fun W => by
          rw [run_slice_string_from_if W 9 ⟨X.toArray⟩ .i64 _ Tryz.underlying9,if_pos ⟨by omega,by simp [ByteArray.size]; omega⟩,Int.toNat_natCast,extract_from _ _ _ (by simp [ByteArray.size])]
         have ha1 : (X.take q).length ≤ 30000:=(by rw [List.length_take]; omega);have ha2 : (X.drop q).length ≤ 30000:=(by rw [List.length_drop]; omega);obtain ⟨U,hU⟩ : ∃ U,X.take q = U:=⟨_,rfl⟩;obtain ⟨V9,hV9⟩ : ∃ V9,X.drop q = V9:=⟨_,rfl⟩;obtain ⟨U2,hU2⟩ : ∃ U2,U ++ [46] = U2:=⟨_,rfl⟩;obtain ⟨U3,hU3⟩ : ∃ U3,U2 ++ V9 = U3:=⟨_,rfl⟩;rw [hU] at hs1 ha1;rw [hV9] at hs2 ha2;have hl2 : U2.length ≤ 30001:=(by rw [← hU2]; simp; omega);have had1 : ∀ W : World,(Op.stringOp .add ⟨U.toArray⟩ ⟨#[46]⟩).run Tryz.prog W = .ok (.string ⟨U2.toArray⟩) W:=fun W => by rw [← hU2]; exact run_string_add_lists W U [46] (by omega) (by simp)
         have had2 : ∀ W : World,(Op.stringOp .add ⟨U2.toArray⟩ ⟨V9.toArray⟩).run Tryz.prog W = .ok (.string ⟨U3.toArray⟩) W:=fun W => by rw [← hU3]; exact run_string_add_lists W U2 V9 (by omega) (by omega)
         have HPP : Hid (pointed p S = U3):=hid (by rw [HPO.out,hq,hU,hV9,hU2,hU3]);have hq0 : (0:Int) ≤ (q:Int):=(by omega);have hq1 : (q:Int) ≤ (X.length:Int):=(by omega);clear hq hqj hU hV9 hU2 hU3 HPO;obtain ⟨p1,p2,p3⟩:=hC7.p.rules
         go_region_with (fail)
         all_goals go_wp2_with fail
         all_goals exact ret_tmp_blk rfl rfl ((hC7.p.drew.set_ 0 (.int .i64 0)).set_ 1 (.int .i64 0)) _ Tryz.underlying29 rfl (by kernel_rfl) rfl _ rfl ⟨(hC7.bel.drew.setCell (p:=⟨w.heap.size + 1,0,none⟩) (Nat.le_succ _) _).setCell (p:=⟨w.heap.size + 1,1,none⟩) (Nat.le_succ _) _,.ok (pointed p S),HF.out,by rw [HPP.out]; rfl⟩
 ·have hlm : (lg m).length ≠ 1∨(∃ (x g off:Nat),A4 = some ⟨g,off,none⟩∧(lg m).length = 1∧w3.cell? ⟨g,off,none⟩ = some (.int .u32 (x:Int))∧x ≠ 1):=by
   by_cases h : (lg m).length = 1
   ·obtain ⟨g,off,h1,h2⟩:=row_u32 hr4 (j:=0) (by rw [h]; decide);refine .inr ⟨_,g,off,h1,h,h2,?_⟩;intro h3;have h4 : V 4294967296 (lg m) = m:=V_dig (by decide) m;obtain ⟨x,hx⟩:=List.length_eq_one_iff.1 h;rw [hx] at h4;simp only [hx] at h3;simp [V] at h4;simp at h3;omega
   ·exact .inl h
  have hF : FinP n d (.error 26):=⟨a,m1,b,m,H1.out.1,H1.out.2.1,H1.out.2.2,H2.out.1,H2.out.2.1,H2.out.2.2,by rw [if_pos hm]⟩;have HF:=hid hF;clear hm hF;rcases hlm with hl | ⟨x,g,off,rfl,hl,hc,hx⟩
  ·have hlb : (((lg m).length:Int) != 1) = true:=(by rw [bne_iff_ne]; omega);clear hl;go_wp2_with fail;refine (lfault_any (26) (-1) _).mono ?_;rintro e w9 ⟨rfl,hbb9⟩;have hC9:=FiC.step hC3 hbb9;obtain ⟨p1,p2,p3⟩:=hC9.p.rules;go_wp2_with fail;have hPz:=(hC9.p.set_ 0 (.int .i64 (26))).set_ 1 (.int .i64 (-1));exact ret_tmp_blk rfl rfl hPz _ Tryz.underlying29 rfl (by kernel_rfl) rfl _ rfl ⟨(hC9.bel.setCell (p:=⟨w.heap.size + 1,0,none⟩) (Nat.le_succ _) _).setCell (p:=⟨w.heap.size + 1,1,none⟩) (Nat.le_succ _) _,.error (26),HF.out,rfl⟩
  ·have hxb : ((x:Int) != 1) = true:=(by rw [bne_iff_ne]; omega);rw [hl];clear hl hx;go_wp2_with fail;refine (lfault_any (26) (-1) _).mono ?_;rintro e w9 ⟨rfl,hbb9⟩;have hC9:=FiC.step hC3 hbb9;obtain ⟨p1,p2,p3⟩:=hC9.p.rules;go_wp2_with fail;have hPz:=(hC9.p.set_ 0 (.int .i64 (26))).set_ 1 (.int .i64 (-1));exact ret_tmp_blk rfl rfl hPz _ Tryz.underlying29 rfl (by kernel_rfl) rfl _ rfl ⟨(hC9.bel.setCell (p:=⟨w.heap.size + 1,0,none⟩) (Nat.le_succ _) _).setCell (p:=⟨w.heap.size + 1,1,none⟩) (Nat.le_succ _) _,.error (26),HF.out,rfl⟩
end
end Go.Proofs.YtonehlkiackhcaaGreatDoor