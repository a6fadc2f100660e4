/- The literals: the number of some digits. Nothing is claimed here. -/
import Derived.Lib.Index
import Derived.Test.YtonehlkiackhcaaGreatDoorSeqI
import Derived.Test.YtonehlkiackhcaaGreatDoorProg
import Derived.Great.BuildSlice
import Derived.Lib.Hide
import Derived.Laws.MakeOwn
import Derived.Laws.IdiomStrings
set_option linter.unusedVariables false
set_option maxRecDepth 100000
set_option maxHeartbeats 16000000
namespace Go.Proofs.YtonehlkiackhcaaGreatDoor
def dig (B n : Nat) : List Nat:=if h : n = 0 ∨ B < 2 then [] else n % B :: dig B (n / B)
termination_by n
decreasing_by
 simp only [not_or,Nat.not_lt] at h;exact Nat.div_lt_self (Nat.pos_of_ne_zero h.1) h.2
def V (B : Nat) : List Nat → Nat
 | [] => 0
 | x :: l => x + B * V B l
theorem dig_zero (B : Nat) : dig B 0 = []:=by
 rw [dig,dif_pos (.inl rfl)]
theorem dig_pos {B n : Nat} (hB : 2 ≤ B) (hn : n ≠ 0) : dig B n = n % B :: dig B (n / B):=by
 rw [dig,dif_neg (by omega)]
theorem V_dig {B : Nat} (hB : 2 ≤ B) (n : Nat) : V B (dig B n) = n:=by
 induction n using Nat.strongRecOn with
 | _ n ih =>
  by_cases hn : n = 0
  ·subst hn;rw [dig_zero];rfl
  ·rw [dig_pos hB hn,V,ih (n / B) (Nat.div_lt_self (Nat.pos_of_ne_zero hn) hB)];exact Nat.mod_add_div n B
theorem dig_lt {B : Nat} (hB : 2 ≤ B) (n : Nat) : ∀ x ∈ dig B n,x < B:=by
 induction n using Nat.strongRecOn with
 | _ n ih =>
  by_cases hn : n = 0
  ·subst hn;rw [dig_zero];simp
  ·rw [dig_pos hB hn];intro x hx;rcases List.mem_cons.1 hx with rfl | hx
   ·exact Nat.mod_lt _ (by omega)
   ·exact ih (n / B) (Nat.div_lt_self (Nat.pos_of_ne_zero hn) hB) x hx
def normed (l : List Nat) : Prop:=l = [] ∨ ∃ x,l.getLast? = some x ∧ x ≠ 0
theorem V_pos {B : Nat} (hB : 2 ≤ B) : ∀ l : List Nat,l ≠ [] → normed l → V B l ≠ 0
 | [],h,_ => absurd rfl h
 | [x],_,h => by
  rcases h with h | ⟨y,h,hy⟩
  ·cases h
  ·simp at h;subst h;simp [V,hy]
 | x :: y :: l,_,h => by
  have:=V_pos hB (y :: l) (by simp) (by
   rcases h with h | ⟨z,h,hz⟩
   ·cases h
   ·exact .inr ⟨z,by rw [List.getLast?_cons_cons] at h; exact h,hz⟩)
  rw [V];have h2 : 0 < B * V B (y :: l):=Nat.mul_pos (by omega) (Nat.pos_of_ne_zero this);omega
theorem dig_V {B : Nat} (hB : 2 ≤ B) : ∀ l : List Nat,(∀ x ∈ l,x < B) → normed l → dig B (V B l) = l
 | [],_,_ => by rw [V,dig_zero]
 | x :: l,h,hn => by
  have hx:=h x (by simp);have h0:=V_pos hB (x :: l) (by simp) hn;have hl : normed l:=by
   rcases l with _ | ⟨y,l⟩
   ·exact .inl rfl
   ·rcases hn with hn | ⟨z,hz,h2⟩
    ·cases hn
    ·exact .inr ⟨z,by rw [List.getLast?_cons_cons] at hz; exact hz,h2⟩
  rw [dig_pos hB h0,V,Nat.add_mul_mod_self_left,Nat.mod_eq_of_lt hx,Nat.add_mul_div_left _ _ (by omega),Nat.div_eq_of_lt hx,Nat.zero_add,
   dig_V hB l (fun y hy => h y (List.mem_cons_of_mem _ hy)) hl]
theorem dig_normed {B : Nat} (hB : 2 ≤ B) (n : Nat) : normed (dig B n):=by
 induction n using Nat.strongRecOn with
 | _ n ih =>
  by_cases hn : n = 0
  ·subst hn;rw [dig_zero];exact .inl rfl
  ·rw [dig_pos hB hn];rcases ih (n / B) (Nat.div_lt_self (Nat.pos_of_ne_zero hn) hB) with h | ⟨x,h,hx⟩
   ·rw [h];refine .inr ⟨n % B,rfl,fun e => hn ?_⟩;have h2:=V_dig hB (n / B);rw [h] at h2;have h3:=Nat.mod_add_div n B;rw [← h2,e] at h3;simpa [V] using h3.symm
   ·refine .inr ⟨x,?_,hx⟩;rcases hd : dig B (n / B) with _ | ⟨y,l⟩
    ·rw [hd] at h;cases h
    ·rw [List.getLast?_cons_cons,← hd];exact h
theorem dig_nil {B n : Nat} (hB : 2 ≤ B) : dig B n = [] ↔ n = 0:=by
 constructor
 ·intro h;have:=V_dig hB n;rw [h] at this;exact this.symm
 ·rintro rfl;exact dig_zero B
theorem V_append (B : Nat) : ∀ a b : List Nat,V B (a ++ b) = V B a + B ^ a.length * V B b
 | [],b => by simp [V]
 | x :: a,b => by
  rw [List.cons_append,V,V_append B a b,V,List.length_cons,Nat.pow_succ,Nat.mul_add,← Nat.mul_assoc,Nat.mul_comm B (B ^ a.length)];omega
theorem V_lt {B : Nat} (hB : 2 ≤ B) : ∀ l : List Nat,(∀ x ∈ l,x < B) → V B l < B ^ l.length
 | [],_ => by simp [V]
 | x :: l,h => by
  have h1:=V_lt hB l (fun y hy => h y (List.mem_cons_of_mem _ hy));have h2:=h x (by simp);rw [V,List.length_cons,Nat.pow_succ,Nat.mul_comm (B ^ l.length)];have h3 : B * V B l + B ≤ B * B ^ l.length:=(by rw [← Nat.mul_succ]; exact Nat.mul_le_mul (Nat.le_refl _) h1);omega
theorem dig_len {B : Nat} (hB : 2 ≤ B) : ∀ (k n : Nat),n < B ^ k → (dig B n).length ≤ k
 | 0,n,h => by
  have : n = 0:=(by simpa using h);subst this;rw [dig_zero];exact Nat.le_refl _
 | k + 1,n,h => by
  by_cases hn : n = 0
  ·subst hn;rw [dig_zero];exact Nat.zero_le _
  ·rw [dig_pos hB hn,List.length_cons];have:=dig_len hB k (n / B) (by rw [Nat.div_lt_iff_lt_mul (by omega)]; rwa [Nat.pow_succ] at h);omega
def trimZ (l : List Nat) : List Nat:=(l.reverse.dropWhile (· == 0)).reverse
theorem trimZ_snoc_zero (l : List Nat) : trimZ (l ++ [0]) = trimZ l:=by simp [trimZ]
theorem trimZ_snoc {x : Nat} (l : List Nat) (h : x ≠ 0) : trimZ (l ++ [x]) = l ++ [x]:=by simp [trimZ,h]
theorem V_trimZ (B : Nat) (l : List Nat) : V B (trimZ l) = V B l:=by
 induction h : l.length generalizing l with
 | zero =>
  have : l = []:=List.eq_nil_of_length_eq_zero h;subst this;rfl
 | succ k ih =>
  obtain ⟨a,x,rfl⟩ : ∃ a x,l = a ++ [x]:=⟨l.dropLast,l.getLast (by rintro rfl; simp at h),(List.dropLast_concat_getLast _).symm⟩
  by_cases hx : x = 0
  ·subst hx;rw [trimZ_snoc_zero,ih a (by simp at h; exact h),V_append];simp [V]
  ·rw [trimZ_snoc a hx]
theorem trimZ_mem (l : List Nat) : ∀ x ∈ trimZ l,x ∈ l:=by
 intro x hx;unfold trimZ at hx;rw [List.mem_reverse] at hx;exact List.mem_reverse.1 ((List.dropWhile_sublist _).subset hx)
theorem trimZ_normed (l : List Nat) : normed (trimZ l):=by
 induction h : l.length generalizing l with
 | zero =>
  have : l = []:=List.eq_nil_of_length_eq_zero h;subst this;exact .inl rfl
 | succ k ih =>
  obtain ⟨a,x,rfl⟩ : ∃ a x,l = a ++ [x]:=⟨l.dropLast,l.getLast (by rintro rfl; simp at h),(List.dropLast_concat_getLast _).symm⟩
  by_cases hx : x = 0
  ·subst hx;rw [trimZ_snoc_zero];exact ih a (by simp at h; exact h)
  ·rw [trimZ_snoc a hx];exact .inr ⟨x,by simp,hx⟩
theorem trimZ_dig {B : Nat} (hB : 2 ≤ B) (l : List Nat) (h : ∀ x ∈ l,x < B) : trimZ l = dig B (V B l):=by
 rw [← V_trimZ B l];exact (dig_V hB _ (fun x hx => h x (trimZ_mem l x hx)) (trimZ_normed l)).symm
def mulGo (B m : Nat) : List Nat → Nat → List Nat × Nat
 | [],c => ([],c)
 | x :: l,c => ((c + x * m) % B :: (mulGo B m l ((c + x * m) / B)).1,(mulGo B m l ((c + x * m) / B)).2)
theorem mulGo_V (B m : Nat) : ∀ (l : List Nat) (c : Nat),V B (mulGo B m l c).1 + B ^ l.length * (mulGo B m l c).2 = V B l * m + c
 | [],c => by simp [mulGo,V]
 | x :: l,c => by
  have h:=mulGo_V B m l ((c + x * m) / B);rw [mulGo];simp only;rw [V,List.length_cons,Nat.pow_succ,V];have h2:=Nat.mod_add_div (c + x * m) B;have h3 : B * (V B (mulGo B m l ((c + x * m) / B)).1 + B ^ l.length * (mulGo B m l ((c + x * m) / B)).2) = B * (V B l * m) + B * ((c + x * m) / B):=(by rw [h,Nat.mul_add]);rw [Nat.mul_add,← Nat.mul_assoc,Nat.mul_comm B (B ^ l.length)] at h3;rw [Nat.add_mul,Nat.mul_assoc B];omega
theorem mulGo_len (B m : Nat) : ∀ (l : List Nat) (c : Nat),(mulGo B m l c).1.length = l.length
 | [],_ => rfl
 | x :: l,c => by rw [mulGo]; simp [mulGo_len B m l]
theorem mulGo_lt {B m : Nat} (hB : 2 ≤ B) : ∀ (l : List Nat) (c : Nat),∀ x ∈ (mulGo B m l c).1,x < B
 | [],_,x,h => by simp [mulGo] at h
 | y :: l,c,x,h => by
  rw [mulGo] at h;simp only at h;rcases List.mem_cons.1 h with rfl | h
  ·exact Nat.mod_lt _ (by omega)
  ·exact mulGo_lt hB l _ x h
theorem mulGo_carry {B m : Nat} (hB : 2 ≤ B) (hm : m < B) : ∀ (l : List Nat) (c : Nat),(∀ x ∈ l,x < B) → c < B → (mulGo B m l c).2 < B
 | [],c,_,h => h
 | x :: l,c,hl,h => by
  rw [mulGo];have hx:=hl x (by simp);refine mulGo_carry hB hm l _ (fun y hy => hl y (List.mem_cons_of_mem _ hy)) ?_;rw [Nat.div_lt_iff_lt_mul (by omega)];have h1 : x * m ≤ (B - 1) * (B - 1):=Nat.mul_le_mul (by omega) (by omega);obtain ⟨k,rfl⟩ : ∃ k,B = k + 1:=⟨B - 1,by omega⟩;simp only [Nat.add_sub_cancel] at h1;have h2 : (k + 1) * (k + 1) = k * k + k + k + 1:=(by rw [Nat.mul_add,Nat.add_mul]; omega);omega
theorem mulGo_snoc (B m : Nat) : ∀ (l : List Nat) (x c : Nat),mulGo B m (l ++ [x]) c = ((mulGo B m l c).1 ++ [((mulGo B m l c).2 + x * m) % B],((mulGo B m l c).2 + x * m) / B)
 | [],x,c => rfl
 | y :: l,x,c => by
  rw [List.cons_append,mulGo,mulGo_snoc B m l x,mulGo];rfl
def divGo (B d : Nat) : List Nat → List Nat × Nat
 | [] => ([],0)
 | x :: l => (((divGo B d l).2 * B + x) / d :: (divGo B d l).1,((divGo B d l).2 * B + x) % d)
theorem divGo_len (B d : Nat) : ∀ l : List Nat,(divGo B d l).1.length = l.length
 | [] => rfl
 | x :: l => by rw [divGo]; simp [divGo_len B d l]
theorem divGo_rest {B d : Nat} (hd : 0 < d) : ∀ l : List Nat,(divGo B d l).2 < d
 | [] => hd
 | x :: l => Nat.mod_lt _ hd
theorem divGo_lt {B d : Nat} (hd : 0 < d) : ∀ l : List Nat,(∀ x ∈ l,x < B) → ∀ x ∈ (divGo B d l).1,x < B
 | [],_,x,h => by simp [divGo] at h
 | y :: l,hl,x,h => by
  rw [divGo] at h;simp only at h;rcases List.mem_cons.1 h with rfl | h
  ·have h1:=divGo_rest (B:=B) hd l;have h2:=hl y (by simp);rw [Nat.div_lt_iff_lt_mul hd];have h3 : (divGo B d l).2 * B + B ≤ d * B:=(by rw [← Nat.succ_mul]; exact Nat.mul_le_mul h1 (Nat.le_refl _));rw [Nat.mul_comm B d];omega
  ·exact divGo_lt hd l (fun z hz => hl z (List.mem_cons_of_mem _ hz)) x h
theorem divGo_V {B d : Nat} (hd : 0 < d) : ∀ l : List Nat,V B (divGo B d l).1 = V B l / d ∧ (divGo B d l).2 = V B l % d
 | [] => by simp [divGo,V]
 | x :: l => by
  obtain ⟨h1,h2⟩:=divGo_V hd l (B:=B);have h3 : V B (x :: l) = ((divGo B d l).2 * B + x) + d * (B * V B (divGo B d l).1):=by
   rw [V,h1,h2];have h4:=Nat.mod_add_div (V B l) d;have h5 : B * V B l = B * (V B l % d) + B * (d * (V B l / d)):=(by rw [← Nat.mul_add,h4]);rw [h5,Nat.mul_comm B (V B l % d),← Nat.mul_assoc B d,Nat.mul_comm B d,Nat.mul_assoc d B];omega
  rw [h3,Nat.add_mul_div_left _ _ hd,Nat.add_mul_mod_self_left];exact ⟨rfl,rfl⟩
theorem divGo_dig {B d : Nat} (hB : 2 ≤ B) (hd : 0 < d) (n : Nat) : trimZ (divGo B d (dig B n)).1 = dig B (n / d) ∧ (divGo B d (dig B n)).2 = n % d:=by
 have h:=divGo_V (B:=B) hd (dig B n);rw [V_dig hB] at h;exact ⟨by rw [trimZ_dig hB _ (divGo_lt hd _ (dig_lt hB n)),h.1],h.2⟩
theorem mulGo_dig {B m : Nat} (hB : 2 ≤ B) (hm : m < B) (hm0 : 0 < m) (n c : Nat) (hc : c < B) :
  (mulGo B m (dig B n) c).1 ++ (if 0 < (mulGo B m (dig B n) c).2 then [(mulGo B m (dig B n) c).2] else []) = dig B (n * m + c):=by
 have hV:=mulGo_V B m (dig B n) c;rw [V_dig hB] at hV;have hcr:=mulGo_carry hB hm (dig B n) c (dig_lt hB n) hc;have hlt:=mulGo_lt (m:=m) hB (dig B n) c;have hlen:=mulGo_len B m (dig B n) c;rcases Nat.eq_zero_or_pos (mulGo B m (dig B n) c).2 with h0 | h0
 ·rw [if_neg (by omega),List.append_nil];rw [h0,Nat.mul_zero,Nat.add_zero] at hV;rw [← hV];refine (dig_V hB _ hlt ?_).symm;rcases dig_normed hB n with hn | ⟨x,hx,hx0⟩
  ·have h3 : (mulGo B m (dig B n) c).1.length = 0:=(by rw [hlen,hn]; rfl);exact .inl (List.eq_nil_of_length_eq_zero h3)
  ·obtain ⟨a,ha⟩ : ∃ a,dig B n = a ++ [x]:=by
    obtain ⟨ne,hg⟩:=List.getLast?_eq_some_iff.1 hx;exact ⟨ne,hg⟩
   rw [ha,mulGo_snoc] at h0 ⊢;simp only at h0 ⊢;refine .inr ⟨((mulGo B m a c).2 + x * m) % B,by simp,?_⟩;have h1:=Nat.mod_add_div ((mulGo B m a c).2 + x * m) B;rw [h0,Nat.mul_zero,Nat.add_zero] at h1;rw [h1];have : 0 < x * m:=Nat.mul_pos (Nat.pos_of_ne_zero hx0) hm0;omega
 ·rw [if_pos h0];have h1 : V B ((mulGo B m (dig B n) c).1 ++ [(mulGo B m (dig B n) c).2]) = n * m + c:=by
   rw [V_append,hlen];simpa [V] using hV
  rw [← h1];refine (dig_V hB _ ?_ (.inr ⟨(mulGo B m (dig B n) c).2,by simp,by omega⟩)).symm;intro x hx;rcases List.mem_append.1 hx with hx | hx
  ·exact hlt x hx
  ·rw [List.mem_singleton.1 hx];exact hcr
end Go.Proofs.YtonehlkiackhcaaGreatDoor

namespace Go.Proofs.YtonehlkiackhcaaGreatDoor
open Go.RowKit
theorem own_below {w w' : World} {base : Nat} {e : TypeId} {size n : Nat} {v : Value} {xs : List Value} (h : w.ownsRow base e size v n xs) (hb : Below w.heap.size w w') : w'.ownsRow base e size v n xs:=by
 refine ⟨h.1,?_⟩;rcases h.2 with h2 | ⟨g,cap,cur,hv,hg',hh,r⟩
 ·exact Or.inl h2
 ·exact Or.inr ⟨g,cap,cur,hv,hg',by rw [hb.block g (Array.getElem?_eq_some_iff.1 hh).1]; exact hh,r⟩
theorem own_some {w : World} {base : Nat} {e : TypeId} {n : Nat} {v : Value} {xs : List Value} (h : w.ownsRow base e 1 v n xs) (hn : n ≠ 0) :
  ∃ g c cs,v = .slice (some ⟨g,0,none⟩) n c ∧ base ≤ g ∧ Blk w g e cs ∧ n ≤ cs.size ∧ cs.toList.take n = xs ∧ n ≤ c:=by
 rcases h.2 with ⟨_,h2⟩ | ⟨g,cap,cur,hv,hb,hh,hnc,_,hsz,ht⟩
 ·exact absurd h2 hn
 ·exact ⟨g,cap,cur,hv,hb,hh,by omega,by rw [Nat.mul_one] at ht; exact ht,hnc⟩
def u32s (l : List Nat) : List Value:=l.map fun n : Nat => Value.int .u32 (n : Int)
theorem u32s_snoc (d : List Nat) (x : Nat) : u32s (d ++ [x]) = u32s d ++ [.int .u32 (x : Int)]:=by simp [u32s]
theorem info_u32 : (Tryz.prog.info? 63).map (fun i => (i.zero,i.size,i.bytes)) = some (some (.int .u32 0),1,4):=by kernel_rfl
theorem row_u32 {w : World} {A : Option Addr} {m : List Nat} (h : Row w A (u32s m)) {j : Nat} (hj : j < m.length) : ∃ b off,A = some ⟨b,off,none⟩ ∧ w.cell? ⟨b,off + j,none⟩ = some (.int .u32 (m[j] : Int)):=by
 obtain ⟨b,off,e,hlt,hc⟩:=h.at_ (k:=j) (by simpa [u32s] using hj);exact ⟨b,off,e,hc j _ (by simp [u32s,hj])⟩
end Go.Proofs.YtonehlkiackhcaaGreatDoor

namespace Go.Proofs.YtonehlkiackhcaaGreatDoor
open Go.RowKit
theorem times_any {w : World} (l : List Nat) (A : Option Addr) (c m n : Nat) (hl : ∀ x ∈ l,x < 4294967296) (hlen : l.length ≤ 10000) (hm : m < 4294967296) (hn : n < 4294967296) (hr : Row w A (u32s l)) :
  Calls Tryz.prog 76 #[.slice A l.length c,.int .u32 (m : Int),.int .u32 (n : Int)] w fun e w' => (∃ A' c',e = .returned (.slice A' ((mulGo 4294967296 m l n).1 ++ (if 0 < (mulGo 4294967296 m l n).2 then [(mulGo 4294967296 m l n).2] else [])).length c') ∧ Row w' A' (u32s ((mulGo 4294967296 m l n).1 ++ (if 0 < (mulGo 4294967296 m l n).2 then [(mulGo 4294967296 m l n).2] else [])))) ∧ Below w.heap.size w w':=by
 obtain ⟨iu,hiu,huz0,huz1,huz2⟩:=info_parts info_u32;obtain ⟨b,hbb⟩ : ∃ b,w.heap.size = b:=⟨_,rfl⟩;have HB:=Lib.hid hbb;clear hbb;have HLT:=Lib.hid hl;have hwn : IntKind.u64.wrap (n : Int) = (n : Int):=IntWalk.u64_in _ (by omega);clear hl;obtain ⟨R,hR⟩ : ∃ R,(mulGo 4294967296 m l n).1 ++ (if 0 < (mulGo 4294967296 m l n).2 then [(mulGo 4294967296 m l n).2] else []) = R:=⟨_,rfl⟩;rw [hR];have HRR:=Lib.hid hR;clear hR;go_enter Tryz.func76,Tryz.ntmps76;go_wp2_with fail
 go_loopw [7,8,15] (fun v cr i wr => ∃ (k c : Nat),k ≤ l.length ∧ i = .int .i64 (k : Int) ∧ cr = .int .u64 (c : Int) ∧ c < 4294967296 ∧ Hid (mulGo 4294967296 m (l.take k) n = ((mulGo 4294967296 m (l.take k) n).1,c)) ∧ wr.ownsRow b 63 1 v k (u32s (mulGo 4294967296 m (l.take k) n).1) ∧ Below b w wr) (fun _ _ i _ => l.length - (RowKit.intOf i).toNat)
 case atStart => exact ⟨0,n,Nat.zero_le _,rfl,by first | rfl | (rw [hwn]),hn,Lib.hid rfl,World.ownsRow_nil _ _ _ _,by rw [← HB.out]; exact Below.refl _ _⟩
 case round =>
  obtain ⟨k,cc,hk,rfl,rfl,hcc,HM,hown,hb⟩:=hrel;have hbs:=hb.size;rw [HB.out] at hbs
  by_cases hlt : k < l.length
  ·obtain ⟨b0,off,rfl,hcell⟩:=row_u32 (hr.keepB (by rw [HB.out]; exact hb)) hlt;have htk : l.take (k + 1) = l.take k ++ [l[k]]:=(by rw [List.take_add_one,List.getElem?_eq_getElem hlt]; rfl);obtain ⟨x,hx⟩ : ∃ x,l[k] = x:=⟨_,rfl⟩;have hx32 : x < 4294967296:=hx ▸ HLT.out _ (List.getElem_mem hlt);rw [hx] at hcell htk;have HTK:=Lib.hid htk;clear hx htk;have hxm : x * m ≤ 4294967295 * 4294967295:=Nat.mul_le_mul (by omega) (by omega);have e1 : IntKind.u64.wrap (x : Int) = (x : Int):=IntWalk.u64_in _ (by omega);have e2 : IntKind.u64.wrap (m : Int) = (m : Int):=IntWalk.u64_in _ (by omega);have e3 : IntKind.u64.wrap ((x : Int) * (m : Int)) = (x : Int) * (m : Int):=IntWalk.u64_in _ (by rw [← Int.natCast_mul]; omega);have e4 : IntKind.u64.wrap ((cc : Int) + (x : Int) * (m : Int)) = (cc : Int) + (x : Int) * (m : Int):=IntWalk.u64_in _ (by rw [← Int.natCast_mul]; omega);go_wp2_with (at_builtin; refine wpList_append_own_at _ rfl (.tmp 26) (.tmp 29) 22 rfl b 63 iu _ 1 4 Tryz.underlying22 hiu huz0 huz1 huz2 rfl (by decide) _ _ _ rfl (hown.alloc _) ⟨wr.heap.size,0,none⟩ 1 1 [_] rfl rfl (cell_one_new wr _ _) (by simp [Value.oneCell']) (by unfold maxLen; omega) (by omega) (by simp; omega) ?_; intro v2 w2 hown2 hg2 _ hat2);have hnew : mulGo 4294967296 m (l.take (k + 1)) n = ((mulGo 4294967296 m (l.take k) n).1 ++ [(cc + x * m) % 4294967296],(cc + x * m) / 4294967296):=by
    rw [HTK.out,mulGo_snoc,show (mulGo 4294967296 m (l.take k) n).2 = cc from congrArg Prod.snd HM.out]
   have hP : (x : Int) * (m : Int) = ((x * m : Nat) : Int):=(Int.natCast_mul x m).symm;have hc1 : (((cc : Int) + (x : Int) * (m : Int)) % 4294967296) = (((cc + x * m) % 4294967296 : Nat) : Int):=(by rw [hP]; omega);have hc2 : (((cc : Int) + (x : Int) * (m : Int)) / 4294967296) = (((cc + x * m) / 4294967296 : Nat) : Int):=(by rw [hP]; omega);rw [hc1,← u32s_snoc] at hown2;rw [hc2];have hb2:=(hb.alloc hbs _).grown hg2 (by simp; omega) (fun g e => by have:=hown.lt g e; omega);have hq : (cc + x * m) / 4294967296 < 4294967296:=(by omega);go_roundw
   case rel => exact ⟨k + 1,(cc + x * m) / 4294967296,by omega,by go_num,rfl,hq,Lib.hid (by rw [hnew]),by rw [hnew]; exact hown2,hb2⟩
   case measure => simp [RowKit.intOf]; omega
  ·have hkl : k = l.length:=(by omega);have hM : (mulGo 4294967296 m l n) = ((mulGo 4294967296 m (l.take k) n).1,cc):=(by rw [← HM.out,hkl,List.take_length]);have hlen2:=mulGo_len 4294967296 m (l.take k) n;rw [List.length_take,Nat.min_eq_left hk] at hlen2;obtain ⟨D,hD⟩ : ∃ D,(mulGo 4294967296 m (l.take k) n).1 = D:=⟨_,rfl⟩;rw [hD] at hM hown hlen2;have hRD : D ++ (if 0 < cc then [cc] else []) = R:=(by rw [← HRR.out,hM]);clear hM hD HM hkl
   by_cases h0 : 0 < cc
   ·rw [if_pos h0] at hRD;subst hRD;have h0' : decide ((0 : Int) < (cc : Int)) = true:=(by simp; omega);have hc1 : (cc : Int) % 4294967296 = (cc : Int):=(by omega);go_wp2_with (at_builtin; refine wpList_append_own_at _ rfl (.tmp 36) (.tmp 39) 22 rfl b 63 iu _ 1 4 Tryz.underlying22 hiu huz0 huz1 huz2 rfl (by decide) _ _ _ rfl (hown.alloc _) ⟨wr.heap.size,0,none⟩ 1 1 [_] rfl rfl (cell_one_new wr _ _) (by simp [Value.oneCell']) (by unfold maxLen; omega) (by omega) (by simp; omega) ?_; intro v2 w2 hown2 hg2 _ hat2);rw [← u32s_snoc] at hown2;have hb2:=(hb.alloc hbs _).grown hg2 (by simp; omega) (fun g e => by have:=hown.lt g e; omega);obtain ⟨A',c',rfl,_,_⟩:=own_form hown2;go_ret;exact ⟨⟨A',c',by rw [List.length_append,hlen2]; rfl,Row.of_own hown2⟩,by rw [HB.out]; exact hb2⟩
   ·rw [if_neg h0,List.append_nil] at hRD;subst hRD;have h0' : decide ((0 : Int) < (cc : Int)) = false:=(by simp; omega);obtain ⟨A',c',rfl,_,_⟩:=own_form hown;go_wp2_with fail;go_ret;exact ⟨⟨A',c',by rw [hlen2]; rfl,Row.of_own hown⟩,by rw [HB.out]; exact hb⟩
theorem made_u32 (n : Nat) : madeCells (Value.cells (.int .u32 0)) n = (u32s (List.replicate n 0)).toArray:=by
 apply Array.ext
 ·simp [madeCells,u32s]
 ·intro i h1 h2;simp [madeCells,u32s,Value.cells,Nat.mod_one]
theorem ofInt_u64 (a : Nat) (h : a < 18446744073709551616) : (BitVec.ofInt 64 (a : Int)).toNat = a:=by
 rw [BitVec.ofInt_natCast,BitVec.toNat_ofNat,Nat.mod_eq_of_lt (by omega)]
theorem u64_or_nat (a b : Nat) (ha : a < 18446744073709551616) (hb : b < 18446744073709551616) : bits .or .u64 (a : Int) (b : Int) = ((a ||| b : Nat) : Int):=by
 have hx : a ||| b < 2 ^ 64:=Nat.or_lt_two_pow (by omega) (by omega)
 show IntKind.u64.wrap ((BitVec.ofInt 64 (a : Int) ||| BitVec.ofInt 64 (b : Int)).toNat : Int) = _;rw [BitVec.toNat_or,ofInt_u64 a ha,ofInt_u64 b hb];exact IntWalk.u64_in _ (by omega)
theorem u64_or_hi (r x : Nat) (hr : r < 4294967296) (hx : x < 4294967296) : bits .or .u64 ((r : Int) * 4294967296) (x : Int) = ((r * 4294967296 + x : Nat) : Int):=by
 have h:=u64_or_nat (r * 4294967296) x (by omega) (by omega);have e:=Nat.two_pow_add_eq_or_of_lt (i:=32) (b:=x) (by omega) r;rw [show r * 4294967296 = 2 ^ 32 * r by omega,← e] at h;rw [show r * 4294967296 + x = 2 ^ 32 * r + x by omega,← h]
 congr 1
 omega
def lenOf : Value → Nat
 | .slice _ n _ => n
 | _ => 0
theorem set_u32 (j : Nat) (D : List Nat) (q : Nat) : ((u32s (List.replicate (j + 1) 0 ++ D)).toArray).setIfInBounds j (.int .u32 (q : Int)) = (u32s (List.replicate j 0 ++ q :: D)).toArray:=by
 have h : u32s (List.replicate (j + 1) 0 ++ D) = u32s (List.replicate j 0) ++ .int .u32 0 :: u32s D:=by simp [u32s,List.replicate_succ',List.append_assoc]
 rw [h,List.setIfInBounds_toArray,List.set_append_right _ _ (by simp [u32s])];simp [u32s]
theorem divide_any {w : World} (l : List Nat) (A : Option Addr) (c d : Nat) (hl : ∀ x ∈ l,x < 4294967296) (hlen : l.length ≤ 10000) (hd0 : 0 < d) (hd : d < 4294967296) (hr : Row w A (u32s l)) :
  Calls Tryz.prog 71 #[.slice A l.length c,.int .u32 (d : Int)] w fun e w' => (∃ A' c',e = .returned (.tuple #[.slice A' (trimZ (divGo 4294967296 d l).1).length c',.int .u32 ((divGo 4294967296 d l).2 : Int)]) ∧ Row w' A' (u32s (trimZ (divGo 4294967296 d l).1))) ∧ Below w.heap.size w w':=by
 obtain ⟨iu,hiu,huz0,huz1,huz2⟩:=info_parts info_u32;obtain ⟨R,hR⟩ : ∃ R,divGo 4294967296 d l = R:=⟨_,rfl⟩;rw [hR];have HRR:=Lib.hid hR;clear hR;have hrun:=run_make (P:=Tryz.prog) w 22 63 iu (.int .u32 0) Tryz.underlying22 hiu huz0 .i64 .i64 (l.length : Int) (l.length : Int) (by omega) (Int.le_refl _) (by rw [huz2]; omega) (by omega);rw [huz1,Int.toNat_natCast,Nat.mul_one,made_u32] at hrun;have hB:=Blk.new w 63 (u32s (List.replicate l.length 0)).toArray;have hb:=(Below.refl w.heap.size w).alloc (Nat.le_refl _) (.cells (u32s (List.replicate l.length 0)).toArray 63);obtain ⟨w1,hw1⟩ : ∃ x,w.alloc (.cells (u32s (List.replicate l.length 0)).toArray 63) = x:=⟨_,rfl⟩;rw [hw1] at hrun hB hb;obtain ⟨b,hbb⟩ : ∃ b,w.heap.size = b:=⟨_,rfl⟩;have HB:=Lib.hid hbb;rw [hbb] at hrun hB hb;clear hbb hw1;have HLT:=Lib.hid hl;clear hl;go_enter Tryz.func71,Tryz.ntmps71;go_wp2_with fail;clear hrun
 go_loopw [7,8] (fun r i wr => ∃ (k : Nat),k ≤ l.length ∧ i = .int .i64 ((k : Int) - 1) ∧ r = .int .u64 ((divGo 4294967296 d (l.drop k)).2 : Int) ∧ Blk wr b 63 (u32s (List.replicate k 0 ++ (divGo 4294967296 d (l.drop k)).1)).toArray ∧ Below b w wr) (fun _ i _ => (RowKit.intOf i + 1).toNat)
 case atStart => exact ⟨l.length,Nat.le_refl _,rfl,by rw [List.drop_length]; rfl,by rw [List.drop_length]; simpa [divGo] using hB,hb⟩
 case round =>
  clear hB hb;obtain ⟨k,hk,rfl,rfl,hB,hb⟩:=hrel;rcases k with _ | j
  ·rw [show ((0 : Nat) : Int) - 1 = -1 from rfl];have hq0 : divGo 4294967296 d (l.drop 0) = R:=(by rw [List.drop_zero]; exact HRR.out);rw [hq0] at hB ⊢;have hrr : R.2 < 4294967296:=(by rw [← hq0]; have:=divGo_rest (B:=4294967296) hd0 (l.drop 0); omega);have hQl : R.1.length = l.length:=(by rw [← hq0,divGo_len,List.drop_zero]);obtain ⟨Q,r⟩:=R;simp only at hB hrr hQl ⊢;rw [show List.replicate 0 0 ++ Q = Q from rfl] at hB;have e7 : (r : Int) % 4294967296 = (r : Int):=(by omega);clear hq0;go_wp2_with fail
   go_loop [6] (fun v => ∃ k : Nat,k ≤ l.length ∧ v = .slice (some ⟨b,0,none⟩) k l.length ∧ Hid (trimZ (Q.take k) = trimZ Q)) (fun v => lenOf v)
   case atStart => exact ⟨l.length,Nat.le_refl _,rfl,Lib.hid (by rw [← hQl,List.take_length])⟩
   case round =>
    obtain ⟨k,hk,rfl,HT⟩:=hrel;have hrow : Row wr (some ⟨b,0,none⟩) (u32s (Q.take k)):=.inr ⟨b,0,rfl,hB.lt,fun i u hu => by
     rw [Nat.zero_add,hB.cell i];unfold u32s at hu ⊢;rw [List.getElem?_map,List.getElem?_take] at hu;split at hu
     ·simpa using hu
     ·cases hu⟩
    have htl : (Q.take k).length = k:=(by rw [List.length_take]; omega);rcases k with _ | j
    ·have HF:=Lib.hid (show trimZ Q = [] from by rw [← HT.out]; rfl);go_wp2_with fail;go_ret2;exact ⟨⟨some ⟨b,0,none⟩,⟨l.length,by rw [HF.out]; rfl⟩,by rw [HF.out]; exact hrow⟩,by rw [HB.out]; exact hb⟩
    ·obtain ⟨z,hz⟩ : ∃ z,Q[j]? = some z:=⟨Q[j]'(by omega),List.getElem?_eq_getElem (by omega)⟩;have hcell : wr.cell? ⟨b,j,none⟩ = some (.int .u32 (z : Int)):=by
      rw [hB.cell j];simp [u32s,hz]
     have hts : Q.take (j + 1) = Q.take j ++ [z]:=by rw [List.take_add_one,hz]; rfl
     by_cases h0 : z = 0
     ·subst h0;have HT2:=Lib.hid (show trimZ (Q.take j) = trimZ Q from by rw [← HT.out,hts,trimZ_snoc_zero]);clear hts hz;go_wp2_with fail
      go_round
      case rel => exact ⟨j,by omega,by go_num,HT2⟩
      case measure => simp [lenOf]
     ·have h1 : ((z : Int) == 0) = false:=(by rw [beq_eq_false_iff_ne]; omega);have HF:=Lib.hid (show trimZ Q = Q.take (j + 1) from by rw [← HT.out,hts,trimZ_snoc _ h0]);clear hts hz;go_wp2_with fail;go_ret2;exact ⟨⟨some ⟨b,0,none⟩,⟨l.length,by rw [HF.out,htl]; rfl⟩,by rw [HF.out]; exact hrow⟩,by rw [HB.out]; exact hb⟩
  ·rw [show ((j + 1 : Nat) : Int) - 1 = (j : Int) by omega];have hlt : j < l.length:=(by omega);obtain ⟨b0,off,rfl,hcell⟩:=row_u32 (hr.keepB (by rw [HB.out]; exact hb)) hlt;have hdr : l.drop j = l[j] :: l.drop (j + 1):=List.drop_eq_getElem_cons hlt;obtain ⟨x,hx⟩ : ∃ x,l[j] = x:=⟨_,rfl⟩;have hx32 : x < 4294967296:=hx ▸ HLT.out _ (List.getElem_mem hlt);rw [hx] at hcell hdr;have hnew : divGo 4294967296 d (l.drop j) = (((divGo 4294967296 d (l.drop (j + 1))).2 * 4294967296 + x) / d :: (divGo 4294967296 d (l.drop (j + 1))).1,((divGo 4294967296 d (l.drop (j + 1))).2 * 4294967296 + x) % d):=(by rw [hdr]; rfl);have hrest:=divGo_rest (B:=4294967296) hd0 (l.drop (j + 1));obtain ⟨D,r,hD⟩ : ∃ D r,divGo 4294967296 d (l.drop (j + 1)) = (D,r):=⟨_,_,rfl⟩;rw [hD] at hnew hrest hB;rw [hD];simp only at hnew hrest hB ⊢;clear hdr hx hD;have e1 : IntKind.u64.wrap (x : Int) = (x : Int):=IntWalk.u64_in _ (by omega);have e2 : IntKind.u64.wrap (d : Int) = (d : Int):=IntWalk.u64_in _ (by omega);have hdne : ¬ (d : Int) = 0:=(by omega);have e3:=u64_or_hi r x (by omega) hx32;obtain ⟨N,hN⟩ : ∃ N,r * 4294967296 + x = N:=⟨_,rfl⟩;have hNd : N / d < 4294967296:=by
    rw [Nat.div_lt_iff_lt_mul hd0,← hN];have h3 : r * 4294967296 + 4294967296 ≤ d * 4294967296:=(by rw [← Nat.succ_mul]; exact Nat.mul_le_mul hrest (Nat.le_refl _));omega
   have e4 : ((N : Int).tdiv (d : Int)) = ((N / d : Nat) : Int):=(by rw [Int.tdiv_eq_ediv_of_nonneg (by omega)]; rfl);have e5 : ((N : Int).tmod (d : Int)) = ((N % d : Nat) : Int):=(by rw [Int.tmod_eq_emod_of_nonneg (by omega)]; rfl);obtain ⟨nq,hnq⟩ : ∃ nq,N / d = nq:=⟨_,rfl⟩;obtain ⟨nr,hnr⟩ : ∃ nr,N % d = nr:=⟨_,rfl⟩;rw [hN] at e3;rw [hN,hnq,hnr] at hnew;rw [hnq] at e4 hNd;rw [hnr] at e5;have HN:=Lib.hid hnew;clear hnew hnq hnr hN;have e6 : IntKind.u64.wrap (nq : Int) = (nq : Int):=IntWalk.u64_in _ (by omega);have e7 : (nq : Int) % 4294967296 = (nq : Int):=(by omega);have hcb : wr.cell? ⟨b,j,none⟩ = some (.int .u32 0):=by
    rw [hB.cell j];simp [u32s,List.replicate_succ',List.append_assoc]
   obtain ⟨q1,q2,q3⟩:=hB.rules;go_wp2_with fail;have hB2:=hB.set_ j (.int .u32 (nq : Int));rw [set_u32] at hB2;go_roundw
   case rel => exact ⟨j,by omega,rfl,by rw [HN.out],by rw [HN.out]; exact hB2,hb.setCell (p:=⟨b,j,none⟩) (Nat.le_refl _) _⟩
   case measure => simp [RowKit.intOf]
end Go.Proofs.YtonehlkiackhcaaGreatDoor

namespace Go.Proofs.YtonehlkiackhcaaGreatDoor
open Go.RowKit
def dval (c : UInt8) : Nat:=if 97 ≤ c then c.toNat - 87 else c.toNat - 48
def isDg (B : Nat) (c : UInt8) : Bool:=(decide (48 ≤ c.toNat) && decide (c.toNat ≤ 57) || decide (97 ≤ c.toNat) && decide (c.toNat ≤ 102)) && decide (dval c < B)
def numV (B : Nat) (s : List UInt8) : Nat:=s.foldl (fun n c => n * B + dval c) 0
theorem numV_snoc (B : Nat) (s : List UInt8) (c : UInt8) : numV B (s ++ [c]) = numV B s * B + dval c:=by simp [numV]
theorem numV_lt (B : Nat) (hB : B ≤ 4294967296) : ∀ (k : Nat) (s : List UInt8),s.length = k → (∀ c ∈ s,dval c < B) → numV B s < 4294967296 ^ k
 | 0,s,h,_ => by
  rw [List.eq_nil_of_length_eq_zero h];exact Nat.zero_lt_one
 | k + 1,s,h,hs => by
  obtain ⟨a,x,rfl⟩ : ∃ a x,s = a ++ [x]:=⟨s.dropLast,s.getLast (by rintro rfl; simp at h),(List.dropLast_concat_getLast _).symm⟩;have ih:=numV_lt B hB k a (by simpa using h) (fun c hc => hs c (by simp [hc]));have hx:=hs x (by simp);rw [numV_snoc,Nat.pow_succ];have h1 : numV B a * B + B ≤ 4294967296 ^ k * B:=(by rw [← Nat.succ_mul]; exact Nat.mul_le_mul ih (Nat.le_refl _));have h2 : 4294967296 ^ k * B ≤ 4294967296 ^ k * 4294967296:=Nat.mul_le_mul (Nat.le_refl _) hB;omega
abbrev W32 : Nat:=4294967296
theorem dig_numV_len (B : Nat) (hB : B ≤ 4294967296) (s : List UInt8) (hs : ∀ c ∈ s,dval c < B) : (dig 4294967296 (numV B s)).length ≤ s.length :=
 dig_len (by decide) s.length _ (numV_lt B hB s.length s rfl hs)
theorem bytes_of (s : List UInt8) (w : World) : ∃ (c : Nat) (w1 : World),(convert 9 71 (.string ⟨s.toArray⟩)).run Tryz.prog w = .ok (.slice (some ⟨w.heap.size,0,none⟩) s.length c) w1 ∧
  (∀ (j : Nat) (x : UInt8),s[j]? = some x → w1.cell? ⟨w.heap.size,j,none⟩ = some (.int .u8 (x.toNat : Int))) ∧ Below w.heap.size w w1 ∧ w.heap.size < w1.heap.size:=by
 have h:=run_bytes_of_string (P:=Tryz.prog) w 9 71 5 ⟨s.toArray⟩ Tryz.underlying9 Tryz.underlying71 Tryz.underlying5;refine ⟨_,_,h,fun j x hx => ?_,(Below.refl _ _).drew.alloc (Nat.le_refl _) _,by simp⟩;obtain ⟨hj,rfl⟩:=List.getElem?_eq_some_iff.1 hx;generalize grownCap w (⟨s.toArray⟩ : ByteArray).size 0 5 = cap;obtain ⟨X,hX⟩ : ∃ X,bytesRow ⟨s.toArray⟩ cap = X:=⟨_,rfl⟩;have hXj : X[j]? = some (.int .u8 (s[j].toNat : Int)):=by
  rw [← hX];unfold bytesRow;rw [Array.getElem?_append_left (by simpa using hj)];simp [hj]
 rw [hX];have h2 : (w.drew.alloc (.cells X 5 (X.size,X.size + 1))).heap[w.heap.size]? = some (.cells X 5 (X.size,X.size + 1)):=by
  show (w.heap.push _)[w.heap.size]? = _;simp
 simp only [World.cell?,h2];exact hXj
theorem digits_any (s : List UInt8) (B : Nat) (w : World) (hB0 : 0 < B) (hB : B ≤ 16) (hl : s.length ≤ 5000) (hs : ∀ c ∈ s,isDg B c = true) :
  Calls Tryz.prog 41 #[.string ⟨s.toArray⟩,.int .u32 (B : Int)] w fun e w' => (∃ A c,e = .returned (.slice A (dig 4294967296 (numV B s)).length c) ∧ Row w' A (u32s (dig 4294967296 (numV B s)))) ∧ Below w.heap.size w w':=by
 obtain ⟨b,hbb⟩ : ∃ b,w.heap.size = b:=⟨_,rfl⟩;have HB:=Lib.hid hbb;clear hbb;have HS:=Lib.hid hs;clear hs;obtain ⟨c1,w1,hcv,hcell,hb1,hlt1⟩:=bytes_of s w;have hb0 : Below b w w1:=by rw [← HB.out]; exact hb1
 have hbl : b < w1.heap.size:=by rw [← HB.out]; exact hlt1
 rw [HB.out] at hcv hcell;have HC:=Lib.hid hcell;clear hcell hb1 hlt1;go_enter Tryz.func41,Tryz.ntmps41;go_wp2_with fail;clear hcv
 go_loopw [5,12] (fun v i wr => ∃ (k : Nat) (A : Option Addr) (c : Nat),k ≤ s.length ∧ i = .int .i64 (k : Int) ∧ v = .slice A (dig 4294967296 (numV B (s.take k))).length c ∧ Row wr A (u32s (dig 4294967296 (numV B (s.take k)))) ∧ Below w1.heap.size w1 wr) (fun _ i _ => s.length - (RowKit.intOf i).toNat)
 case atStart => exact ⟨0,none,0,Nat.zero_le _,rfl,by rw [List.take_zero,show numV B [] = 0 from rfl,dig_zero]; rfl,.inl (by rw [List.take_zero,show numV B [] = 0 from rfl,dig_zero]; rfl),Below.refl _ _⟩
 case round =>
  obtain ⟨k,A,cc,hk,rfl,rfl,hrow,hb⟩:=hrel
  by_cases hlt : k < s.length
  ·obtain ⟨x,hx⟩ : ∃ x,s[k]? = some x:=⟨s[k],List.getElem?_eq_getElem hlt⟩;have hcell : wr.cell? ⟨b,k,none⟩ = some (.int .u8 (x.toNat : Int)):=(hb.cell (p:=⟨b,k,none⟩) hbl).trans (HC.out k x hx);have hxd:=HS.out x (List.mem_of_getElem? hx);have htk : s.take (k + 1) = s.take k ++ [x]:=(by rw [List.take_add_one,hx]; rfl);have hdl:=dig_numV_len B (by omega) (s.take k) (fun c hc => by
    have:=HS.out c (List.mem_of_mem_take hc);unfold isDg at this;rw [Bool.and_eq_true,decide_eq_true_eq] at this;exact this.2)
   rw [List.length_take] at hdl;have hdg : dval x < B:=by
    unfold isDg at hxd;rw [Bool.and_eq_true,decide_eq_true_eq] at hxd;exact hxd.2
   have hrng : (48 ≤ x.toNat ∧ x.toNat ≤ 57) ∨ (97 ≤ x.toNat ∧ x.toNat ≤ 102):=by
    unfold isDg at hxd;rw [Bool.and_eq_true,Bool.or_eq_true,Bool.and_eq_true,Bool.and_eq_true] at hxd;simpa using hxd.1
   have HT:=Lib.hid (times_any (w:=wr) (dig 4294967296 (numV B (s.take k))) A cc B (dval x) (dig_lt (by decide) _) (by omega) (by omega) (by omega) hrow);rw [mulGo_dig (by decide) (by omega) hB0 _ _ (by omega),← numV_snoc,← htk] at HT;obtain ⟨L,hL⟩ : ∃ L,dig 4294967296 (numV B (s.take k)) = L:=⟨_,rfl⟩;rw [hL] at HT;rw [hL];clear hx htk hL hrow hxd hdl;have hbw:=below_then hb0 hb (by omega);rcases hrng with ⟨hg0,hg1⟩ | ⟨hg0,hg1⟩
   ·have hv : dval x = x.toNat - 48:=(by unfold dval; rw [if_neg (by rw [UInt8.le_iff_toNat_le]; show ¬ 97 ≤ x.toNat; omega)]);have HV:=Lib.hid hv;have f1 : ((x.toNat : Int) - 48) % 256 = (x.toNat : Int) - 48:=(by omega);have f2 : decide ((97 : Int) ≤ (x.toNat : Int)) = false:=(by simp; omega);have f3 : IntKind.u8.wrap ((x.toNat : Int) - 48) = (x.toNat : Int) - 48:=(by rw [IntKind.wrap_u8]; omega);have f4 : IntKind.u32.wrap ((x.toNat : Int) - 48) = (x.toNat : Int) - 48:=IntWalk.u32_in _ (by omega);clear hv;go_wp2_with fail;rw [show ((x.toNat : Int) - 48) = ((dval x : Nat) : Int) from by rw [HV.out]; omega];refine HT.out.mono ?_;rintro e w2 ⟨⟨A',c',rfl,hr'⟩,ba⟩;have hb2:=below_then hb ba (by have:=hb.size; omega);clear HT ba;go_wp2_with fail;go_roundw
    case rel => exact ⟨k + 1,A',c',by omega,by go_num,rfl,hr',hb2⟩
    case measure => simp [RowKit.intOf]; omega
   ·have hv : dval x = x.toNat - 87:=(by unfold dval; rw [if_pos (by rw [UInt8.le_iff_toNat_le]; show 97 ≤ x.toNat; omega)]);have HV:=Lib.hid hv;have f2 : decide ((97 : Int) ≤ (x.toNat : Int)) = true:=(by simp; omega);have f3 : IntKind.u8.wrap ((x.toNat : Int) - 48) = (x.toNat : Int) - 48:=(by rw [IntKind.wrap_u8]; omega);have f4 : IntKind.u32.wrap ((x.toNat : Int) - 48) = (x.toNat : Int) - 48:=IntWalk.u32_in _ (by omega);have g1 : ((x.toNat : Int) - 48) % 256 = (x.toNat : Int) - 48:=(by omega);have g2 : ((x.toNat : Int) - 97) % 256 = (x.toNat : Int) - 97:=(by omega);have f5 : IntKind.u8.wrap ((x.toNat : Int) - 97) = (x.toNat : Int) - 97:=(by rw [IntKind.wrap_u8]; omega);have f6 : IntKind.u32.wrap ((x.toNat : Int) - 97) = (x.toNat : Int) - 97:=IntWalk.u32_in _ (by omega);have f7 : IntKind.u32.wrap ((x.toNat : Int) - 97 + 10) = (x.toNat : Int) - 97 + 10:=IntWalk.u32_in _ (by omega);clear hv;go_wp2_with fail;rw [show ((x.toNat : Int) - 97 + 10) = ((dval x : Nat) : Int) from by rw [HV.out]; omega];refine HT.out.mono ?_;rintro e w2 ⟨⟨A',c',rfl,hr'⟩,ba⟩;have hb2:=below_then hb ba (by have:=hb.size; omega);clear HT ba;go_wp2_with fail;go_roundw
    case rel => exact ⟨k + 1,A',c',by omega,by go_num,rfl,hr',hb2⟩
    case measure => simp [RowKit.intOf]; omega
  ·have hks : s.take k = s:=List.take_of_length_le (by omega);rw [hks] at hrow ⊢;have hb2:=below_then hb0 hb (by omega);go_wp2_with fail;go_ret;exact ⟨⟨A,cc,rfl,hrow⟩,by rw [HB.out]; exact hb2⟩
end Go.Proofs.YtonehlkiackhcaaGreatDoor
