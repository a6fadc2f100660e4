/- The literals: the number of some digits, as the reference reads it. Nothing is claimed here. -/
import Derived.Test.YtonehlkiackhcaaGreatDoorLitX
import Derived.Shelf.Strings.CaseAny
set_option linter.unusedVariables false
set_option linter.unusedSimpArgs false
set_option maxRecDepth 100000
set_option maxHeartbeats 16000000
namespace Go.Proofs.YtonehlkiackhcaaGreatDoor
section
open Go.RowKit Go.Shelf Go.Lib
def runesF : Nat → List UInt8 → List Nat
 | 0,_ => []
 | f + 1,l => if l = [] then [] else (decodeL l).1 :: runesF f (l.drop (decodeL l).2)
def runesL (l : List UInt8) : List Nat:=runesF l.length l
def rcs (l : List Nat) : List Value:=l.map fun n : Nat => Value.int .i32 (n:Int)
theorem runesF_len : ∀ (f:Nat) (l : List UInt8),(runesF f l).length ≤ f
 | 0,l => Nat.le_refl _
 | f + 1,l => by
  unfold runesF;split
  ·exact Nat.zero_le _
  ·have:=runesF_len f (l.drop (decodeL l).2);simp;omega
theorem runesF_lt : ∀ (f:Nat) (l : List UInt8),∀ r ∈ runesF f l,r < 1114112
 | 0,l,r,h => by cases h
 | f + 1,l,r,h => by
  unfold runesF at h;split at h
  ·cases h
  ·rcases List.mem_cons.1 h with h | h
   ·rw [h]; exact decodeL_lt l
   ·exact runesF_lt f _ r h
theorem runesFrom_eq (l : List UInt8) : ∀ (f p:Nat) (acc : Array Value),p ≤ l.length → l.length ≤ p + f → Conv.runesFrom ⟨l.toArray⟩ f p acc = acc ++ (rcs (runesF f (l.drop p))).toArray
 | 0,p,acc,_,_ => by simp [Conv.runesFrom,runesF,rcs]
 | f + 1,p,acc,h1,h2 => by
  have e : (⟨l.toArray⟩ : ByteArray).size = l.length:=(by simp [ByteArray.size]);unfold Conv.runesFrom runesF
  by_cases hp : p < l.length
  ·have hne : l.drop p ≠ []:=(by intro e; have:=congrArg List.length e; rw [List.length_drop,List.length_nil] at this; omega);have hw:=width_pos _ hne;have hw2:=decodeL_width_le _ hne;rw [List.length_drop] at hw2;rw [if_pos (by rw [e]; exact hp),if_neg hne,decode_drop];simp only;rw [runesFrom_eq l f _ _ (by omega) (by omega),List.drop_drop];simp [rcs]
  ·rw [if_neg (by rw [e]; exact hp),if_pos (List.drop_eq_nil_of_le (by omega))];simp [rcs]
theorem runesFrom_all (l : List UInt8) : Conv.runesFrom ⟨l.toArray⟩ (⟨l.toArray⟩ : ByteArray).size 0 #[] = (rcs (runesL l)).toArray:=by
 have e : (⟨l.toArray⟩ : ByteArray).size = l.length:=by simp [ByteArray.size]
 rw [e,runesFrom_eq l l.length 0 #[] (by omega) (by omega)];simp [runesL]
def RRow (w : World) (A : Option Addr) (rs : List Nat) : Prop:=rs = []∨∃ g cells,A = some ⟨g,0,none⟩∧Blk w g 21 cells∧∀ (j n:Nat),rs[j]? = some n → cells[j]? = some (.int .i32 (n:Int))
theorem RRow.belowS {w w' : World} {A : Option Addr} {rs : List Nat} (h : RRow w A rs) (hb : Below w.heap.size w w') : RRow w' A rs:=by
 rcases h with h | ⟨g,cells,h1,h2,h3⟩
 ·exact .inl h
 ·exact .inr ⟨g,cells,h1,h2.belowS hb,h3⟩
theorem RRow.others {w w' : World} {A : Option Addr} {rs : List Nat} {b : Nat} {T : Array Value} (h : RRow w A rs) (hB : Blk w b 99 T) (ho : Lib.OthersKept 5 (some b) w w') : RRow w' A rs:=by
 rcases h with h | ⟨g,cells,h1,h2,h3⟩
 ·exact .inl h
 ·exact .inr ⟨g,cells,h1,h2.others ho (h2.ne_ hB (by decide)) (by decide),h3⟩
theorem Bld.blk {w : World} {b : Nat} {l : List UInt8} (h : Bld w b l) : ∃ T,Blk w b 99 T:=by
 obtain ⟨p,_,v,hb,_⟩:=h.at_;exact ⟨_,hb⟩
theorem RRow.at_ {w : World} {A : Option Addr} {rs : List Nat} (h : RRow w A rs) {k : Nat} (hk : k < rs.length) : ∃ g,A = some ⟨g,0,none⟩∧w.cell? ⟨g,k,none⟩ = some (.int .i32 (rs[k]:Int)):=by
 rcases h with h | ⟨g,cells,h1,h2,h3⟩
 ·subst h; simp at hk
 ·exact ⟨g,h1,(h2.cell k).trans (h3 k _ (List.getElem?_eq_getElem hk))⟩
def RunPost (w : World) (rs : List Nat) (e : Ending) (w' : World) : Prop:=∃ A c,e = .returned (.slice A rs.length c)∧RRow w' A rs∧Below w.heap.size w w'
theorem runes_any (l : List UInt8) (w : World) (hl : l.length ≤ 1099511627776) : Calls Tryz.prog 27 #[.string ⟨l.toArray⟩] w (RunPost w (runesL l)):=by
 have h:=run_runes_of_string (P:=Tryz.prog) w 9 118 21 ⟨l.toArray⟩ Tryz.underlying9 Tryz.underlying118 Tryz.underlying21 (by rw [runesFrom_all]; have:=runesF_len l.length l; simp [rcs,runesL]; omega);rw [runesFrom_all] at h;obtain ⟨cap,hcap⟩ : ∃ cap,grownCap w (rcs (runesL l)).toArray.size 0 21 = cap:=⟨_,rfl⟩;rw [hcap] at h;have hsz : (rcs (runesL l)).toArray.size = (runesL l).length:=by simp [rcs]
 obtain ⟨X,hX⟩ : ∃ X,(rcs (runesL l)).toArray ++ Array.replicate (cap - (rcs (runesL l)).toArray.size) (.int .i32 0) = X:=⟨_,rfl⟩;rw [hX,hsz] at h;have hB:=Blk.new w.drew 21 X;have hb:=((Below.refl w.heap.size w).drew).alloc (Nat.le_refl _) (.cells X 21);have hXj : ∀ (j n:Nat),(runesL l)[j]? = some n → X[j]? = some (.int .i32 (n:Int)):=fun j n hj => by
  obtain ⟨hlt,hv⟩:=List.getElem?_eq_some_iff.1 hj;rw [← hX,Array.getElem?_append_left (by rw [hsz]; exact hlt)];simp [rcs,hlt,hv]
 have HX:=hid hXj;clear hcap hX hXj hsz;go_enter Tryz.func27,Tryz.ntmps27;go_wp2_with fail;go_ret;exact ⟨_,_,rfl,.inr ⟨_,X,rfl,hB,HX.out⟩,hb⟩
def ctlB (n:Nat) : Bool:=decide (n < 32) || (decide (127 ≤ n) && decide (n < 160))
theorem control_any (n:Nat) (w : World) : Calls Tryz.prog 26 #[.int .i32 (n:Int)] w fun e w' => e = .returned (.bool (ctlB n))∧w = w':=by
 have HC:=hid (show ctlB n = (decide (n < 32) || (decide (127 ≤ n) && decide (n < 160))) from rfl);obtain ⟨B,hB⟩ : ∃ B,ctlB n = B:=⟨_,rfl⟩;rw [hB] at HC ⊢;clear hB
 by_cases h1 : n < 32
 ·have d1 : decide ((n:Int) < 32) = true:=decide_eq_true (by omega);have HV:=hid (show B = true from by rw [HC.out,decide_eq_true h1]; rfl);clear h1;go_enter Tryz.func26,Tryz.ntmps26;go_wp2_with fail;go_ret;exact ⟨by rw [HV.out]; rfl,rfl⟩
 ·have d1 : decide ((n:Int) < 32) = false:=decide_eq_false (by omega)
  by_cases h2 : 127 ≤ n
  ·have d2 : decide ((n:Int) ≥ 127) = true:=decide_eq_true (by omega)
   by_cases h3 : n < 160
   ·have d3 : decide ((n:Int) < 160) = true:=decide_eq_true (by omega);have HV:=hid (show B = true from by rw [HC.out,decide_eq_false h1,decide_eq_true h2,decide_eq_true h3]; rfl);clear h1 h2 h3;go_enter Tryz.func26,Tryz.ntmps26;go_wp2_with fail;go_ret;exact ⟨by rw [HV.out]; rfl,rfl⟩
   ·have d3 : decide ((n:Int) < 160) = false:=decide_eq_false (by omega);have HV:=hid (show B = false from by rw [HC.out,decide_eq_false h1,decide_eq_true h2,decide_eq_false h3]; rfl);clear h1 h2 h3;go_enter Tryz.func26,Tryz.ntmps26;go_wp2_with fail;go_ret;exact ⟨by rw [HV.out]; rfl,rfl⟩
  ·have d2 : decide ((n:Int) ≥ 127) = false:=decide_eq_false (by omega);have HV:=hid (show B = false from by rw [HC.out,decide_eq_false h1,decide_eq_false h2]; rfl);clear h1 h2;go_enter Tryz.func26,Tryz.ntmps26;go_wp2_with fail;go_ret;exact ⟨by rw [HV.out]; rfl,rfl⟩
end
section
open Go.Lib
def lowOk (x : CaseRow) : Bool:=decide (x.2.1 ≤ 127) || (if x.delta 1 > 1114111 then decide (103 ≤ x.1) else decide (103 ≤ (x.1:Int) + x.delta 1))
theorem rowsLow : caseT.all lowOk = true:=by decide
theorem caseA_low (i:Nat) (hi : i < caseA.size) : lowOk (caseA.getD i (0,0,0,0,0)) = true:=by
 have hm : caseA.getD i (0,0,0,0,0) ∈ caseT:=by
  unfold caseA at hi ⊢;have hi' : i < caseT.length:=(by simpa using hi);simp [Array.getD,hi']
 exact List.all_eq_true.1 rowsLow _ hm
theorem toLowerU_high (x:Nat) (h : 128 ≤ x) : 103 ≤ toLowerU (x:Int):=by
 unfold toLowerU;rw [if_neg (by omega)];unfold toR lookupGo;cases hi : lookupIdx caseA (x:Int) (caseA.size + 1) 0 caseA.size with
 | none => show (103:Int) ≤ (x:Int); omega
 | some i =>
  obtain ⟨hil,hlo,hhi⟩:=lookupIdx_some caseA (x:Int) _ _ _ i hi;have hr:=caseA_low i hil;show 103 ≤ convertR 1 (x:Int) (caseA.getD i (0,0,0,0,0));generalize caseA.getD i (0,0,0,0,0) = y at hr hlo hhi;unfold lowOk at hr;unfold convertR;rw [Bool.or_eq_true,decide_eq_true_eq] at hr;split
  ·rename_i h1;rw [if_pos h1,decide_eq_true_eq] at hr;omega
  ·rename_i h1;rw [if_neg h1,decide_eq_true_eq] at hr;omega
theorem encode_head (r:Int) (h : 103 ≤ r) : ∃ b t,encodeRune r = b :: t∧103 ≤ b.toNat:=by
 unfold encodeRune encodeRuneZ;split
 ·exact ⟨_,_,rfl,by simp; omega⟩
 ·split
  ·exact ⟨_,_,rfl,by simp; omega⟩
  ·split
   ·exact ⟨_,_,rfl,by simp; omega⟩
   ·split
    ·exact ⟨_,_,rfl,by simp; omega⟩
    ·exact ⟨_,_,rfl,by decide⟩
def digO (B:Nat) (t : List UInt8) : Option Nat:=if t ≠ []∧t.all (isDg B) = true then some (numV B t) else none
theorem isDg_high {B : Nat} {b : UInt8} (h : 103 ≤ b.toNat) : isDg B b = false:=by
 unfold isDg;rw [Bool.and_eq_false_iff];left;simp;omega
theorem low_high : ∀ (r : List UInt8),(∃ b ∈ r,128 ≤ b.toNat) → (toLowerD r).all (isDg 16) = false
 | [],h => by obtain ⟨b,hb,_⟩:=h; cases hb
 | b :: t,h => by
  unfold toLowerD;rw [mapD_step toLowerU (b :: t) (by simp)]
  by_cases hb : b.toNat < 128
  ·have ih:=low_high t (by
    obtain ⟨c,hc,h8⟩:=h;rcases List.mem_cons.1 hc with rfl | hc
    ·omega
    ·exact ⟨c,hc,h8⟩)
   unfold toLowerD at ih;rw [decodeL_ascii b t hb];simp only [List.drop_succ_cons,List.drop_zero,List.all_append,ih,Bool.and_false]
  ·rcases decodeL_head (b :: t) (by simp) with ⟨h1,_⟩ | ⟨h1,_⟩
   ·rw [bAt_zero] at h1; omega
   ·have h2:=toLowerU_high _ h1;obtain ⟨c,u,hu,hc⟩:=encode_head _ h2;rw [if_pos (by omega),hu];simp only [List.cons_append,List.all_cons,isDg_high hc,Bool.false_and]
theorem lowB_all : ∀ i : Fin 256,isDg 16 (lowerB (UInt8.ofNat i.val)) = (hexD (UInt8.ofNat i.val)).isSome∧∀ d,hexD (UInt8.ofNat i.val) = some d → dval (lowerB (UInt8.ofNat i.val)) = d:=by
 intro i;have h1 : ∀ i : Fin 256,isDg 16 (lowerB (UInt8.ofNat i.val)) = (hexD (UInt8.ofNat i.val)).isSome:=by decide
 have h2 : ∀ i : Fin 256,(hexD (UInt8.ofNat i.val)).getD (dval (lowerB (UInt8.ofNat i.val))) = dval (lowerB (UInt8.ofNat i.val)):=by decide
 exact ⟨h1 i,fun d hd => by have:=h2 i; rw [hd] at this; exact this.symm⟩
theorem lowB_byte (c : UInt8) : isDg 16 (lowerB c) = (hexD c).isSome∧∀ d,hexD c = some d → dval (lowerB c) = d:=by
 have h:=lowB_all ⟨c.toNat,c.toNat_lt⟩;simpa using h
theorem hexF_low : ∀ (r : List UInt8) (n k:Nat),r.length ≤ k → k ≤ 7 → n < 16 ^ (7 - k) → (∀ c ∈ r,isDg 16 (lowerB c) = true) → hexF n r = some ((r.map lowerB).foldl (fun n c => n * 16 + dval c) n)
 | [],n,k,_,_,_,_ => rfl
 | c :: r,n,k,hk,h7,hn,hd => by
  have hc:=lowB_byte c;rw [hd c (by simp)] at hc;obtain ⟨d,hd1⟩:=Option.isSome_iff_exists.1 hc.1.symm;have hd16:=(hexD_byte hd1).2.2.1;obtain ⟨j,rfl⟩ : ∃ j,k = j + 1:=⟨k - 1,by simp at hk; omega⟩;have hn2 : n * 16 + d < 16 ^ (7 - j):=by
   rw [show 7 - j = 7 - (j + 1) + 1 by omega,Nat.pow_succ];omega
  have hle : 16 ^ (7 - j) ≤ 16 ^ 7:=Nat.pow_le_pow_right (by decide) (by omega);unfold hexF;rw [hd1];simp only;rw [if_pos (by omega),hexF_low r (n * 16 + d) j (by simpa using hk) (by omega) hn2 (fun x hx => hd x (by simp [hx]))];simp only [List.map_cons,List.foldl_cons,hc.2 d hd1]
theorem hexF_none : ∀ (r : List UInt8) (n:Nat),(∃ c ∈ r,isDg 16 (lowerB c) = false) → hexF n r = none
 | [],n,h => by obtain ⟨b,hb,_⟩:=h; cases hb
 | c :: r,n,h => by
  unfold hexF;cases hd : hexD c with
  | none => rfl
  | some d =>
   simp only;split
   ·refine hexF_none r _ ?_;obtain ⟨b,hb,hb2⟩:=h;rcases List.mem_cons.1 hb with rfl | hb
    ·rw [(lowB_byte b).1,hd] at hb2; cases hb2
    ·exact ⟨b,hb,hb2⟩
   ·rfl
theorem hex_low (r : List UInt8) (hl : r.length ≤ 7) : hexS r = digO 16 (toLowerD r):=by
 by_cases ha : ∀ b ∈ r,b.toNat < 128
 ·rw [toLowerD_ascii r ha];have hA : toLowerA r = r.map lowerB:=rfl;rw [hA];unfold hexS digO
  by_cases hr : r = []
  ·subst hr; rfl
  ·rw [if_neg hr]
   by_cases hall : (r.map lowerB).all (isDg 16) = true
   ·rw [if_pos ⟨by simpa using hr,hall⟩];rw [List.all_map,List.all_eq_true] at hall;exact hexF_low r 0 7 hl (Nat.le_refl _) (by decide) hall
   ·rw [if_neg (fun h => hall h.2)];refine hexF_none r 0 ?_;rw [List.all_map,Bool.not_eq_true,List.all_eq_false] at hall;obtain ⟨c,hc,h⟩:=hall;exact ⟨c,hc,by simpa using h⟩
 ·have hhigh : ∃ b ∈ r,128 ≤ b.toNat:=by
   apply Classical.byContradiction;intro hn;exact ha fun b hb => Classical.byContradiction fun h => hn ⟨b,hb,by omega⟩
  unfold digO;rw [if_neg (fun h => by rw [low_high r hhigh] at h; exact absurd h.2 (by decide))];unfold hexS;split
  ·rfl
  ·refine hexF_none r 0 ?_;obtain ⟨b,hb,h8⟩:=hhigh;refine ⟨b,hb,?_⟩;rw [(lowB_byte b).1];unfold hexD;rw [if_neg (by omega),if_neg (by omega),if_neg (by omega)];rfl
end
section
open Go.RowKit
def i64s (l : List Nat) : List Value:=l.map fun n : Nat => Value.int .i64 (n:Int)
theorem i64s_snoc (d : List Nat) (x:Nat) : i64s (d ++ [x]) = i64s d ++ [.int .i64 (x:Int)]:=by simp [i64s]
theorem i64s_len (l : List Nat) : (i64s l).length = l.length:=by simp [i64s]
theorem info_i64 : (Tryz.prog.info? 3).map (fun i => (i.zero,i.size,i.bytes)) = some (some (.int .i64 0),1,8):=by kernel_rfl
theorem row_i64 {w : World} {A : Option Addr} {m : List Nat} (h : Row w A (i64s m)) {j : Nat} (hj : j < m.length) : ∃ b off,A = some ⟨b,off,none⟩∧w.cell? ⟨b,off + j,none⟩ = some (.int .i64 (m[j]:Int)):=by
 obtain ⟨b,off,e,hlt,hc⟩:=h.at_ (k:=j) (by rw [i64s_len]; exact hj);exact ⟨b,off,e,hc j _ (by simp [i64s,hj])⟩
theorem row_take {w : World} {A : Option Addr} {xs : List Value} (h : Row w A xs) (k:Nat) : Row w A (xs.take k):=by
 rcases h with h | ⟨b,off,e,hlt,hc⟩
 ·subst h; exact .inl (by simp)
 ·refine .inr ⟨b,off,e,hlt,fun j u hu => hc j u ?_⟩;rw [List.getElem?_take] at hu;split at hu
  ·exact hu
  ·cases hu
theorem trimZ_take (l : List Nat) : trimZ l = l.take (trimZ l).length:=by
 unfold trimZ;obtain ⟨t,ht⟩:=List.dropWhile_suffix (· == 0) (l:=l.reverse);obtain ⟨u,hu⟩ : ∃ u,List.dropWhile (· == 0) l.reverse = u:=⟨_,rfl⟩;rw [hu] at ht ⊢;have h2 : l = u.reverse ++ t.reverse:=by
  rw [← List.reverse_append,ht,List.reverse_reverse]
 rw [h2,List.take_left]
theorem dtrim_any {w : World} (l : List Nat) (A : Option Addr) (c:Nat) (hlen : l.length ≤ 100000) (hc : l.length ≤ c) (hr : Row w A (i64s l)) :
  Calls Tryz.prog 90 #[.slice A l.length c] w fun e w' => e = .returned (.slice A (trimZ l).length c)∧w = w':=by
 go_enter Tryz.func90,Tryz.ntmps90;go_wp2_with fail
 go_loop [0] (fun v => ∃ k : Nat,k ≤ l.length∧v = .slice A k c∧Hid (trimZ (l.take k) = trimZ l)) (fun v => lenOf v)
 case atStart => exact ⟨l.length,Nat.le_refl _,rfl,Lib.hid (by rw [List.take_length])⟩
 case round =>
  obtain ⟨k,hk,rfl,HT⟩:=hrel;have htl : (l.take k).length = k:=(by rw [List.length_take]; omega);rcases k with _ | j
  ·have HF:=Lib.hid (show trimZ l = [] from by rw [← HT.out]; rfl);go_wp2_with fail;go_ret;exact ⟨by rw [HF.out]; rfl,rfl⟩
  ·obtain ⟨b0,off,rfl,hcell⟩:=row_i64 hr (j:=j) (by omega);obtain ⟨z,hz⟩ : ∃ z,l[j]'(by omega) = z:=⟨_,rfl⟩;rw [hz] at hcell;have hts : l.take (j + 1) = l.take j ++ [z]:=by rw [List.take_add_one,List.getElem?_eq_getElem (by omega),hz]; rfl
   by_cases h0 : z = 0
   ·subst h0;have HT2:=Lib.hid (show trimZ (l.take j) = trimZ l from by rw [← HT.out,hts,trimZ_snoc_zero]);clear hts hz;go_wp2_with fail
    go_round
    case rel => exact ⟨j,by omega,by go_num,HT2⟩
    case measure => simp [lenOf]
   ·have h1 : ((z:Int) == 0) = false:=(by rw [beq_eq_false_iff_ne]; omega);have HF:=Lib.hid (show trimZ l = l.take (j + 1) from by rw [← HT.out,hts,trimZ_snoc _ h0]);clear hts hz;go_wp2_with fail;go_ret;exact ⟨by rw [HF.out,htl]; rfl,rfl⟩
theorem mulGo_bd (m C:Nat) (hm : m ≤ C) : ∀ (l : List Nat) (c:Nat),(∀ x ∈ l,x < 10) → c ≤ C → (mulGo 10 m l c).2 ≤ C
 | [],c,_,hc => hc
 | x :: l,c,hl,hc => by
  unfold mulGo;have hx:=hl x (by simp);have h1 : x * m ≤ 9 * C:=Nat.mul_le_mul (by omega) hm;exact mulGo_bd m C hm l _ (fun y hy => hl y (by simp [hy])) (by omega)
theorem mulGo_all (N m n:Nat) (L : List Nat) (hL : L = dig 10 N) : trimZ ((mulGo 10 m L n).1 ++ dig 10 (mulGo 10 m L n).2) = dig 10 (N * m + n):=by
 subst hL;rw [trimZ_dig (B:=10) (by decide)]
 ·congr 1
  rw [V_append,mulGo_len,V_dig (by decide)];have:=mulGo_V 10 m (dig 10 N) n;rw [V_dig (by decide)] at this;exact this
 ·intro x hx;rcases List.mem_append.1 hx with h | h
  ·exact mulGo_lt (by decide) _ _ x h
  ·exact dig_lt (by decide) _ x h
theorem affine_any {w : World} (N m n:Nat) (A : Option Addr) (c:Nat) (hlen : (dig 10 N).length ≤ 10000) (hm : m ≤ 4294967296) (hn : n ≤ 4294967296) (hr : Row w A (i64s (dig 10 N))) :
  Calls Tryz.prog 50 #[.slice A (dig 10 N).length c,.int .i64 (m:Int),.int .i64 (n:Int)] w fun e w' => (∃ A' c',e = .returned (.slice A' (dig 10 (N * m + n)).length c')∧(dig 10 (N * m + n)).length ≤ c'∧Row w' A' (i64s (dig 10 (N * m + n))))∧Below w.heap.size w w':=by
 obtain ⟨iu,hiu,huz0,huz1,huz2⟩:=info_parts info_i64;obtain ⟨b,hbb⟩ : ∃ b,w.heap.size = b:=⟨_,rfl⟩;have HB:=Lib.hid hbb;clear hbb;obtain ⟨R,hR⟩ : ∃ R,dig 10 (N * m + n) = R:=⟨_,rfl⟩;rw [hR];have HL:=Lib.hid (fun x (hx : x ∈ dig 10 N) => dig_lt (B:=10) (by decide) N x hx);have HRR:=Lib.hid (fun L hL => (mulGo_all N m n L hL).trans hR);clear hR;obtain ⟨l,hl⟩ : ∃ l,dig 10 N = l:=⟨_,rfl⟩;rw [hl] at hlen hr HL ⊢;have HLN:=Lib.hid hl;clear hl;have HBD:=Lib.hid (fun k => mulGo_bd m 4294967296 hm (l.take k) n (fun x hx => HL.out x (List.mem_of_mem_take hx)) hn);go_enter Tryz.func50,Tryz.ntmps50;go_wp2_with fail
 go_loopw [2,7,12] (fun cr v i wr => ∃ (k q:Nat),k ≤ l.length∧i = .int .i64 (k:Int)∧cr = .int .i64 (q:Int)∧q ≤ 4294967296∧Hid (mulGo 10 m (l.take k) n = ((mulGo 10 m (l.take k) n).1,q))∧wr.ownsRow b 3 1 v k (i64s (mulGo 10 m (l.take k) n).1)∧Below b w wr) (fun _ _ i _ => l.length - (RowKit.intOf i).toNat)
 case atStart => exact ⟨0,n,Nat.zero_le _,rfl,rfl,hn,Lib.hid rfl,World.ownsRow_nil _ _ _ _,by rw [← HB.out]; exact Below.refl _ _⟩
 case round =>
  obtain ⟨k,q,hk,rfl,rfl,hq,HM,hown,hb⟩:=hrel;have hbs:=hb.size;rw [HB.out] at hbs
  by_cases hlt : k < l.length
  ·obtain ⟨b0,off,rfl,hcell⟩:=row_i64 (hr.keepB (by rw [HB.out]; exact hb)) hlt;have htk : l.take (k + 1) = l.take k ++ [l[k]]:=(by rw [List.take_add_one,List.getElem?_eq_getElem hlt]; rfl);obtain ⟨x,hx⟩ : ∃ x,l[k] = x:=⟨_,rfl⟩;have hx10 : x < 10:=hx ▸ HL.out _ (List.getElem_mem hlt);rw [hx] at hcell htk;have HTK:=Lib.hid htk;clear hx htk;have hxm : x * m ≤ 9 * 4294967296:=Nat.mul_le_mul (by omega) hm;have hP : (x:Int) * (m:Int) = ((x * m:Nat):Int):=(Int.natCast_mul x m).symm;have p2 : (0:Int) ≤ (x:Int) * (m:Int):=(by rw [hP]; omega);have p3 : (x:Int) * (m:Int) ≤ 38654705664:=(by rw [hP]; omega);have p0 : (0:Int) ≤ (q:Int) + (x:Int) * (m:Int):=(by omega);have p1 : (q:Int) + (x:Int) * (m:Int) ≤ 47244640256:=(by omega);have HP:=Lib.hid hP;clear hP;go_wp2_with (at_builtin; refine wpList_append_own_at _ rfl (.tmp 21) (.tmp 24) 52 rfl b 3 iu _ 1 8 Tryz.underlying52 hiu huz0 huz1 huz2 rfl (by decide) _ _ _ rfl (hown.alloc _) ⟨wr.heap.size,0,none⟩ 1 1 [_] rfl rfl (cell_one_new wr _ _) (by simp [Value.oneCell']) (by unfold maxLen; omega) (by omega) (by simp; omega) ?_; intro v2 w2 hown2 hg2 _ hat2);have hnew : mulGo 10 m (l.take (k + 1)) n = ((mulGo 10 m (l.take k) n).1 ++ [(q + x * m) % 10],(q + x * m) / 10):=by
    rw [HTK.out,mulGo_snoc,show (mulGo 10 m (l.take k) n).2 = q from congrArg Prod.snd HM.out]
   have hc1 : (((q:Int) + (x:Int) * (m:Int)) % 10) = (((q + x * m) % 10:Nat):Int):=(by rw [HP.out]; omega);have hc2 : (((q:Int) + (x:Int) * (m:Int)) / 10) = (((q + x * m) / 10:Nat):Int):=(by rw [HP.out]; omega);rw [hc1,← i64s_snoc] at hown2;rw [hc2];have hb2:=(hb.alloc hbs _).grown hg2 (by simp; omega) (fun g e => by have:=hown.lt g e; omega);have hq2 : (q + x * m) / 10 ≤ 4294967296:=by
    have:=HBD.out (k + 1);rw [hnew] at this;exact this
   go_roundw
   case rel => exact ⟨k + 1,(q + x * m) / 10,by omega,by go_num,rfl,hq2,Lib.hid (by rw [hnew]),by rw [hnew]; exact hown2,hb2⟩
   case measure => simp [RowKit.intOf]; omega
  ·have hkl : k = l.length:=(by omega);have HM2:=Lib.hid (show mulGo 10 m l n = ((mulGo 10 m (l.take k) n).1,q) from by rw [← HM.out,hkl,List.take_length]);obtain ⟨D,hD⟩ : ∃ D,(mulGo 10 m (l.take k) n).1 = D:=⟨_,rfl⟩;rw [hD] at HM2 hown;have hDl : D.length = k:=(by rw [← hD,mulGo_len,List.length_take]; omega);have hRD:=HRR.out l HLN.out.symm;rw [HM2.out] at hRD;simp only at hRD;have hq10 : (dig 10 q).length ≤ 10:=dig_len (by decide) 10 q (by omega);obtain ⟨E,hE⟩ : ∃ E,D ++ dig 10 q = E:=⟨_,rfl⟩;rw [hE] at hRD;have HRE:=Lib.hid hRD;have hEl : E.length ≤ 10010:=(by rw [← hE,List.length_append]; omega);rw [← hDl] at hown;have HE:=Lib.hid hE;clear hD hRD HM HM2 hkl hE hDl;go_wp2_with fail
   go_loopw [2,7] (fun cr v wr => ∃ (q:Nat) (D : List Nat),cr = .int .i64 (q:Int)∧q ≤ 4294967296∧Hid (D ++ dig 10 q = E)∧wr.ownsRow b 3 1 v D.length (i64s D)∧Below b w wr) (fun cr _ _ => (RowKit.intOf cr).toNat)
   case atStart => exact ⟨q,D,rfl,hq,HE,hown,hb⟩
   case round =>
    clear hown hb HE;obtain ⟨q,D,rfl,hq,HE,hown,hb⟩:=hrel;have hbs:=hb.size;rw [HB.out] at hbs
    by_cases h0 : 0 < q
    ·have h0' : decide ((0:Int) < (q:Int)) = true:=(by simp; omega);have hdq:=dig_pos (B:=10) (by decide) (n:=q) (by omega);have hE2 : (D ++ [q % 10]) ++ dig 10 (q / 10) = E:=(by rw [← HE.out,hdq]; simp);have hDl : D.length < 10010:=by
      have h3 : (D ++ dig 10 q).length = E.length:=(by rw [HE.out]);rw [hdq,List.length_append,List.length_cons] at h3;omega
     have HE2:=Lib.hid hE2;clear hE2 hdq;go_wp2_with (at_builtin; refine wpList_append_own_at _ rfl (.tmp 31) (.tmp 34) 52 rfl b 3 iu _ 1 8 Tryz.underlying52 hiu huz0 huz1 huz2 rfl (by decide) _ _ _ rfl (hown.alloc _) ⟨wr.heap.size,0,none⟩ 1 1 [_] rfl rfl (cell_one_new wr _ _) (by simp [Value.oneCell']) (by unfold maxLen; omega) (by omega) (by simp; omega) ?_; intro v2 w2 hown2 hg2 _ hat2);have hc1 : ((q:Int) % 10) = ((q % 10:Nat):Int):=(by omega);have hc2 : ((q:Int) / 10) = ((q / 10:Nat):Int):=(by omega);rw [hc1,← i64s_snoc] at hown2;rw [hc2];have hb2:=(hb.alloc hbs _).grown hg2 (by simp; omega) (fun g e => by have:=hown.lt g e; omega);have hq2 : q / 10 ≤ 4294967296:=(by omega);go_roundw
     case rel => exact ⟨q / 10,D ++ [q % 10],rfl,hq2,HE2,by rw [List.length_append]; exact hown2,hb2⟩
     case measure => simp [RowKit.intOf]; omega
    ·have h00 : q = 0:=(by omega);subst h00;have hED : E = D:=(by rw [← HE.out,dig_zero,List.append_nil]);subst hED;obtain ⟨A',c',rfl,hrow,hcap⟩:=own_form hown;have HT:=Lib.hid (dtrim_any E A' c' (by omega) hcap hrow);rw [HRE.out] at HT;go_wp2_with fail;refine HT.out.mono ?_;rintro e w3 ⟨rfl,rfl⟩;go_wp2_with fail;go_ret;refine ⟨⟨A',c',rfl,?_,?_⟩,by rw [HB.out]; exact hb⟩
     ·have h5:=trimZ_take E;rw [HRE.out] at h5;have h6 : R.length ≤ E.length:=(by rw [h5,List.length_take]; omega);omega
     ·have h5:=trimZ_take E;rw [HRE.out] at h5;rw [h5];have:=row_take hrow R.length;unfold i64s at this ⊢;rw [List.map_take];exact this
end
section
open Go.RowKit Go.Lib
def figs : List UInt8:=[48,49,50,51,52,53,54,55,56,57,97,98,99,100,101,102]
theorem run_upto (l : List UInt8) (i:Nat) (h2 : i ≤ l.length) (x:Int) (hx : x = (i:Int)) (W : World) :
  (Instr.slice 9 (.string ⟨l.toArray⟩) none (some (.int .i64 x)) none).run Tryz.prog W = .ok (.string ⟨(l.take i).toArray⟩) W:=by
 subst hx;rw [run_slice_string_to_if W 9 ⟨l.toArray⟩ .i64 _ Tryz.underlying9,if_pos (by simp [ByteArray.size]; omega),Int.toNat_natCast,extract_sub];simp
theorem figs16 : ∀ i : Fin 256,Lib.indexByte (figs.take 16) (UInt8.ofNat i.val) = if isDg 16 (UInt8.ofNat i.val) then (dval (UInt8.ofNat i.val):Int) else -1:=by decide
theorem figs10 : ∀ i : Fin 256,Lib.indexByte (figs.take 10) (UInt8.ofNat i.val) = if isDg 10 (UInt8.ofNat i.val) then (dval (UInt8.ofNat i.val):Int) else -1:=by decide
theorem figs2 : ∀ i : Fin 256,Lib.indexByte (figs.take 2) (UInt8.ofNat i.val) = if isDg 2 (UInt8.ofNat i.val) then (dval (UInt8.ofNat i.val):Int) else -1:=by decide
theorem figsB {B : Nat} (hB : B = 16∨B = 10∨B = 2) (c : UInt8) : Lib.indexByte (figs.take B) c = if isDg B c then (dval c:Int) else -1:=by
 rcases hB with rfl | rfl | rfl
 ·have:=figs16 ⟨c.toNat,c.toNat_lt⟩; simpa using this
 ·have:=figs10 ⟨c.toNat,c.toNat_lt⟩; simpa using this
 ·have:=figs2 ⟨c.toNat,c.toNat_lt⟩; simpa using this
theorem ib_at (t : List UInt8) (c : UInt8) (k:Int) (h : Lib.indexByte t c = k) (W : World) : Calls Tryz.prog 87 #[.string ⟨t.toArray⟩,.int .u8 (c.toNat:Int)] W fun e w' => e = .returned (.int .i64 k)∧W = w' :=
 (Tryz.strings_IndexByte ⟨t.toArray⟩ (c.toNat:Int) W).mono fun _ _ h' => ⟨by rw [h'.1,Int.toNat_natCast,show c.toNat.toUInt8 = c from by simp,← h],h'.2.symm⟩
theorem isDg_val {B : Nat} {c : UInt8} (h : isDg B c = true) : dval c < B:=by
 unfold isDg at h;rw [Bool.and_eq_true,decide_eq_true_eq] at h;exact h.2
theorem dig10_len (B:Nat) (hB : B ≤ 16) (s : List UInt8) (hs : ∀ c ∈ s,isDg B c = true) : (dig 10 (numV B s)).length ≤ 10 * s.length:=by
 refine dig_len (by decide) _ _ ?_;have h1:=numV_lt B (by omega) s.length s rfl (fun c hc => isDg_val (hs c hc));have h2 : 4294967296 ^ s.length ≤ (10 ^ 10) ^ s.length:=Nat.pow_le_pow_left (by decide) _;rw [← Nat.pow_mul] at h2;exact Nat.lt_of_lt_of_le h1 h2
def DgPost (w : World) (R : Option Nat) (e : Ending) (w' : World) : Prop :=
 Below w.heap.size w w'∧match R with
 | none => e = .returned (.tuple #[.slice none 0 0,.bool false])
 | some n => ∃ A c,e = .returned (.tuple #[.slice A (dig 10 n).length c,.bool true])∧(dig 10 n).length ≤ c∧Row w' A (i64s (dig 10 n))
theorem digitsOf_any (s : List UInt8) (B:Nat) (w : World) (hB : B = 16∨B = 10∨B = 2) (hl : s.length ≤ 1000) :
  Calls Tryz.prog 48 #[.string ⟨s.toArray⟩,.int .i64 (B:Int)] w (DgPost w (digO B s)):=by
 obtain ⟨b,hbb⟩ : ∃ b,w.heap.size = b:=⟨_,rfl⟩;have HB:=hid hbb;clear hbb;have hB16 : B ≤ 16:=by omega
 have hB2 : 2 ≤ B:=by omega
 have HF:=hid (fun c => figsB hB c);have HSL:=hid (fun W => run_upto figs B (by show B ≤ 16; omega) (B:Int) rfl W);obtain ⟨T,hT⟩ : ∃ T,figs.take B = T:=⟨_,rfl⟩;rw [hT] at HF HSL;obtain ⟨R,hR⟩ : ∃ R,digO B s = R:=⟨_,rfl⟩;rw [hR];have HR:=hid hR;have hsl:=HSL.out;unfold figs at hsl;clear hR hT hB;go_enter Tryz.func48,Tryz.ntmps48;go_wp2_with fail
 go_loopw [6,7,8,11] (fun v i7 i8 i wr => ∃ (k:Nat) (A : Option Addr) (c:Nat),k ≤ s.length∧i = .int .i64 (k:Int)∧Hid (∀ c ∈ s.take k,isDg B c = true)∧v = .slice A (dig 10 (numV B (s.take k))).length c∧(dig 10 (numV B (s.take k))).length ≤ c∧Row wr A (i64s (dig 10 (numV B (s.take k))))∧Below b w wr∧(k = 0 → A = none∧c = 0)) (fun _ _ _ i _ => s.length - (RowKit.intOf i).toNat)
 case atStart => exact ⟨0,none,0,Nat.zero_le _,rfl,hid (fun c hc => by simp at hc),by rw [List.take_zero,show numV B [] = 0 from rfl,dig_zero]; rfl,by rw [List.take_zero,show numV B [] = 0 from rfl,dig_zero]; exact Nat.le_refl _,.inl (by rw [List.take_zero,show numV B [] = 0 from rfl,dig_zero]; rfl),by rw [← HB.out]; exact Below.refl _ _,fun _ => ⟨rfl,rfl⟩⟩
 case round =>
  obtain ⟨k,A,cc,hk,rfl,HA,rfl,hcap,hrow,hb,h0⟩:=hrel;have H0:=hid h0;clear h0;have hbs:=hb.size;rw [HB.out] at hbs
  by_cases hlt : k < s.length
  ·have hix:=run_idx s k hlt (k:Int) rfl;have HF2:=hid (HF.out (at0 s k));have htk : s.take (k + 1) = s.take k ++ [at0 s k]:=(by rw [List.take_add_one,List.getElem?_eq_getElem hlt,at0_lt s k hlt]; rfl);have HTK:=hid htk;have hdl:=dig10_len B hB16 (s.take k) HA.out;rw [List.length_take] at hdl
   by_cases hd : isDg B (at0 s k) = true
   ·have hdv:=isDg_val hd;have HIB:=hid (fun W => ib_at T (at0 s k) (dval (at0 s k):Int) (by rw [HF2.out,if_pos hd]) W);have HA2 : Hid (∀ c ∈ s.take (k + 1),isDg B c = true):=hid (by
     rw [HTK.out];intro c hc;rcases List.mem_append.1 hc with h | h
     ·exact HA.out c h
     ·rw [List.mem_singleton.1 h]; exact hd)
    have HN:=hid (show numV B (s.take (k + 1)) = numV B (s.take k) * B + dval (at0 s k) from by rw [HTK.out,numV_snoc]);have HAF:=hid (fun W (h : Row W A (i64s (dig 10 (numV B (s.take k))))) => affine_any (w:=W) (numV B (s.take k)) B (dval (at0 s k)) A cc (by omega) (by omega) (by omega) h);obtain ⟨L,hL⟩ : ∃ L,dig 10 (numV B (s.take k)) = L:=⟨_,rfl⟩;rw [← HN.out] at HAF;rw [hL] at hcap hrow HAF ⊢;obtain ⟨dv,hdve⟩ : ∃ dv,dval (at0 s k) = dv:=⟨_,rfl⟩;rw [hdve] at HIB HAF hdv;obtain ⟨cb,hcb⟩ : ∃ cb,at0 s k = cb:=⟨_,rfl⟩;rw [hcb] at HIB hix;clear htk HTK HA HN hL HF2 hdve hcb hd hdl;go_wp2_with fail;go_quiet ((go_at_call 87; exact quiet_left (HIB.out _)));go_wp2_with fail;refine (HAF.out _ (hrow.keepB (below_drewN (Below.refl _ _) _))).mono ?_;rintro e w2 ⟨⟨A',c',rfl,hc',hr'⟩,ba⟩;have hb2:=below_then (below_drewN hb _) ba hbs;clear HAF ba;go_wp2_with fail;go_roundw
    case rel => exact ⟨k + 1,A',c',by omega,by go_num,HA2,rfl,hc',hr',hb2,fun h => absurd h (by omega)⟩
    case measure => simp [RowKit.intOf]; omega
   ·have HIB:=hid (fun W => ib_at T (at0 s k) (-1) (by rw [HF2.out,if_neg hd]) W);have HRN : Hid (R = none):=hid (by
     rw [← HR.out];unfold digO;rw [if_neg];rintro ⟨_,h⟩;rw [List.all_eq_true] at h;exact hd (h _ (by rw [at0_lt s k hlt]; exact List.getElem_mem hlt)))
    obtain ⟨L,hL⟩ : ∃ L,dig 10 (numV B (s.take k)) = L:=⟨_,rfl⟩;rw [hL] at hcap hrow ⊢;obtain ⟨cb,hcb⟩ : ∃ cb,at0 s k = cb:=⟨_,rfl⟩;rw [hcb] at HIB hix;clear htk HTK HA hL HF2 hcb hd hdl;go_wp2_with fail;go_quiet ((go_at_call 87; exact quiet_left (HIB.out _)));go_wp2_with fail;go_ret2;rw [HRN.out];exact ⟨by rw [HB.out]; exact below_drewN hb _,rfl⟩
  ·have hks : s.take k = s:=List.take_of_length_le (by omega);rw [hks] at HA hrow hcap ⊢;obtain ⟨N,hN⟩ : ∃ N,numV B s = N:=⟨_,rfl⟩;rw [hN] at hrow hcap ⊢;rcases hsc : s with _ | ⟨c0,s0⟩
   ·subst hsc;obtain ⟨rfl,rfl⟩:=H0.out (by simp at hk; exact hk);have hN0 : N = 0:=hN.symm;subst hN0;have HRN : Hid (R = none):=hid (by rw [← HR.out]; unfold digO; rw [if_neg (fun h => h.1 rfl)]);rw [dig_zero] at hrow hcap ⊢;clear hks hN HA;go_wp2_with fail;go_ret2;rw [HRN.out];exact ⟨by rw [HB.out]; exact hb,rfl⟩
   ·have HRN : Hid (R = some N):=hid (by
     rw [← HR.out,← hN];unfold digO;rw [if_pos ⟨by rw [hsc]; simp,List.all_eq_true.2 HA.out⟩])
    rw [← hsc];have hne : (!s.isEmpty) = true:=(by rw [hsc]; rfl);have hne2 : s.isEmpty = false:=(by rw [hsc]; rfl);clear hks hN HA hsc;go_wp2_with fail;go_ret2;rw [HRN.out];exact ⟨by rw [HB.out]; exact hb,A,cc,rfl,hcap,hrow⟩
end
end Go.Proofs.YtonehlkiackhcaaGreatDoor