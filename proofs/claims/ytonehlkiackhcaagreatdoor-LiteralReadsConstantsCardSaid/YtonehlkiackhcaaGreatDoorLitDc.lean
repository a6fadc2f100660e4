/- The literals: hexadecimal digits, as the reference reads them. Nothing is claimed here. -/
import Derived.Shelf.Strings.CaseAny
import Derived.Lib.MapLaws
import Derived.Test.YtonehlkiackhcaaGreatDoorLitD
import Derived.Test.YtonehlkiackhcaaGreatDoorLitH
import Derived.Laws.MakeOwn
import Derived.Test.YtonehlkiackhcaaGreatDoorScanF
import Derived.Shelf.Strings.Search3
import Derived.Test.YtonehlkiackhcaaGreatDoorProg
import Derived.Test.YtonehlkiackhcaaGreatDoorLitL
set_option linter.unusedVariables false
set_option maxRecDepth 100000
set_option maxHeartbeats 16000000
namespace Go.Proofs.YtonehlkiackhcaaGreatDoor
open Go.Lib
def lowOk (x : CaseRow) : Bool:=decide (x.2.1 ≤ 127) || (if x.delta 1 > 1114111 then decide (103 ≤ x.1) else decide (103 ≤ (x.1 : Int) + x.delta 1))
theorem rowsLow : caseT.all lowOk = true:=by decide
theorem caseA_low (i : Nat) (hi : i < caseA.size) : lowOk (caseA.getD i (0,0,0,0,0)) = true:=by
 have hm : caseA.getD i (0,0,0,0,0) ∈ caseT:=by
  unfold caseA at hi ⊢;have hi' : i < caseT.length:=(by simpa using hi);simp [Array.getD,hi']
 exact List.all_eq_true.1 rowsLow _ hm
theorem toLowerU_high (x : Nat) (h : 128 ≤ x) : 103 ≤ toLowerU (x : Int):=by
 unfold toLowerU;rw [if_neg (by omega)];unfold toR lookupGo;cases hi : lookupIdx caseA (x : Int) (caseA.size + 1) 0 caseA.size with
 | none => show (103 : Int) ≤ (x : Int); omega
 | some i =>
  obtain ⟨hil,hlo,hhi⟩:=lookupIdx_some caseA (x : Int) _ _ _ i hi;have hr:=caseA_low i hil;show 103 ≤ convertR 1 (x : Int) (caseA.getD i (0,0,0,0,0));generalize caseA.getD i (0,0,0,0,0) = y at hr hlo hhi;unfold lowOk at hr;unfold convertR;rw [Bool.or_eq_true,decide_eq_true_eq] at hr;split
  ·rename_i h1;rw [if_pos h1,decide_eq_true_eq] at hr;omega
  ·rename_i h1;rw [if_neg h1,decide_eq_true_eq] at hr;omega
theorem encode_head (r : Int) (h : 103 ≤ r) : ∃ b t,encodeRune r = b :: t ∧ 103 ≤ b.toNat:=by
 unfold encodeRune encodeRuneZ;split
 ·exact ⟨_,_,rfl,by simp; omega⟩
 ·split
  ·exact ⟨_,_,rfl,by simp; omega⟩
  ·split
   ·exact ⟨_,_,rfl,by simp; omega⟩
   ·split
    ·exact ⟨_,_,rfl,by simp; omega⟩
    ·exact ⟨_,_,rfl,by decide⟩
def digO (B : Nat) (t : List UInt8) : Option Nat:=if t ≠ [] ∧ t.all (isDg B) = true then some (numV B t) else none
theorem isDg_high {B : Nat} {b : UInt8} (h : 103 ≤ b.toNat) : isDg B b = false:=by
 unfold isDg;rw [Bool.and_eq_false_iff];left;simp;omega
theorem low_high : ∀ (r : List UInt8),(∃ b ∈ r,128 ≤ b.toNat) → (toLowerD r).all (isDg 16) = false
 | [],h => by obtain ⟨b,hb,_⟩:=h; cases hb
 | b :: t,h => by
  unfold toLowerD;rw [mapD_step toLowerU (b :: t) (by simp)]
  by_cases hb : b.toNat < 128
  ·have ih:=low_high t (by
    obtain ⟨c,hc,h8⟩:=h;rcases List.mem_cons.1 hc with rfl | hc
    ·omega
    ·exact ⟨c,hc,h8⟩)
   unfold toLowerD at ih;rw [decodeL_ascii b t hb];simp only [List.drop_succ_cons,List.drop_zero,List.all_append,ih,Bool.and_false]
  ·rcases decodeL_head (b :: t) (by simp) with ⟨h1,_⟩ | ⟨h1,_⟩
   ·rw [bAt_zero] at h1; omega
   ·have h2:=toLowerU_high _ h1;obtain ⟨c,u,hu,hc⟩:=encode_head _ h2;rw [if_pos (by omega),hu];simp only [List.cons_append,List.all_cons,isDg_high hc,Bool.false_and]
theorem lowB_all : ∀ i : Fin 256,isDg 16 (lowerB (UInt8.ofNat i.val)) = (hexD (UInt8.ofNat i.val)).isSome ∧ ∀ d,hexD (UInt8.ofNat i.val) = some d → dval (lowerB (UInt8.ofNat i.val)) = d:=by
 intro i;have h1 : ∀ i : Fin 256,isDg 16 (lowerB (UInt8.ofNat i.val)) = (hexD (UInt8.ofNat i.val)).isSome:=by decide
 have h2 : ∀ i : Fin 256,(hexD (UInt8.ofNat i.val)).getD (dval (lowerB (UInt8.ofNat i.val))) = dval (lowerB (UInt8.ofNat i.val)):=by decide
 exact ⟨h1 i,fun d hd => by have:=h2 i; rw [hd] at this; exact this.symm⟩
theorem lowB_byte (c : UInt8) : isDg 16 (lowerB c) = (hexD c).isSome ∧ ∀ d,hexD c = some d → dval (lowerB c) = d:=by
 have h:=lowB_all ⟨c.toNat,c.toNat_lt⟩;simpa using h
theorem hexF_low : ∀ (r : List UInt8) (n k : Nat),r.length ≤ k → k ≤ 7 → n < 16 ^ (7 - k) → (∀ c ∈ r,isDg 16 (lowerB c) = true) → hexF n r = some ((r.map lowerB).foldl (fun n c => n * 16 + dval c) n)
 | [],n,k,_,_,_,_ => rfl
 | c :: r,n,k,hk,h7,hn,hd => by
  have hc:=lowB_byte c;rw [hd c (by simp)] at hc;obtain ⟨d,hd1⟩:=Option.isSome_iff_exists.1 hc.1.symm;have hd16:=(hexD_byte hd1).2.2.1;obtain ⟨j,rfl⟩ : ∃ j,k = j + 1:=⟨k - 1,by simp at hk; omega⟩;have hn2 : n * 16 + d < 16 ^ (7 - j):=by
   rw [show 7 - j = 7 - (j + 1) + 1 by omega,Nat.pow_succ];omega
  have hle : 16 ^ (7 - j) ≤ 16 ^ 7:=Nat.pow_le_pow_right (by decide) (by omega);unfold hexF;rw [hd1];simp only;rw [if_pos (by omega),hexF_low r (n * 16 + d) j (by simpa using hk) (by omega) hn2 (fun x hx => hd x (by simp [hx]))];simp only [List.map_cons,List.foldl_cons,hc.2 d hd1]
theorem hexF_none : ∀ (r : List UInt8) (n : Nat),(∃ c ∈ r,isDg 16 (lowerB c) = false) → hexF n r = none
 | [],n,h => by obtain ⟨b,hb,_⟩:=h; cases hb
 | c :: r,n,h => by
  unfold hexF;cases hd : hexD c with
  | none => rfl
  | some d =>
   simp only;split
   ·refine hexF_none r _ ?_;obtain ⟨b,hb,hb2⟩:=h;rcases List.mem_cons.1 hb with rfl | hb
    ·rw [(lowB_byte b).1,hd] at hb2; cases hb2
    ·exact ⟨b,hb,hb2⟩
   ·rfl
theorem hex_low (r : List UInt8) (hl : r.length ≤ 7) : hexS r = digO 16 (toLowerD r):=by
 by_cases ha : ∀ b ∈ r,b.toNat < 128
 ·rw [toLowerD_ascii r ha];have hA : toLowerA r = r.map lowerB:=rfl;rw [hA];unfold hexS digO
  by_cases hr : r = []
  ·subst hr; rfl
  ·rw [if_neg hr]
   by_cases hall : (r.map lowerB).all (isDg 16) = true
   ·rw [if_pos ⟨by simpa using hr,hall⟩];rw [List.all_map,List.all_eq_true] at hall;exact hexF_low r 0 7 hl (Nat.le_refl _) (by decide) hall
   ·rw [if_neg (fun h => hall h.2)];refine hexF_none r 0 ?_;rw [List.all_map,Bool.not_eq_true,List.all_eq_false] at hall;obtain ⟨c,hc,h⟩:=hall;exact ⟨c,hc,by simpa using h⟩
 ·have hhigh : ∃ b ∈ r,128 ≤ b.toNat:=by
   apply Classical.byContradiction;intro hn;exact ha fun b hb => Classical.byContradiction fun h => hn ⟨b,hb,by omega⟩
  unfold digO;rw [if_neg (fun h => by rw [low_high r hhigh] at h; exact absurd h.2 (by decide))];unfold hexS;split
  ·rfl
  ·refine hexF_none r 0 ?_;obtain ⟨b,hb,h8⟩:=hhigh;refine ⟨b,hb,?_⟩;rw [(lowB_byte b).1];unfold hexD;rw [if_neg (by omega),if_neg (by omega),if_neg (by omega)];rfl
end Go.Proofs.YtonehlkiackhcaaGreatDoor

namespace Go.Proofs.YtonehlkiackhcaaGreatDoor
open Go.RowKit
def i64s (l : List Nat) : List Value:=l.map fun n : Nat => Value.int .i64 (n : Int)
theorem i64s_snoc (d : List Nat) (x : Nat) : i64s (d ++ [x]) = i64s d ++ [.int .i64 (x : Int)]:=by simp [i64s]
theorem i64s_len (l : List Nat) : (i64s l).length = l.length:=by simp [i64s]
theorem info_i64 : (Tryz.prog.info? 3).map (fun i => (i.zero,i.size,i.bytes)) = some (some (.int .i64 0),1,8):=by kernel_rfl
theorem row_i64 {w : World} {A : Option Addr} {m : List Nat} (h : Row w A (i64s m)) {j : Nat} (hj : j < m.length) : ∃ b off,A = some ⟨b,off,none⟩ ∧ w.cell? ⟨b,off + j,none⟩ = some (.int .i64 (m[j] : Int)):=by
 obtain ⟨b,off,e,hlt,hc⟩:=h.at_ (k:=j) (by rw [i64s_len]; exact hj);exact ⟨b,off,e,hc j _ (by simp [i64s,hj])⟩
theorem row_take {w : World} {A : Option Addr} {xs : List Value} (h : Row w A xs) (k : Nat) : Row w A (xs.take k):=by
 rcases h with h | ⟨b,off,e,hlt,hc⟩
 ·subst h; exact .inl (by simp)
 ·refine .inr ⟨b,off,e,hlt,fun j u hu => hc j u ?_⟩;rw [List.getElem?_take] at hu;split at hu
  ·exact hu
  ·cases hu
theorem trimZ_take (l : List Nat) : trimZ l = l.take (trimZ l).length:=by
 unfold trimZ;obtain ⟨t,ht⟩:=List.dropWhile_suffix (· == 0) (l:=l.reverse);obtain ⟨u,hu⟩ : ∃ u,List.dropWhile (· == 0) l.reverse = u:=⟨_,rfl⟩;rw [hu] at ht ⊢;have h2 : l = u.reverse ++ t.reverse:=by
  rw [← List.reverse_append,ht,List.reverse_reverse]
 rw [h2,List.take_left]
theorem dtrim_any {w : World} (l : List Nat) (A : Option Addr) (c : Nat) (hlen : l.length ≤ 100000) (hc : l.length ≤ c) (hr : Row w A (i64s l)) :
  Calls Tryz.prog 90 #[.slice A l.length c] w fun e w' => e = .returned (.slice A (trimZ l).length c) ∧ w = w':=by
 go_enter Tryz.func90,Tryz.ntmps90;go_wp2_with fail
 go_loop [0] (fun v => ∃ k : Nat,k ≤ l.length ∧ v = .slice A k c ∧ Hid (trimZ (l.take k) = trimZ l)) (fun v => lenOf v)
 case atStart => exact ⟨l.length,Nat.le_refl _,rfl,Lib.hid (by rw [List.take_length])⟩
 case round =>
  obtain ⟨k,hk,rfl,HT⟩:=hrel;have htl : (l.take k).length = k:=(by rw [List.length_take]; omega);rcases k with _ | j
  ·have HF:=Lib.hid (show trimZ l = [] from by rw [← HT.out]; rfl);go_wp2_with fail;go_ret;exact ⟨by rw [HF.out]; rfl,rfl⟩
  ·obtain ⟨b0,off,rfl,hcell⟩:=row_i64 hr (j:=j) (by omega);obtain ⟨z,hz⟩ : ∃ z,l[j]'(by omega) = z:=⟨_,rfl⟩;rw [hz] at hcell;have hts : l.take (j + 1) = l.take j ++ [z]:=by rw [List.take_add_one,List.getElem?_eq_getElem (by omega),hz]; rfl
   by_cases h0 : z = 0
   ·subst h0;have HT2:=Lib.hid (show trimZ (l.take j) = trimZ l from by rw [← HT.out,hts,trimZ_snoc_zero]);clear hts hz;go_wp2_with fail
    go_round
    case rel => exact ⟨j,by omega,by go_num,HT2⟩
    case measure => simp [lenOf]
   ·have h1 : ((z : Int) == 0) = false:=(by rw [beq_eq_false_iff_ne]; omega);have HF:=Lib.hid (show trimZ l = l.take (j + 1) from by rw [← HT.out,hts,trimZ_snoc _ h0]);clear hts hz;go_wp2_with fail;go_ret;exact ⟨by rw [HF.out,htl]; rfl,rfl⟩
theorem mulGo_bd (m C : Nat) (hm : m ≤ C) : ∀ (l : List Nat) (c : Nat),(∀ x ∈ l,x < 10) → c ≤ C → (mulGo 10 m l c).2 ≤ C
 | [],c,_,hc => hc
 | x :: l,c,hl,hc => by
  unfold mulGo;have hx:=hl x (by simp);have h1 : x * m ≤ 9 * C:=Nat.mul_le_mul (by omega) hm;exact mulGo_bd m C hm l _ (fun y hy => hl y (by simp [hy])) (by omega)
theorem mulGo_all (N m n : Nat) (L : List Nat) (hL : L = dig 10 N) : trimZ ((mulGo 10 m L n).1 ++ dig 10 (mulGo 10 m L n).2) = dig 10 (N * m + n):=by
 subst hL;rw [trimZ_dig (B:=10) (by decide)]
 ·congr 1
  rw [V_append,mulGo_len,V_dig (by decide)];have:=mulGo_V 10 m (dig 10 N) n;rw [V_dig (by decide)] at this;exact this
 ·intro x hx;rcases List.mem_append.1 hx with h | h
  ·exact mulGo_lt (by decide) _ _ x h
  ·exact dig_lt (by decide) _ x h
theorem affine_any {w : World} (N m n : Nat) (A : Option Addr) (c : Nat) (hlen : (dig 10 N).length ≤ 10000) (hm : m ≤ 4294967296) (hn : n ≤ 4294967296) (hr : Row w A (i64s (dig 10 N))) :
  Calls Tryz.prog 50 #[.slice A (dig 10 N).length c,.int .i64 (m : Int),.int .i64 (n : Int)] w fun e w' => (∃ A' c',e = .returned (.slice A' (dig 10 (N * m + n)).length c') ∧ (dig 10 (N * m + n)).length ≤ c' ∧ Row w' A' (i64s (dig 10 (N * m + n)))) ∧ Below w.heap.size w w':=by
 obtain ⟨iu,hiu,huz0,huz1,huz2⟩:=info_parts info_i64;obtain ⟨b,hbb⟩ : ∃ b,w.heap.size = b:=⟨_,rfl⟩;have HB:=Lib.hid hbb;clear hbb;obtain ⟨R,hR⟩ : ∃ R,dig 10 (N * m + n) = R:=⟨_,rfl⟩;rw [hR];have HL:=Lib.hid (fun x (hx : x ∈ dig 10 N) => dig_lt (B:=10) (by decide) N x hx);have HRR:=Lib.hid (fun L hL => (mulGo_all N m n L hL).trans hR);clear hR;obtain ⟨l,hl⟩ : ∃ l,dig 10 N = l:=⟨_,rfl⟩;rw [hl] at hlen hr HL ⊢;have HLN:=Lib.hid hl;clear hl;have HBD:=Lib.hid (fun k => mulGo_bd m 4294967296 hm (l.take k) n (fun x hx => HL.out x (List.mem_of_mem_take hx)) hn);go_enter Tryz.func50,Tryz.ntmps50;go_wp2_with fail
 go_loopw [2,7,12] (fun cr v i wr => ∃ (k q : Nat),k ≤ l.length ∧ i = .int .i64 (k : Int) ∧ cr = .int .i64 (q : Int) ∧ q ≤ 4294967296 ∧ Hid (mulGo 10 m (l.take k) n = ((mulGo 10 m (l.take k) n).1,q)) ∧ wr.ownsRow b 3 1 v k (i64s (mulGo 10 m (l.take k) n).1) ∧ Below b w wr) (fun _ _ i _ => l.length - (RowKit.intOf i).toNat)
 case atStart => exact ⟨0,n,Nat.zero_le _,rfl,rfl,hn,Lib.hid rfl,World.ownsRow_nil _ _ _ _,by rw [← HB.out]; exact Below.refl _ _⟩
 case round =>
  obtain ⟨k,q,hk,rfl,rfl,hq,HM,hown,hb⟩:=hrel;have hbs:=hb.size;rw [HB.out] at hbs
  by_cases hlt : k < l.length
  ·obtain ⟨b0,off,rfl,hcell⟩:=row_i64 (hr.keepB (by rw [HB.out]; exact hb)) hlt;have htk : l.take (k + 1) = l.take k ++ [l[k]]:=(by rw [List.take_add_one,List.getElem?_eq_getElem hlt]; rfl);obtain ⟨x,hx⟩ : ∃ x,l[k] = x:=⟨_,rfl⟩;have hx10 : x < 10:=hx ▸ HL.out _ (List.getElem_mem hlt);rw [hx] at hcell htk;have HTK:=Lib.hid htk;clear hx htk;have hxm : x * m ≤ 9 * 4294967296:=Nat.mul_le_mul (by omega) hm;have hP : (x : Int) * (m : Int) = ((x * m : Nat) : Int):=(Int.natCast_mul x m).symm;have p2 : (0 : Int) ≤ (x : Int) * (m : Int):=(by rw [hP]; omega);have p3 : (x : Int) * (m : Int) ≤ 38654705664:=(by rw [hP]; omega);have p0 : (0 : Int) ≤ (q : Int) + (x : Int) * (m : Int):=(by omega);have p1 : (q : Int) + (x : Int) * (m : Int) ≤ 47244640256:=(by omega);have HP:=Lib.hid hP;clear hP;go_wp2_with (at_builtin; refine wpList_append_own_at _ rfl (.tmp 21) (.tmp 24) 52 rfl b 3 iu _ 1 8 Tryz.underlying52 hiu huz0 huz1 huz2 rfl (by decide) _ _ _ rfl (hown.alloc _) ⟨wr.heap.size,0,none⟩ 1 1 [_] rfl rfl (cell_one_new wr _ _) (by simp [Value.oneCell']) (by unfold maxLen; omega) (by omega) (by simp; omega) ?_; intro v2 w2 hown2 hg2 _ hat2);have hnew : mulGo 10 m (l.take (k + 1)) n = ((mulGo 10 m (l.take k) n).1 ++ [(q + x * m) % 10],(q + x * m) / 10):=by
    rw [HTK.out,mulGo_snoc,show (mulGo 10 m (l.take k) n).2 = q from congrArg Prod.snd HM.out]
   have hc1 : (((q : Int) + (x : Int) * (m : Int)) % 10) = (((q + x * m) % 10 : Nat) : Int):=(by rw [HP.out]; omega);have hc2 : (((q : Int) + (x : Int) * (m : Int)) / 10) = (((q + x * m) / 10 : Nat) : Int):=(by rw [HP.out]; omega);rw [hc1,← i64s_snoc] at hown2;rw [hc2];have hb2:=(hb.alloc hbs _).grown hg2 (by simp; omega) (fun g e => by have:=hown.lt g e; omega);have hq2 : (q + x * m) / 10 ≤ 4294967296:=by
    have:=HBD.out (k + 1);rw [hnew] at this;exact this
   go_roundw
   case rel => exact ⟨k + 1,(q + x * m) / 10,by omega,by go_num,rfl,hq2,Lib.hid (by rw [hnew]),by rw [hnew]; exact hown2,hb2⟩
   case measure => simp [RowKit.intOf]; omega
  ·have hkl : k = l.length:=(by omega);have HM2:=Lib.hid (show mulGo 10 m l n = ((mulGo 10 m (l.take k) n).1,q) from by rw [← HM.out,hkl,List.take_length]);obtain ⟨D,hD⟩ : ∃ D,(mulGo 10 m (l.take k) n).1 = D:=⟨_,rfl⟩;rw [hD] at HM2 hown;have hDl : D.length = k:=(by rw [← hD,mulGo_len,List.length_take]; omega);have hRD:=HRR.out l HLN.out.symm;rw [HM2.out] at hRD;simp only at hRD;have hq10 : (dig 10 q).length ≤ 10:=dig_len (by decide) 10 q (by omega);obtain ⟨E,hE⟩ : ∃ E,D ++ dig 10 q = E:=⟨_,rfl⟩;rw [hE] at hRD;have HRE:=Lib.hid hRD;have hEl : E.length ≤ 10010:=(by rw [← hE,List.length_append]; omega);rw [← hDl] at hown;have HE:=Lib.hid hE;clear hD hRD HM HM2 hkl hE hDl;go_wp2_with fail
   go_loopw [2,7] (fun cr v wr => ∃ (q : Nat) (D : List Nat),cr = .int .i64 (q : Int) ∧ q ≤ 4294967296 ∧ Hid (D ++ dig 10 q = E) ∧ wr.ownsRow b 3 1 v D.length (i64s D) ∧ Below b w wr) (fun cr _ _ => (RowKit.intOf cr).toNat)
   case atStart => exact ⟨q,D,rfl,hq,HE,hown,hb⟩
   case round =>
    clear hown hb HE;obtain ⟨q,D,rfl,hq,HE,hown,hb⟩:=hrel;have hbs:=hb.size;rw [HB.out] at hbs
    by_cases h0 : 0 < q
    ·have h0' : decide ((0 : Int) < (q : Int)) = true:=(by simp; omega);have hdq:=dig_pos (B:=10) (by decide) (n:=q) (by omega);have hE2 : (D ++ [q % 10]) ++ dig 10 (q / 10) = E:=(by rw [← HE.out,hdq]; simp);have hDl : D.length < 10010:=by
      have h3 : (D ++ dig 10 q).length = E.length:=(by rw [HE.out]);rw [hdq,List.length_append,List.length_cons] at h3;omega
     have HE2:=Lib.hid hE2;clear hE2 hdq;go_wp2_with (at_builtin; refine wpList_append_own_at _ rfl (.tmp 31) (.tmp 34) 52 rfl b 3 iu _ 1 8 Tryz.underlying52 hiu huz0 huz1 huz2 rfl (by decide) _ _ _ rfl (hown.alloc _) ⟨wr.heap.size,0,none⟩ 1 1 [_] rfl rfl (cell_one_new wr _ _) (by simp [Value.oneCell']) (by unfold maxLen; omega) (by omega) (by simp; omega) ?_; intro v2 w2 hown2 hg2 _ hat2);have hc1 : ((q : Int) % 10) = ((q % 10 : Nat) : Int):=(by omega);have hc2 : ((q : Int) / 10) = ((q / 10 : Nat) : Int):=(by omega);rw [hc1,← i64s_snoc] at hown2;rw [hc2];have hb2:=(hb.alloc hbs _).grown hg2 (by simp; omega) (fun g e => by have:=hown.lt g e; omega);have hq2 : q / 10 ≤ 4294967296:=(by omega);go_roundw
     case rel => exact ⟨q / 10,D ++ [q % 10],rfl,hq2,HE2,by rw [List.length_append]; exact hown2,hb2⟩
     case measure => simp [RowKit.intOf]; omega
    ·have h00 : q = 0:=(by omega);subst h00;have hED : E = D:=(by rw [← HE.out,dig_zero,List.append_nil]);subst hED;obtain ⟨A',c',rfl,hrow,hcap⟩:=own_form hown;have HT:=Lib.hid (dtrim_any E A' c' (by omega) hcap hrow);rw [HRE.out] at HT;go_wp2_with fail;refine HT.out.mono ?_;rintro e w3 ⟨rfl,rfl⟩;go_wp2_with fail;go_ret;refine ⟨⟨A',c',rfl,?_,?_⟩,by rw [HB.out]; exact hb⟩
     ·have h5:=trimZ_take E;rw [HRE.out] at h5;have h6 : R.length ≤ E.length:=(by rw [h5,List.length_take]; omega);omega
     ·have h5:=trimZ_take E;rw [HRE.out] at h5;rw [h5];have:=row_take hrow R.length;unfold i64s at this ⊢;rw [List.map_take];exact this
end Go.Proofs.YtonehlkiackhcaaGreatDoor

namespace Go.Proofs.YtonehlkiackhcaaGreatDoor
open Go.RowKit Go.Lib
def figs : List UInt8:=[48,49,50,51,52,53,54,55,56,57,97,98,99,100,101,102]
theorem run_upto (l : List UInt8) (i : Nat) (h2 : i ≤ l.length) (x : Int) (hx : x = (i : Int)) (W : World) :
  (Instr.slice 9 (.string ⟨l.toArray⟩) none (some (.int .i64 x)) none).run Tryz.prog W = .ok (.string ⟨(l.take i).toArray⟩) W:=by
 subst hx;rw [run_slice_string_to_if W 9 ⟨l.toArray⟩ .i64 _ Tryz.underlying9,if_pos (by simp [ByteArray.size]; omega),Int.toNat_natCast,extract_sub];simp
theorem figs16 : ∀ i : Fin 256,Lib.indexByte (figs.take 16) (UInt8.ofNat i.val) = if isDg 16 (UInt8.ofNat i.val) then (dval (UInt8.ofNat i.val) : Int) else -1:=by decide
theorem figs10 : ∀ i : Fin 256,Lib.indexByte (figs.take 10) (UInt8.ofNat i.val) = if isDg 10 (UInt8.ofNat i.val) then (dval (UInt8.ofNat i.val) : Int) else -1:=by decide
theorem figs2 : ∀ i : Fin 256,Lib.indexByte (figs.take 2) (UInt8.ofNat i.val) = if isDg 2 (UInt8.ofNat i.val) then (dval (UInt8.ofNat i.val) : Int) else -1:=by decide
theorem figsB {B : Nat} (hB : B = 16 ∨ B = 10 ∨ B = 2) (c : UInt8) : Lib.indexByte (figs.take B) c = if isDg B c then (dval c : Int) else -1:=by
 rcases hB with rfl | rfl | rfl
 ·have:=figs16 ⟨c.toNat,c.toNat_lt⟩; simpa using this
 ·have:=figs10 ⟨c.toNat,c.toNat_lt⟩; simpa using this
 ·have:=figs2 ⟨c.toNat,c.toNat_lt⟩; simpa using this
theorem ib_at (t : List UInt8) (c : UInt8) (k : Int) (h : Lib.indexByte t c = k) (W : World) : Calls Tryz.prog 87 #[.string ⟨t.toArray⟩,.int .u8 (c.toNat : Int)] W fun e w' => e = .returned (.int .i64 k) ∧ W = w' :=
 (Tryz.strings_IndexByte ⟨t.toArray⟩ (c.toNat : Int) W).mono fun _ _ h' => ⟨by rw [h'.1,Int.toNat_natCast,show c.toNat.toUInt8 = c from by simp,← h],h'.2.symm⟩
theorem isDg_val {B : Nat} {c : UInt8} (h : isDg B c = true) : dval c < B:=by
 unfold isDg at h;rw [Bool.and_eq_true,decide_eq_true_eq] at h;exact h.2
theorem dig10_len (B : Nat) (hB : B ≤ 16) (s : List UInt8) (hs : ∀ c ∈ s,isDg B c = true) : (dig 10 (numV B s)).length ≤ 10 * s.length:=by
 refine dig_len (by decide) _ _ ?_;have h1:=numV_lt B (by omega) s.length s rfl (fun c hc => isDg_val (hs c hc));have h2 : 4294967296 ^ s.length ≤ (10 ^ 10) ^ s.length:=Nat.pow_le_pow_left (by decide) _;rw [← Nat.pow_mul] at h2;exact Nat.lt_of_lt_of_le h1 h2
def DgPost (w : World) (R : Option Nat) (e : Ending) (w' : World) : Prop :=
 Below w.heap.size w w' ∧ match R with
 | none => e = .returned (.tuple #[.slice none 0 0,.bool false])
 | some n => ∃ A c,e = .returned (.tuple #[.slice A (dig 10 n).length c,.bool true]) ∧ (dig 10 n).length ≤ c ∧ Row w' A (i64s (dig 10 n))
theorem digitsOf_any (s : List UInt8) (B : Nat) (w : World) (hB : B = 16 ∨ B = 10 ∨ B = 2) (hl : s.length ≤ 1000) :
  Calls Tryz.prog 48 #[.string ⟨s.toArray⟩,.int .i64 (B : Int)] w (DgPost w (digO B s)):=by
 obtain ⟨b,hbb⟩ : ∃ b,w.heap.size = b:=⟨_,rfl⟩;have HB:=Lib.hid hbb;clear hbb;have hB16 : B ≤ 16:=by omega
 have hB2 : 2 ≤ B:=by omega
 have HF:=Lib.hid (fun c => figsB hB c);have HSL:=Lib.hid (fun W => run_upto figs B (by show B ≤ 16; omega) (B : Int) rfl W);obtain ⟨T,hT⟩ : ∃ T,figs.take B = T:=⟨_,rfl⟩;rw [hT] at HF HSL;obtain ⟨R,hR⟩ : ∃ R,digO B s = R:=⟨_,rfl⟩;rw [hR];have HR:=Lib.hid hR;have hsl:=HSL.out;unfold figs at hsl;clear hR hT hB;go_enter Tryz.func48,Tryz.ntmps48;go_wp2_with fail
 go_loopw [6,7,8,11] (fun v i7 i8 i wr => ∃ (k : Nat) (A : Option Addr) (c : Nat),k ≤ s.length ∧ i = .int .i64 (k : Int) ∧ Hid (∀ c ∈ s.take k,isDg B c = true) ∧ v = .slice A (dig 10 (numV B (s.take k))).length c ∧ (dig 10 (numV B (s.take k))).length ≤ c ∧ Row wr A (i64s (dig 10 (numV B (s.take k)))) ∧ Below b w wr ∧ (k = 0 → A = none ∧ c = 0)) (fun _ _ _ i _ => s.length - (RowKit.intOf i).toNat)
 case atStart => exact ⟨0,none,0,Nat.zero_le _,rfl,Lib.hid (fun c hc => by simp at hc),by rw [List.take_zero,show numV B [] = 0 from rfl,dig_zero]; rfl,by rw [List.take_zero,show numV B [] = 0 from rfl,dig_zero]; exact Nat.le_refl _,.inl (by rw [List.take_zero,show numV B [] = 0 from rfl,dig_zero]; rfl),by rw [← HB.out]; exact Below.refl _ _,fun _ => ⟨rfl,rfl⟩⟩
 case round =>
  obtain ⟨k,A,cc,hk,rfl,HA,rfl,hcap,hrow,hb,h0⟩:=hrel;have H0:=Lib.hid h0;clear h0;have hbs:=hb.size;rw [HB.out] at hbs
  by_cases hlt : k < s.length
  ·have hix:=run_idx s k hlt (k : Int) rfl;have HF2:=Lib.hid (HF.out (at0 s k));have htk : s.take (k + 1) = s.take k ++ [at0 s k]:=(by rw [List.take_add_one,List.getElem?_eq_getElem hlt,at0_lt s k hlt]; rfl);have HTK:=Lib.hid htk;have hdl:=dig10_len B hB16 (s.take k) HA.out;rw [List.length_take] at hdl
   by_cases hd : isDg B (at0 s k) = true
   ·have hdv:=isDg_val hd;have HIB:=Lib.hid (fun W => ib_at T (at0 s k) (dval (at0 s k) : Int) (by rw [HF2.out,if_pos hd]) W);have HA2 : Hid (∀ c ∈ s.take (k + 1),isDg B c = true):=Lib.hid (by
     rw [HTK.out];intro c hc;rcases List.mem_append.1 hc with h | h
     ·exact HA.out c h
     ·rw [List.mem_singleton.1 h]; exact hd)
    have HN:=Lib.hid (show numV B (s.take (k + 1)) = numV B (s.take k) * B + dval (at0 s k) from by rw [HTK.out,numV_snoc]);have HAF:=Lib.hid (fun W (h : Row W A (i64s (dig 10 (numV B (s.take k))))) => affine_any (w:=W) (numV B (s.take k)) B (dval (at0 s k)) A cc (by omega) (by omega) (by omega) h);obtain ⟨L,hL⟩ : ∃ L,dig 10 (numV B (s.take k)) = L:=⟨_,rfl⟩;rw [← HN.out] at HAF;rw [hL] at hcap hrow HAF ⊢;obtain ⟨dv,hdve⟩ : ∃ dv,dval (at0 s k) = dv:=⟨_,rfl⟩;rw [hdve] at HIB HAF hdv;obtain ⟨cb,hcb⟩ : ∃ cb,at0 s k = cb:=⟨_,rfl⟩;rw [hcb] at HIB hix;clear htk HTK HA HN hL HF2 hdve hcb hd hdl;go_wp2_with fail;go_quiet ((go_at_call 87; exact quiet_left (HIB.out _)));go_wp2_with fail;refine (HAF.out _ (hrow.keepB (below_drewN (Below.refl _ _) _))).mono ?_;rintro e w2 ⟨⟨A',c',rfl,hc',hr'⟩,ba⟩;have hb2:=below_then (below_drewN hb _) ba hbs;clear HAF ba;go_wp2_with fail;go_roundw
    case rel => exact ⟨k + 1,A',c',by omega,by go_num,HA2,rfl,hc',hr',hb2,fun h => absurd h (by omega)⟩
    case measure => simp [RowKit.intOf]; omega
   ·have HIB:=Lib.hid (fun W => ib_at T (at0 s k) (-1) (by rw [HF2.out,if_neg hd]) W);have HRN : Hid (R = none):=Lib.hid (by
     rw [← HR.out];unfold digO;rw [if_neg];rintro ⟨_,h⟩;rw [List.all_eq_true] at h;exact hd (h _ (by rw [at0_lt s k hlt]; exact List.getElem_mem hlt)))
    obtain ⟨L,hL⟩ : ∃ L,dig 10 (numV B (s.take k)) = L:=⟨_,rfl⟩;rw [hL] at hcap hrow ⊢;obtain ⟨cb,hcb⟩ : ∃ cb,at0 s k = cb:=⟨_,rfl⟩;rw [hcb] at HIB hix;clear htk HTK HA hL HF2 hcb hd hdl;go_wp2_with fail;go_quiet ((go_at_call 87; exact quiet_left (HIB.out _)));go_wp2_with fail;go_ret2;rw [HRN.out];exact ⟨by rw [HB.out]; exact below_drewN hb _,rfl⟩
  ·have hks : s.take k = s:=List.take_of_length_le (by omega);rw [hks] at HA hrow hcap ⊢;obtain ⟨N,hN⟩ : ∃ N,numV B s = N:=⟨_,rfl⟩;rw [hN] at hrow hcap ⊢;rcases hsc : s with _ | ⟨c0,s0⟩
   ·subst hsc;obtain ⟨rfl,rfl⟩:=H0.out (by simp at hk; exact hk);have hN0 : N = 0:=hN.symm;subst hN0;have HRN : Hid (R = none):=Lib.hid (by rw [← HR.out]; unfold digO; rw [if_neg (fun h => h.1 rfl)]);rw [dig_zero] at hrow hcap ⊢;clear hks hN HA;go_wp2_with fail;go_ret2;rw [HRN.out];exact ⟨by rw [HB.out]; exact hb,rfl⟩
   ·have HRN : Hid (R = some N):=Lib.hid (by
     rw [← HR.out,← hN];unfold digO;rw [if_pos ⟨by rw [hsc]; simp,List.all_eq_true.2 HA.out⟩])
    rw [← hsc];have hne : (!s.isEmpty) = true:=(by rw [hsc]; rfl);have hne2 : s.isEmpty = false:=(by rw [hsc]; rfl);clear hks hN HA hsc;go_wp2_with fail;go_ret2;rw [HRN.out];exact ⟨by rw [HB.out]; exact hb,A,cc,rfl,hcap,hrow⟩
end Go.Proofs.YtonehlkiackhcaaGreatDoor

namespace Go.Proofs
open Go.Shelf
def Tryz.lays159_ren : Go.Shelf.Ren:=⟨fun | 159 => 168 | 165 => 105 | 166 => 62 | 167 => 77 | 169 => 66 | 230 => 201 | 204 => 202 | 240 => 99 | 241 => 140 | 197 => 84 | 118 => 220 | 168 => 79 | 270 => 221 | 262 => 222 | 276 => 133 | 277 => 179 | 260 => 121 | 242 => 46 | 313 => 238 | 278 => 89 | 274 => 247 | 275 => 248 | n => n,fun | 9 => 9 | 4 => 4 | 3 => 3 | 5 => 5 | 72 => 99 | 0 => 0 | 76 => 102 | 75 => 101 | 107 => 245 | 70 => 97 | 20 => 20 | 37 => 71 | 127 => 158 | 21 => 21 | 105 => 131 | 164 => 193 | 162 => 304 | 203 => 302 | 119 => 160 | 46 => 121 | 139 => 163 | 138 => 162 | 51 => 63 | 160 => 312 | 208 => 318 | 206 => 316 | 80 => 54 | n => n,fun | 13 => 8 | 3 => 0 | 4 => 1 | n => n⟩
theorem Tryz.lays159 : Go.Proofs.Lays.n159 Tryz.prog Tryz.lays159_ren:={
 mixed:=by kernel_rfl
 f118:=Tryz.func220.trans (congrArg some (by kernel_rfl))
 f159:=Tryz.func168.trans (congrArg some (by kernel_rfl))
 f165:=Tryz.func105.trans (congrArg some (by kernel_rfl))
 f166:=Tryz.func62.trans (congrArg some (by kernel_rfl))
 f167:=Tryz.func77.trans (congrArg some (by kernel_rfl))
 f168:=Tryz.func79.trans (congrArg some (by kernel_rfl))
 f169:=Tryz.func66.trans (congrArg some (by kernel_rfl))
 f197:=Tryz.func84.trans (congrArg some (by kernel_rfl))
 f204:=Tryz.func202.trans (congrArg some (by kernel_rfl))
 f230:=Tryz.func201.trans (congrArg some (by kernel_rfl))
 f240:=Tryz.func99.trans (congrArg some (by kernel_rfl))
 f241:=Tryz.func140.trans (congrArg some (by kernel_rfl))
 f242:=Tryz.func46.trans (congrArg some (by kernel_rfl))
 f260:=Tryz.func121.trans (congrArg some (by kernel_rfl))
 f262:=Tryz.func222.trans (congrArg some (by kernel_rfl))
 f270:=Tryz.func221.trans (congrArg some (by kernel_rfl))
 f274:=Tryz.func247.trans (congrArg some (by kernel_rfl))
 f275:=Tryz.func248.trans (congrArg some (by kernel_rfl))
 f276:=Tryz.func133.trans (congrArg some (by kernel_rfl))
 f277:=Tryz.func179.trans (congrArg some (by kernel_rfl))
 f278:=Tryz.func89.trans (congrArg some (by kernel_rfl))
 f313:=Tryz.func238.trans (congrArg some (by kernel_rfl))
 t0:=Tryz.underlying0
 a0:=Tryz.isAgg0
 z0:=Tryz.sizeOf0
 v0:=Tryz.zeroValue0
 t3:=Tryz.underlying3
 a3:=Tryz.isAgg3
 z3:=Tryz.sizeOf3
 v3:=Tryz.zeroValue3
 t4:=Tryz.underlying4
 a4:=Tryz.isAgg4
 z4:=Tryz.sizeOf4
 v4:=Tryz.zeroValue4
 t5:=Tryz.underlying5
 a5:=Tryz.isAgg5
 z5:=Tryz.sizeOf5
 v5:=Tryz.zeroValue5
 t9:=Tryz.underlying9
 a9:=Tryz.isAgg9
 z9:=Tryz.sizeOf9
 v9:=Tryz.zeroValue9
 t20:=Tryz.underlying20
 a20:=Tryz.isAgg20
 z20:=Tryz.sizeOf20
 v20:=Tryz.zeroValue20
 t21:=Tryz.underlying21
 a21:=Tryz.isAgg21
 z21:=Tryz.sizeOf21
 v21:=Tryz.zeroValue21
 t37:=Tryz.underlying71
 a37:=Tryz.isAgg71
 z37:=Tryz.sizeOf71
 v37:=Tryz.zeroValue71
 t46:=Tryz.underlying121
 a46:=Tryz.isAgg121
 z46:=Tryz.sizeOf121
 v46:=Tryz.zeroValue121
 t51:=Tryz.underlying63
 a51:=Tryz.isAgg63
 z51:=Tryz.sizeOf63
 v51:=Tryz.zeroValue63
 t70:=Tryz.underlying97
 a70:=Tryz.isAgg97
 z70:=Tryz.sizeOf97
 v70:=Tryz.zeroValue97
 t72:=Tryz.underlying99
 a72:=Tryz.isAgg99
 z72:=Tryz.sizeOf99
 v72:=Tryz.zeroValue99
 t75:=Tryz.underlying101
 a75:=Tryz.isAgg101
 z75:=Tryz.sizeOf101
 v75:=Tryz.zeroValue101
 t76:=Tryz.underlying102
 a76:=Tryz.isAgg102
 z76:=Tryz.sizeOf102
 v76:=Tryz.zeroValue102
 t105:=Tryz.underlying131
 a105:=Tryz.isAgg131
 z105:=Tryz.sizeOf131
 v105:=Tryz.zeroValue131
 t107:=Tryz.underlying245
 a107:=Tryz.isAgg245
 z107:=Tryz.sizeOf245
 v107:=Tryz.zeroValue245
 t119:=Tryz.underlying160
 a119:=Tryz.isAgg160
 z119:=Tryz.sizeOf160
 t127:=Tryz.underlying158
 a127:=Tryz.isAgg158
 z127:=Tryz.sizeOf158
 v127:=Tryz.zeroValue158
 t138:=Tryz.underlying162
 a138:=Tryz.isAgg162
 z138:=Tryz.sizeOf162
 v138:=Tryz.zeroValue162
 t139:=Tryz.underlying163
 a139:=Tryz.isAgg163
 z139:=Tryz.sizeOf163
 v139:=Tryz.zeroValue163
 t160:=Tryz.underlying312
 a160:=Tryz.isAgg312
 z160:=Tryz.sizeOf312
 v160:=Tryz.zeroValue312
 t162:=Tryz.underlying304
 a162:=Tryz.isAgg304
 z162:=Tryz.sizeOf304
 v162:=Tryz.zeroValue304
 t164:=Tryz.underlying193
 a164:=Tryz.isAgg193
 z164:=Tryz.sizeOf193
 v164:=Tryz.zeroValue193
 t203:=Tryz.underlying302
 a203:=Tryz.isAgg302
 z203:=Tryz.sizeOf302
 v203:=Tryz.zeroValue302
 t206:=Tryz.underlying316
 a206:=Tryz.isAgg316
 z206:=Tryz.sizeOf316
 v206:=Tryz.zeroValue316
 t208:=Tryz.underlying318
 a208:=Tryz.isAgg318
 z208:=Tryz.sizeOf318
 v208:=Tryz.zeroValue318
 g3:=by kernel_rfl
 g4:=by kernel_rfl
 g13:=by kernel_rfl }
theorem Tryz.Builder_Extra_159 : Builder.Extra Tryz.prog Tryz.lays159_ren:={
 sizeBuilder:=by kernel_rfl
 liesBuilder:=by kernel_rfl
 t5:=Tryz.underlying5
 a5:=Tryz.isAgg5
 z5:=Tryz.sizeOf5
 v5:=Tryz.zeroValue5
 infoByte:=by kernel_rfl
 cellsByte:=by kernel_rfl
 sizeByte:=by kernel_rfl
 neB5:=by decide }
def Tryz.lays143_ren : Go.Shelf.Ren:=⟨fun | 143 => 131 | 219 => 108 | 217 => 124 | 225 => 107 | 224 => 106 | 267 => 141 | 266 => 160 | 314 => 180 | n => n,fun | 9 => 9 | 3 => 3 | 4 => 4 | 5 => 5 | 46 => 121 | 146 => 198 | 51 => 63 | n => n,fun | 1 => 2 | n => n⟩
theorem Tryz.lays143 : Go.Proofs.Lays.n143 Tryz.prog Tryz.lays143_ren:={
 mixed:=by kernel_rfl
 f143:=Tryz.func131.trans (congrArg some (by kernel_rfl))
 f217:=Tryz.func124.trans (congrArg some (by kernel_rfl))
 f219:=Tryz.func108.trans (congrArg some (by kernel_rfl))
 f224:=Tryz.func106.trans (congrArg some (by kernel_rfl))
 f225:=Tryz.func107.trans (congrArg some (by kernel_rfl))
 f266:=Tryz.func160.trans (congrArg some (by kernel_rfl))
 f267:=Tryz.func141.trans (congrArg some (by kernel_rfl))
 f314:=Tryz.func180.trans (congrArg some (by kernel_rfl))
 t3:=Tryz.underlying3
 a3:=Tryz.isAgg3
 z3:=Tryz.sizeOf3
 v3:=Tryz.zeroValue3
 t4:=Tryz.underlying4
 a4:=Tryz.isAgg4
 z4:=Tryz.sizeOf4
 v4:=Tryz.zeroValue4
 t5:=Tryz.underlying5
 a5:=Tryz.isAgg5
 z5:=Tryz.sizeOf5
 v5:=Tryz.zeroValue5
 t9:=Tryz.underlying9
 a9:=Tryz.isAgg9
 z9:=Tryz.sizeOf9
 v9:=Tryz.zeroValue9
 t46:=Tryz.underlying121
 a46:=Tryz.isAgg121
 z46:=Tryz.sizeOf121
 v46:=Tryz.zeroValue121
 t51:=Tryz.underlying63
 a51:=Tryz.isAgg63
 z51:=Tryz.sizeOf63
 v51:=Tryz.zeroValue63
 t146:=Tryz.underlying198
 a146:=Tryz.isAgg198
 z146:=Tryz.sizeOf198
 v146:=Tryz.zeroValue198
 g1:=by kernel_rfl }
open Go.RowKit Go.Lib in
theorem Tryz.strings_Index_one (s : ByteArray) (c : UInt8) (w : World) :
  Calls Tryz.prog 131 #[.string s,.string ⟨#[c]⟩] w fun e w' => e = .returned (.int .i64 (Lib.indexByte s.data.toList c)) ∧ w' = w:=Any.strings_Index_one Tryz.lays143 s c w
open Go.RowKit Go.Lib in
theorem Tryz.strings_ToLower_any (s : ByteArray) (w : World) (hs : s.size < 35184372088832) (hV : CaseVar 8 caseA w) (hT : Lib.Utf8Tabs 0 1 w) :
  Calls Tryz.prog 168 #[.string s] w fun e w' => e = .returned (.string ⟨(Lib.toLowerD s.data.toList).toArray⟩) ∧ Below w.heap.size w w':=Any.strings_ToLower_any Tryz.lays159 Tryz.Builder_Extra_159 s w hs hV hT
end Go.Proofs

namespace Go.Proofs.YtonehlkiackhcaaGreatDoor
open Go.RowKit Go.Lib
structure CEnv (w : World) : Prop where
 l : LEnv w
 cas : CaseVar 8 caseA w
theorem CEnv.keepB {w w' : World} (h : CEnv w) (hb : Below w.heap.size w w') : CEnv w':=⟨h.l.keepB hb,CaseVar_below h.cas hb⟩
theorem toLower_at (r : List UInt8) (w : World) (hl : r.length ≤ 1000) (he : CEnv w) :
  Calls Tryz.prog 168 #[.string ⟨r.toArray⟩] w fun e w' => e = .returned (.string ⟨(toLowerD r).toArray⟩) ∧ Below w.heap.size w w' :=
 Tryz.strings_ToLower_any ⟨r.toArray⟩ w (by simp [ByteArray.size]; omega) he.cas he.l.rd.tabs
theorem low_len : ∀ (k : Nat) (r : List UInt8),r.length ≤ k → (toLowerD r).length ≤ 4 * k
 | 0,r,h => by rw [List.eq_nil_of_length_eq_zero (Nat.le_zero.1 h)]; exact Nat.le_refl _
 | k + 1,r,h => by
  by_cases hr : r = []
  ·subst hr; exact Nat.zero_le _
  ·unfold toLowerD;rw [mapD_step toLowerU r hr,List.length_append];have hw:=decodeL_width r;have ih:=low_len k (r.drop (decodeL r).2) (by rw [List.length_drop]; omega);unfold toLowerD at ih;have h4 : (if 0 ≤ toLowerU ((decodeL r).1 : Int) then encodeRune (toLowerU ((decodeL r).1 : Int)) else []).length ≤ 4:=by
    split
    ·unfold encodeRune encodeRuneZ;rw [List.length_map];split
     ·simp
     ·split
      ·simp
      ·split
       ·simp
       ·split <;> simp
    ·simp
   omega
theorem V_drop_le (l : List Nat) (k : Nat) : V 10 (l.drop k) ≤ V 10 l:=by
 have h:=V_append 10 (l.take k) (l.drop k);rw [List.take_append_drop] at h;have h1 : 0 < 10 ^ (l.take k).length:=Nat.pow_pos (by decide);have h2 : V 10 (l.drop k) ≤ 10 ^ (l.take k).length * V 10 (l.drop k):=Nat.le_mul_of_pos_left _ h1;omega
theorem hexes_any (s : List UInt8) (a b : Nat) (w : World) (hab : a ≤ b) (hb : b ≤ s.length) (h7 : b ≤ a + 7) (he : CEnv w) :
  Calls Tryz.prog 132 #[.string ⟨s.toArray⟩,.int .i64 (a : Int),.int .i64 (b : Int)] w fun e w' => e = .returned (.tuple #[.int .i64 (((hexS (cutL s a b)).getD 0 : Nat) : Int),.bool (hexS (cutL s a b)).isSome]) ∧ Below w.heap.size w w':=by
 have hsub:=run_sub s a b hab hb (a : Int) (b : Int) rfl rfl;have hlen:=cutL_len (a:=a) hb;obtain ⟨r,hr⟩ : ∃ r,cutL s a b = r:=⟨_,rfl⟩;rw [show (s.drop a).take (b - a) = r from hr] at hsub;rw [hr] at hlen ⊢;have hlow:=hex_low r (by omega);have hpow : ∀ m,hexS r = some m → m < 16 ^ 7:=fun m hm => Nat.lt_of_lt_of_le (hexS_pow hm) (Nat.pow_le_pow_right (by decide) (by omega));obtain ⟨R,hR⟩ : ∃ R,hexS r = R:=⟨_,rfl⟩;rw [hR] at hlow hpow ⊢;have HTL:=Lib.hid (toLower_at r w (by omega) he);have hll:=low_len 7 r (by omega);have HDG:=Lib.hid (fun W => digitsOf_any (toLowerD r) 16 W (.inl rfl) (by omega));rw [← hlow] at HDG;obtain ⟨T,hT⟩ : ∃ T,toLowerD r = T:=⟨_,rfl⟩;rw [hT] at HTL HDG;clear hR hr hT hlow hll;have HP:=Lib.hid hpow;clear hpow;go_enter Tryz.func132,Tryz.ntmps132;go_wp2_with fail;refine HTL.out.mono ?_;rintro e w1 ⟨rfl,hb1⟩;go_wp2_with fail;refine (HDG.out w1).mono ?_;rintro e w2 ⟨hb2,hR⟩;have hb3:=below_then hb1 hb2 hb1.size;clear HTL HDG hb1 hb2;rcases R with _ | N
 ·obtain rfl:=hR;go_wp2_with fail
  go_loop [10,11] (fun n k => n = .int .i64 0 ∧ k = .int .i64 (-1)) (fun _ k => 0)
  case atStart => exact ⟨rfl,rfl⟩
  case round =>
   obtain ⟨rfl,rfl⟩:=hrel;go_wp2_with fail;go_ret2;exact ⟨rfl,hb3⟩
 ·obtain ⟨A,c,rfl,hcap,hrow⟩:=hR;have hN:=HP.out N rfl;have hV:=V_dig (B:=10) (by decide) N;have HL:=Lib.hid (fun x (hx : x ∈ dig 10 N) => dig_lt (B:=10) (by decide) N x hx);have hln : (dig 10 N).length ≤ 10:=dig_len (by decide) 10 N (by omega);obtain ⟨D,hD⟩ : ∃ D,dig 10 N = D:=⟨_,rfl⟩;rw [hD] at hV HL hrow hcap hln ⊢;have HV:=Lib.hid hV;have HVD:=Lib.hid (fun k => V_drop_le D k);clear hV hD;go_wp2_with fail
  go_loop [10,11] (fun n k => ∃ j : Nat,j ≤ D.length ∧ k = .int .i64 ((j : Int) - 1) ∧ n = .int .i64 (V 10 (D.drop j) : Nat)) (fun _ k => (RowKit.intOf k + 1).toNat)
  case atStart => exact ⟨D.length,Nat.le_refl _,by rfl,by rw [List.drop_length]; rfl⟩
  case round =>
   obtain ⟨j,hj,rfl,rfl⟩:=hrel;rcases j with _ | i
   ·rw [show ((0 : Nat) : Int) - 1 = -1 from rfl,List.drop_zero,HV.out];go_wp2_with fail;go_ret2;exact ⟨rfl,hb3⟩
   ·rw [show ((i + 1 : Nat) : Int) - 1 = (i : Int) by omega];have hlt : i < D.length:=(by omega);obtain ⟨b0,off,rfl,hcell⟩:=row_i64 hrow hlt;have hdr : D.drop i = D[i] :: D.drop (i + 1):=List.drop_eq_getElem_cons hlt;have hvd:=HVD.out i;rw [HV.out] at hvd;have hvv : V 10 (D.drop i) = D[i] + 10 * V 10 (D.drop (i + 1)):=(by rw [hdr]; rfl);obtain ⟨x,hx⟩ : ∃ x,D[i] = x:=⟨_,rfl⟩;rw [hx] at hcell hvv;obtain ⟨v,hv⟩ : ∃ v,V 10 (D.drop (i + 1)) = v:=⟨_,rfl⟩;rw [hv] at hvv ⊢;have h1 : v ≤ 268435456:=(by omega);have h2 : x ≤ 268435456:=(by omega);have HVV:=Lib.hid hvv;clear hdr hx hv hvv hvd;go_wp2_with fail
    go_round
    case rel => exact ⟨i,by omega,rfl,by rw [HVV.out]; go_num⟩
    case measure => simp [RowKit.intOf]
end Go.Proofs.YtonehlkiackhcaaGreatDoor
