/- The reference's words: what it computes of them. Nothing is claimed here. -/
import Derived.Test.YtonehlkiackhcaaGreatDoorRefD
import Derived.Lib.IndexAny
set_option linter.unusedVariables false
set_option linter.unusedSimpArgs false
set_option maxRecDepth 100000
set_option maxHeartbeats 16000000
namespace Go.Proofs.YtonehlkiackhcaaGreatDoor
section
open Go.RowKit Go.Shelf Go.Lib
theorem flat_index {α : Type} (f : List UInt8 → List α) (hf : ∀ c,0 < c.length → (f c).length = c.length) : ∀ (cs : List (List UInt8)),(∀ c ∈ cs,Chr c) → ∀ (j:Nat) (hj : j < cs.length) (r:Nat),r < cs[j].length →
  (cs.flatMap f)[(cs.take j).flatten.length + r]? = (f cs[j])[r]?
 | c :: cs,h,0,_,r,hr => by
  have hc:=(h c (List.mem_cons_self ..)).pos;simp only [List.take_zero,List.flatten_nil,List.length_nil,Nat.zero_add,List.flatMap_cons,List.getElem_cons_zero];rw [List.getElem?_append_left (by rw [hf c hc]; exact hr)]
 | c :: cs,h,j + 1,hj,r,hr => by
  have hc:=(h c (List.mem_cons_self ..)).pos;simp only [List.take_succ_cons,List.flatten_cons,List.length_append,List.flatMap_cons,List.getElem_cons_succ];rw [List.getElem?_append_right (by rw [hf c hc]; omega),hf c hc,show c.length + (cs.take j).flatten.length + r - c.length = (cs.take j).flatten.length + r by omega];exact flat_index f hf cs (fun x hx => h x (List.mem_cons_of_mem _ hx)) j (by simpa using hj) r hr
theorem wof_len (c : List UInt8) (h : 0 < c.length) : (wof c).length = c.length:=by simp [wof]; omega
theorem wid_at (cs : List (List UInt8)) (h : ∀ c ∈ cs,Chr c) (j:Nat) (hj : j < cs.length) (r:Nat) (hr : r < cs[j].length) : (widths cs.flatten)[(cs.take j).flatten.length + r]? = some (if r = 0 then (cs[j].length:Int) else 0):=by
 rw [widths_all cs h,flat_index wof wof_len cs h j hj r hr];unfold wof;cases r with
 | zero => rfl
 | succ r => rw [List.getElem?_cons_succ,List.getElem?_replicate]; simp; omega
theorem byte_of (cs : List (List UInt8)) (h : ∀ c ∈ cs,Chr c) (j:Nat) (hj : j < cs.length) (r:Nat) (hr : r < cs[j].length) : bAt cs.flatten ((cs.take j).flatten.length + r) = bAt cs[j] r:=by
 have e:=flat_index (fun c => c) (fun _ _ => rfl) cs h j hj r hr;unfold bAt;rw [List.getD_eq_getElem?_getD,List.getD_eq_getElem?_getD,← e];simp
theorem flat_succ (cs : List (List UInt8)) (j:Nat) (hj : j < cs.length) : (cs.take (j + 1)).flatten.length = (cs.take j).flatten.length + cs[j].length:=by
 rw [List.take_succ_eq_append_getElem hj,List.flatten_append,List.length_append];simp only [List.flatten_cons,List.flatten_nil,List.append_nil]
def plF (l : List UInt8) (ws : List Int) : Nat → Int × Int
 | 0 => (1,1)
 | k + 1 => if bAt l k = 10 then ((plF l ws k).1 + 1,1) else if 0 < ws[k]?.getD 0 then ((plF l ws k).1,(plF l ws k).2 + 1) else plF l ws k
theorem plF_bound (l : List UInt8) (ws : List Int) : ∀ k,1 ≤ (plF l ws k).1∧(plF l ws k).1 ≤ k + 1∧1 ≤ (plF l ws k).2∧(plF l ws k).2 ≤ k + 1
 | 0 => by simp [plF]
 | k + 1 => by
  have:=plF_bound l ws k;unfold plF;split
  ·simp only; omega
  ·split
   ·simp only; omega
   ·omega
theorem nl_byte (c : List UInt8) (h : Chr c) (r:Nat) (hr : r < c.length) : bAt c r = 10 ↔ (c = nlc∧r = 0):=by
 constructor
 ·intro e;rcases h.shape with ⟨x,rfl⟩ | h2
  ·have : r = 0:=(by simp at hr; omega);subst this;rw [bAt_zero] at e;exact ⟨by unfold nlc; congr 1; exact UInt8.toNat_inj.1 (by rw [e]; rfl),rfl⟩
  ·have:=h2 r hr;omega
 ·rintro ⟨rfl,rfl⟩;rfl
theorem plF_chars (cs : List (List UInt8)) (h : ∀ c ∈ cs,Chr c) : ∀ j,j ≤ cs.length → plF cs.flatten (widths cs.flatten) (cs.take j).flatten.length = place (cs.take j)
 | 0,_ => by simp [plF,place]
 | j + 1,hj => by
  have hj' : j < cs.length:=(by omega);have hc:=h cs[j] (List.getElem_mem hj');have hp:=hc.pos;have ih:=plF_chars cs h j (by omega);have e1 : place (cs.take (j + 1)) = step (place (cs.take j)) cs[j]:=(by unfold place; rw [List.take_succ_eq_append_getElem hj',List.foldl_append]; rfl);have key : ∀ r,1 ≤ r → r ≤ cs[j].length → plF cs.flatten (widths cs.flatten) ((cs.take j).flatten.length + r) = step (place (cs.take j)) cs[j]:=by
   intro r
   induction r with
   | zero => intro h0; omega
   | succ r ihr =>
    intro _ hr;have hb:=byte_of cs h j hj' r (by omega);have hw:=wid_at cs h j hj' r (by omega);rw [show (cs.take j).flatten.length + (r + 1) = (cs.take j).flatten.length + r + 1 by omega];unfold plF;rw [hb,hw,Option.getD_some];rcases Nat.eq_zero_or_pos r with rfl | hrp
    ·rw [Nat.add_zero,ih,if_pos rfl];unfold step
     by_cases hnl : cs[j] = nlc
     ·rw [if_pos ((nl_byte _ hc 0 (by omega)).2 ⟨hnl,rfl⟩),if_pos hnl]
     ·rw [if_neg (fun e => hnl ((nl_byte _ hc 0 (by omega)).1 e).1),if_neg hnl,if_pos (by omega)]
    ·rw [if_neg (fun e => by have:=((nl_byte _ hc r (by omega)).1 e).2; omega),if_neg (show ¬ r = 0 by omega),if_neg (by omega)];exact ihr (by omega) (by omega)
  rw [flat_succ cs j hj',key cs[j].length (by omega) (Nat.le_refl _),e1]
theorem take_len_le (cs : List (List UInt8)) (j:Nat) : (cs.take j).flatten.length ≤ cs.flatten.length:=by rw [← take_flatten cs j,List.length_take]; omega
theorem place_any (cs : List (List UInt8)) (h : ∀ c ∈ cs,Chr c) (j:Nat) (hj : j ≤ cs.length) (o:Int) (ho : o = (((cs.take j).flatten.length:Nat):Int)) (w : World) (hl : cs.flatten.length ≤ 16000) (hT : Tabs w) :
  Calls Tryz.prog 163 #[.string ⟨cs.flatten.toArray⟩,.int .i64 o] w fun e w' => e = .returned (.tuple #[.int .i64 (place (cs.take j)).1,.int .i64 (place (cs.take j)).2])∧Below w.heap.size w w':=by
 have hpl:=plF_chars cs h j hj;have hole:=take_len_le cs j;have hwl:=widths_len cs.flatten;subst ho;generalize (cs.take j).flatten.length = m at *
 obtain ⟨l,hl0⟩ : ∃ l,cs.flatten = l:=⟨_,rfl⟩;rw [hl0] at hpl hwl hl hole ⊢;obtain ⟨ws,hws⟩ : ∃ ws,widths l = ws:=⟨_,rfl⟩;rw [hws] at hpl hwl;have hn1 : ws.length ≤ l.length:=by omega
 have hn2 : l.length ≤ ws.length:=by omega
 have HWS:=hid hws;rw [← hpl];clear hwl hl0 hws h hpl hj;go_enter Tryz.func163,Tryz.ntmps163;go_wp2_with fail;refine (widths_any l _ hl hT).mono ?_;rintro e w1 ⟨rfl,hBW,hb1⟩;rw [HWS.out] at hBW;go_wp2_with fail
 go_loop [6,7,13] (fun a b i => ∃ k : Nat,i = .int .i64 k∧k ≤ m∧a = .int .i64 (plF l ws k).1∧b = .int .i64 (plF l ws k).2) (fun _ _ i => l.length - (RowKit.intOf i).toNat)
 case atStart => exact ⟨0,rfl,Nat.zero_le _,rfl,rfl⟩
 case round =>
  obtain ⟨k,rfl,hk,rfl,rfl⟩:=hrel;obtain ⟨u1,u2,u3,u4⟩:=plF_bound l ws k
  by_cases hlt : k < m
  ·have hk' : k < ws.length:=(by omega);have hkl : k < l.length:=(by omega);have hc:=hBW.cell k;rw [show (ics ws).toArray[k]? = some (.int .i64 ws[k]) by simp [ics,hk']] at hc;have HN:=hid (show plF l ws (k + 1) = if bAt l k = 10 then ((plF l ws k).1 + 1,1) else if 0 < ws[k] then ((plF l ws k).1,(plF l ws k).2 + 1) else plF l ws k by
    conv => lhs; unfold plF
    simp [hk'])
   have hbt:=byte_at l k (by simpa [ByteArray.size] using hkl);generalize ws[k] = n at *
   obtain ⟨a,b,hab⟩ : ∃ a b,plF l ws k = (a,b):=⟨_,_,rfl⟩;rw [hab] at u1 u2 u3 u4 HN ⊢;simp only at u1 u2 u3 u4 HN;clear hab;have hbl:=bAt_lt l k;generalize bAt l k = xb at *
   have tm : decide ((m:Int) ≤ (k:Int)) = false:=decide_eq_false (by omega)
   by_cases hx : xb = 10
   ·subst hx;have HN':=hid (show plF l ws (k + 1) = (a + 1,1) by rw [HN.out,if_pos rfl]);go_wp2_with fail
    go_round
    case rel => exact ⟨k + 1,by go_num,by omega,by rw [HN'.out],by rw [HN'.out]⟩
    case measure => simp [RowKit.intOf]; omega
   ·have hxb : ((xb:Int) == 10) = false:=by rw [beq_eq_false_iff_ne]; omega
    by_cases hn : 0 < n
    ·have HN':=hid (show plF l ws (k + 1) = (a,b + 1) by rw [HN.out,if_neg hx,if_pos hn]);clear hx;go_wp2_with fail
     go_round
     case rel => exact ⟨k + 1,by go_num,by omega,by rw [HN'.out],by rw [HN'.out]⟩
     case measure => simp [RowKit.intOf]; omega
    ·have HN':=hid (show plF l ws (k + 1) = (a,b) by rw [HN.out,if_neg hx,if_neg hn]);clear hx;go_wp2_with fail
     go_round
     case rel => exact ⟨k + 1,by go_num,by omega,by rw [HN'.out],by rw [HN'.out]⟩
     case measure => simp [RowKit.intOf]; omega
  ·obtain rfl : k = m:=by omega
   by_cases hkl : k < l.length
   ·have hk' : k < ws.length:=(by omega);have hc:=hBW.cell k;rw [show (ics ws).toArray[k]? = some (.int .i64 ws[k]) by simp [ics,hk']] at hc;generalize ws[k] = n at *
    go_wp2_with fail;go_ret2;exact ⟨rfl,hb1⟩
   ·go_wp2_with fail;go_ret2;exact ⟨rfl,hb1⟩
end
section
open Go.RowKit Go.Shelf Go.Lib Go.Maps
def letL : List UInt8:=[97,98,99,100,101,102,103,104,105,106,107,108,109,110,111,112,113,114,115,116,117,118,119,120,121,122,65,66,67,68,69,70,71,72,73,74,75,76,77,78,79,80,81,82,83,84,85,86,87,88,89,90,95]
def digL : List UInt8:=[48,49,50,51,52,53,54,55,56,57]
def wrdL : List UInt8:=[97,98,99,100,101,102,103,104,105,106,107,108,109,110,111,112,113,114,115,116,117,118,119,120,121,122,65,66,67,68,69,70,71,72,73,74,75,76,77,78,79,80,81,82,83,84,85,86,87,88,89,90,95,48,49,50,51,52,53,54,55,56,57]
def hexL : List UInt8:=[48,49,50,51,52,53,54,55,56,57,97,98,99,100,101,102]
theorem byte_all (p : UInt8 → Bool) (h : ((List.range 256).all fun n => p (UInt8.ofNat n)) = true) (c : UInt8) : p c = true:=by
 have:=List.all_eq_true.1 h c.toNat (List.mem_range.2 c.toNat_lt);simpa using this
theorem letL_is (c : UInt8) : letL.contains c = isLet c:=by
 have:=byte_all (fun c => letL.contains c == isLet c) (by decide +kernel) c;simpa using this
theorem digL_is (c : UInt8) : digL.contains c = isDig c:=by
 have:=byte_all (fun c => digL.contains c == isDig c) (by decide +kernel) c;simpa using this
theorem wrdL_is (c : UInt8) : wrdL.contains c = isWrd c:=by
 have:=byte_all (fun c => wrdL.contains c == isWrd c) (by decide +kernel) c;simpa using this
theorem hexL_is (c : UInt8) : hexL.contains c = isHex c:=by
 have:=byte_all (fun c => hexL.contains c == isHex c) (by decide +kernel) c;simpa using this
theorem binL_is (c : UInt8) : ([48,49] : List UInt8).contains c = isBin c:=by
 have:=byte_all (fun c => ([48,49] : List UInt8).contains c == isBin c) (by decide +kernel) c;simpa using this
def hasB (l : List UInt8) (i:Nat) (S : List UInt8) : Bool:=decide (i < l.length) && S.contains (at0 l i)
theorem has_any (l S : List UInt8) (i:Nat) (x:Int) (hx : x = (i:Int)) (w : World) (hl : l.length ≤ 16000) (hi : i ≤ 20000) :
  Calls Tryz.prog 92 #[.string ⟨l.toArray⟩,.int .i64 x,.string ⟨S.toArray⟩] w fun e w' => e = .returned (.bool (hasB l i S))∧w = w':=by
 subst hx;have HE:=hid (show hasB l i S = (decide (i < l.length) && S.contains (at0 l i)) from rfl);have t0 : decide ((0:Int) ≤ (i:Int)) = true:=decide_eq_true (by omega)
 by_cases hlt : i < l.length
 ·have t1 : decide ((i:Int) < (l.length:Int)) = true:=decide_eq_true (by omega);have hsub:=run_sub l i (i + 1) (by omega) (by omega) (i:Int) ((i:Int) + 1) rfl (by omega);rw [show (l.drop i).take (i + 1 - i) = [at0 l i] from by
   rw [show i + 1 - i = 1 by omega,drop_at l i hlt];rfl] at hsub
  rw [decide_eq_true hlt,Bool.true_and] at HE;go_enter Tryz.func92,Tryz.ntmps92;go_wp2_with fail;refine (Tryz.strings_Contains_one ⟨S.toArray⟩ (at0 l i) w).mono ?_;rintro e w1 ⟨rfl,rfl⟩;go_wp2_with fail;go_ret;refine ⟨ret_bool ?_,rfl⟩;rw [HE.out,contains_iff_indexByte]
 ·have t1 : decide ((i:Int) < (l.length:Int)) = false:=decide_eq_false (by omega);rw [decide_eq_false hlt,Bool.false_and] at HE;go_enter Tryz.func92,Tryz.ntmps92;go_wp2_with fail;go_ret;exact ⟨ret_bool HE.out.symm,rfl⟩
theorem run_any (p : UInt8 → Bool) (S : List UInt8) (hS : ∀ c,S.contains c = p c) (l : List UInt8) (i:Nat) (x:Int) (hx : x = (i:Int)) (w : World) (hl : l.length ≤ 16000) (hi : i ≤ l.length + 2) :
  Calls Tryz.prog 162 #[.string ⟨l.toArray⟩,.int .i64 x,.string ⟨S.toArray⟩] w fun e w' => e = .returned (.int .i64 ((i + span p (l.drop i):Nat):Int))∧w = w':=by
 subst hx;have HC:=hid (fun (k:Nat) (hk : k ≤ 20000) => has_any l S k (k:Int) rfl w hl hk);go_enter Tryz.func162,Tryz.ntmps162;go_wp2_with fail
 go_loop [1] (fun v => ∃ k : Nat,i ≤ k∧k ≤ i + l.length∧k ≤ l.length + 2∧v = .int .i64 (k:Int)∧k + span p (l.drop k) = i + span p (l.drop i)) (fun v => 40000 - (RowKit.intOf v).toNat)
 case atStart => exact ⟨i,Nat.le_refl _,by omega,hi,rfl,rfl⟩
 case round =>
  obtain ⟨k,hk1,hk2,hk4,rfl,hk3⟩:=hrel;have H3:=hid hk3;clear hk3;go_wp2_with fail;refine (HC.out k (by omega)).mono ?_;rintro e w1 ⟨rfl,rfl⟩;cases hh : hasB l k S
  ·have hz : span p (l.drop k) = 0:=by
    unfold hasB at hh
    by_cases hlt : k < l.length
    ·rw [decide_eq_true hlt,Bool.true_and,hS] at hh;rw [span_at p l k hlt,hh];rfl
    ·exact span_end p l k (by omega)
   have HZ:=hid hz;clear hh hz;go_wp2_with fail;go_ret;refine ⟨ret_int ?_,rfl⟩;have:=H3.out;rw [HZ.out] at this;omega
  ·unfold hasB at hh;rw [Bool.and_eq_true,decide_eq_true_eq,hS] at hh;obtain ⟨hlt,hp⟩:=hh;have hz:=span_at p l k hlt;rw [hp,if_pos rfl] at hz;have HZ:=hid hz;clear hp hz;go_wp2_with fail
   go_round
   case rel => exact ⟨k + 1,by omega,by omega,by omega,by go_num,by have:=H3.out; rw [HZ.out] at this; omega⟩
   case measure => simp [RowKit.intOf]; omega
theorem info_strR : (Tryz.prog.info? 9).map (fun i => (i.zero,i.size,i.bytes)) = some (some (.string ByteArray.empty),1,16):=by kernel_rfl
theorem reservedR_any (w : World) :
  Calls Tryz.prog 218 #[] w fun e w' => e = .returned (.slice (some ⟨w.heap.size,0,none⟩) 38 38)∧w' = w.alloc (.cells (strs kws).toArray 9):=by
 obtain ⟨i0,hi,hz0,hz1,hz2⟩:=info_parts info_strR;go_enter Tryz.func218,Tryz.ntmps218;go_wp2_with (refine wpList_buildSlice rfl 50 9 38 _ rfl (strs kws).toArray i0 _ Tryz.underlying50 hi hz0 (by rw [hz1]; decide) (by rw [hz1]; decide) (by rw [hz1]; kernel_rfl) ?_);go_ret;exact ⟨rfl,rfl⟩
theorem isKeyword_any (t : List UInt8) (w : World) :
  Calls Tryz.prog 199 #[.string ⟨t.toArray⟩] w fun e w' => e = .returned (.bool (kws.contains t))∧Below w.heap.size w w':=by
 obtain ⟨r,hr⟩ : ∃ r,kws.contains t = r:=⟨_,rfl⟩;rw [hr];have HR:=hid hr;clear hr;have hB:=Blk.new w 9 (strs kws).toArray;have hb:=(Below.refl w.heap.size w).alloc (Nat.le_refl _) (.cells (strs kws).toArray 9);go_enter Tryz.func199,Tryz.ntmps199;go_wp2_with fail;refine (reservedR_any w).mono ?_;rintro e w1 ⟨rfl,hw1⟩;rw [← hw1] at hB hb;obtain ⟨b,hbb⟩ : ∃ b,w.heap.size = b:=⟨_,rfl⟩;have hb':=hb;rw [hbb] at hB hb' ⊢;clear hw1;go_wp2_with fail
 go_loop [7] (fun v => ∃ k : Nat,k ≤ 38∧v = .int .i64 (k:Int)∧Hid (kws.contains t = (kws.drop k).contains t)) (fun v => 38 - (RowKit.intOf v).toNat)
 case atStart => exact ⟨0,by omega,rfl,hid rfl⟩
 case round =>
  obtain ⟨k,hk,rfl,HC⟩:=hrel;have hlen : kws.length = 38:=rfl
  by_cases hlt : k < 38
  ·obtain ⟨x,hx⟩ : ∃ x,kws[k]? = some x:=⟨kws[k],List.getElem?_eq_getElem (by omega)⟩;have hd : kws.drop k = x :: kws.drop (k + 1):=by
    obtain ⟨h1,rfl⟩:=List.getElem?_eq_some_iff.1 hx;exact List.drop_eq_getElem_cons h1
   have hcell : w1.cell? ⟨b,k,none⟩ = some (.string ⟨x.toArray⟩):=by
    rw [hB.cell k];simp [strs,hx]
   have HD:=hid hd;clear hx hd;cases hq : (x == t)
   ·have HN:=hid (show kws.contains t = (kws.drop (k + 1)).contains t from by
     rw [HC.out,HD.out,List.contains_cons,show (t == x) = false from by rw [beq_eq_false_iff_ne] at hq ⊢; exact fun e => hq e.symm,Bool.false_or])
    go_wp2_with fail
    go_round
    case rel => exact ⟨k + 1,by omega,by go_num,HN⟩
    case measure => simp [RowKit.intOf]; omega
   ·have HN:=hid (show kws.contains t = true from by
     rw [HC.out,HD.out,List.contains_cons,show (t == x) = true from by rw [beq_iff_eq] at hq ⊢; exact hq.symm,Bool.true_or])
    go_wp2_with fail;go_ret;exact ⟨ret_bool (by rw [← HR.out,HN.out]),hb'⟩
  ·have HN:=hid (show kws.contains t = false from by
    rw [HC.out,List.drop_eq_nil_of_le (by omega)];rfl)
   go_wp2_with fail;go_ret;exact ⟨ret_bool (by rw [← HR.out,HN.out]),hb'⟩
def pcV (k e c i:Int) : Value:=.agg #[.int .i64 k,.int .i64 e,.int .i64 c,.int .i64 i]
def PPost (w : World) (i:Nat) (r : Lex) (e : Ending) (w' : World) : Prop :=
 Below w.heap.size w w'∧match r with
 | .ok (k,n) => e = .returned (pcV k ((i + n:Nat):Int) 0 0)
 | .error (c,d) => ∃ k n : Int,e = .returned (pcV k n c ((i + d:Nat):Int))
theorem PPost.ok {w : World} {i : Nat} {r : Lex} {e : Ending} {w' : World} {k x : Int} {n : Nat} (hr : r = .ok (k,n)) (hb : Below w.heap.size w w') (he : e = .returned (pcV k x 0 0)) (hx : x = ((i + n:Nat):Int)) : PPost w i r e w':=by
 subst hr hx;exact ⟨hb,he⟩
theorem PPost.err {w : World} {i : Nat} {r : Lex} {e : Ending} {w' : World} {c x k n : Int} {d : Nat} (hr : r = .error (c,d)) (hb : Below w.heap.size w w') (he : e = .returned (pcV k n c x)) (hx : x = ((i + d:Nat):Int)) : PPost w i r e w':=by
 subst hr hx;exact ⟨hb,k,n,he⟩
theorem Blk.set4 {w : World} {g t : Nat} {x0 x1 x2 x3 : Value} (h : Blk w g t #[x0,x1,x2,x3]) (a b c d : Value) : Blk ((((w.setCell ⟨g,0,none⟩ a).setCell ⟨g,1,none⟩ b).setCell ⟨g,2,none⟩ c).setCell ⟨g,3,none⟩ d) g t #[a,b,c,d]:=(((h.set_ 0 a).set_ 1 b).set_ 2 c).set_ 3 d
theorem below_set4 {B g : Nat} {a w : World} (h : Below B a w) (hg : B ≤ g) (x0 x1 x2 x3 : Value) : Below B a ((((w.setCell ⟨g,0,none⟩ x0).setCell ⟨g,1,none⟩ x1).setCell ⟨g,2,none⟩ x2).setCell ⟨g,3,none⟩ x3) :=
 (((h.setCell (p:=⟨g,0,none⟩) hg _).setCell (p:=⟨g,1,none⟩) hg _).setCell (p:=⟨g,2,none⟩) hg _).setCell (p:=⟨g,3,none⟩) hg _
theorem word_any (l : List UInt8) (i:Nat) (w : World) (hl : l.length ≤ 16000) (hi : i ≤ l.length) :
  Calls Tryz.prog 165 #[.string ⟨l.toArray⟩,.int .i64 (i:Int)] w (PPost w i (lexName (l.drop i))):=by
 obtain ⟨n,hn⟩ : ∃ n,span isWrd (l.drop i) = n:=⟨_,rfl⟩;have hle:=span_drop_le isWrd l i hi;obtain ⟨t,ht⟩ : ∃ t,(l.drop i).take n = t:=⟨_,rfl⟩;obtain ⟨kw,hkw⟩ : ∃ kw,kws.contains t = kw:=⟨_,rfl⟩;have HL:=hid (show lexName (l.drop i) = if 24 < n then .error (7,0) else .ok (if kw then 5 else 4,n) from by unfold lexName; rw [hn,ht,hkw]);have HKW:=hid hkw;clear hkw;rw [hn] at hle;have hsub:=run_sub l i (i + n) (by omega) hle (i:Int) ((i + n:Nat):Int) rfl rfl;rw [show i + n - i = n by omega,ht] at hsub;obtain ⟨m,hm⟩ : ∃ m,i + n = m:=⟨_,rfl⟩;rw [hm] at hsub hle;have HRUN:=hid (fun W => run_any isWrd wrdL wrdL_is l i (i:Int) rfl W hl (by omega));have HN:=hid (show i + span isWrd (l.drop i) = m from by rw [hn]; exact hm);clear hn ht;have hP:=(Blk.new w 188 #[.int .i64 0,.int .i64 0,.int .i64 0,.int .i64 0]).alloc (.cells #[.int .i64 4,.int .i64 (m:Int),.int .i64 0,.int .i64 0] 188);have hQ:=Blk.new (w.alloc (.cells #[.int .i64 0,.int .i64 0,.int .i64 0,.int .i64 0] 188)) 188 #[.int .i64 4,.int .i64 (m:Int),.int .i64 0,.int .i64 0];have hb2 : Below w.heap.size w ((w.alloc (.cells #[.int .i64 0,.int .i64 0,.int .i64 0,.int .i64 0] 188)).alloc (.cells #[.int .i64 4,.int .i64 (m:Int),.int .i64 0,.int .i64 0] 188)):=((Below.refl _ w).alloc (Nat.le_refl _) _).alloc (by simp) _;rw [show (w.alloc (.cells #[.int .i64 0,.int .i64 0,.int .i64 0,.int .i64 0] 188)).heap.size = w.heap.size + 1 from by simp] at hQ;go_enter Tryz.func165,Tryz.ntmps165;go_wp2_with fail;refine (HRUN.out _).mono ?_;rintro e w1 ⟨rfl,rfl⟩;rw [HN.out];go_wp2_with fail;refine (isKeyword_any t _).mono ?_;rintro e w3 ⟨rfl,hbb⟩;have hP3:=hP.belowS hbb;have hQ3:=hQ.belowS hbb;have hb3:=below_then hb2 hbb hb2.size;clear hP hQ hb2 hbb hsub;rw [HKW.out];obtain ⟨q1,q2,q3⟩:=hQ3.rules;obtain ⟨p1,p2,p3⟩:=hP3.rules;cases kw
 ·skip
  by_cases h24 : 24 < n
  ·have HR:=hid (show lexName (l.drop i) = .error (7,0) from by rw [HL.out,if_pos h24]);have c1 : (24:Int) < (m:Int) - (i:Int):=(by omega);go_wp2_with fail;refine (atR_any 7 (i:Int) _).mono ?_;rintro e w5 ⟨rfl,hbb⟩;have hP5:=Blk.belowS hP3 hbb;have hQ5:=Blk.belowS hQ3 hbb;have hb5:=below_then hb3 hbb (Below.size hb3);clear q1 q2 q3 p1 p2 p3 hbb;obtain ⟨q1,q2,q3⟩:=hQ5.rules;obtain ⟨p1,p2,p3⟩:=hP5.rules;unfold flt;go_wp2_with fail;have hP6:=(hP5.far (p:=⟨w.heap.size + 1,2,none⟩) (by simp) (.int .i64 7)).far (p:=⟨w.heap.size + 1,3,none⟩) (by simp) (.int .i64 (i:Int));have hb6:=(hb5.setCell (p:=⟨w.heap.size + 1,2,none⟩) (Nat.le_succ _) (.int .i64 7)).setCell (p:=⟨w.heap.size + 1,3,none⟩) (Nat.le_succ _) (.int .i64 (i:Int));exact ret_blk rfl rfl (hP6.set4 (.int .i64 4) (.int .i64 (m:Int)) (.int .i64 7) (.int .i64 (i:Int))) _ Tryz.underlying188 rfl (by kernel_rfl) rfl (PPost.err HR.out (below_set4 hb6 (Nat.le_refl _) _ _ _ _) rfl (by omega))
  ·have HR:=hid (HL.out.trans (if_neg h24));have c1 : ¬ (24:Int) < (m:Int) - (i:Int):=(by omega);go_wp2_with fail;exact ret_blk rfl rfl (Blk.set4 hP3 (.int .i64 4) (.int .i64 (m:Int)) (.int .i64 0) (.int .i64 0)) _ Tryz.underlying188 rfl (by kernel_rfl) rfl (PPost.ok HR.out (below_set4 hb3 (Nat.le_refl _) _ _ _ _) rfl (by omega))
 ·have hQ4 : Blk (w3.setCell ⟨w.heap.size + 1,0,none⟩ (.int .i64 5)) (w.heap.size + 1) 188 #[.int .i64 5,.int .i64 (m:Int),.int .i64 0,.int .i64 0]:=hQ3.set_ 0 (.int .i64 5);have hP4:=hP3.far (p:=⟨w.heap.size + 1,0,none⟩) (by simp) (.int .i64 5);have hb4:=hb3.setCell (p:=⟨w.heap.size + 1,0,none⟩) (Nat.le_succ _) (.int .i64 5)
  by_cases h24 : 24 < n
  ·have HR:=hid (show lexName (l.drop i) = .error (7,0) from by rw [HL.out,if_pos h24]);have c1 : (24:Int) < (m:Int) - (i:Int):=(by omega);go_wp2_with fail;refine (atR_any 7 (i:Int) _).mono ?_;rintro e w5 ⟨rfl,hbb⟩;have hP5:=Blk.belowS hP4 hbb;have hQ5:=Blk.belowS hQ4 hbb;have hb5:=below_then hb4 hbb (Below.size hb4);clear q1 q2 q3 p1 p2 p3 hbb;obtain ⟨q1,q2,q3⟩:=hQ5.rules;obtain ⟨p1,p2,p3⟩:=hP5.rules;unfold flt;go_wp2_with fail;have hP6:=(hP5.far (p:=⟨w.heap.size + 1,2,none⟩) (by simp) (.int .i64 7)).far (p:=⟨w.heap.size + 1,3,none⟩) (by simp) (.int .i64 (i:Int));have hb6:=(hb5.setCell (p:=⟨w.heap.size + 1,2,none⟩) (Nat.le_succ _) (.int .i64 7)).setCell (p:=⟨w.heap.size + 1,3,none⟩) (Nat.le_succ _) (.int .i64 (i:Int));exact ret_blk rfl rfl (hP6.set4 (.int .i64 5) (.int .i64 (m:Int)) (.int .i64 7) (.int .i64 (i:Int))) _ Tryz.underlying188 rfl (by kernel_rfl) rfl (PPost.err HR.out (below_set4 hb6 (Nat.le_refl _) _ _ _ _) rfl (by omega))
  ·have HR:=hid (HL.out.trans (if_neg h24));have c1 : ¬ (24:Int) < (m:Int) - (i:Int):=(by omega);go_wp2_with fail;exact ret_blk rfl rfl (Blk.set4 hP4 (.int .i64 5) (.int .i64 (m:Int)) (.int .i64 0) (.int .i64 0)) _ Tryz.underlying188 rfl (by kernel_rfl) rfl (PPost.ok HR.out (below_set4 hb4 (Nat.le_refl _) _ _ _ _) rfl (by omega))
end
end Go.Proofs.YtonehlkiackhcaaGreatDoor