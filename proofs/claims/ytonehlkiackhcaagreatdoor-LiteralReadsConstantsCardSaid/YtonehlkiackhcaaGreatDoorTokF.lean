/- Plain words on the tokens of a scan: how many they are, and how long. Nothing is claimed here. -/
import Derived.Test.YtonehlkiackhcaaGreatDoorTokB
set_option linter.unusedVariables false
set_option maxRecDepth 100000
set_option maxHeartbeats 16000000
namespace Go.Proofs.YtonehlkiackhcaaGreatDoor
open Go.Lib
def Txt (l : List UInt8) : Prop:=∃ cs : List (List UInt8),l = cs.flatten ∧ ∀ c ∈ cs,Chr c
theorem Txt.nil : Txt []:=⟨[],rfl,by simp⟩
theorem Txt.append {a b : List UInt8} (h : Txt a) (k : Txt b) : Txt (a ++ b):=by
 obtain ⟨cs,rfl,hc⟩:=h;obtain ⟨ds,rfl,hd⟩:=k;refine ⟨cs ++ ds,by simp,fun c hm => ?_⟩;rcases List.mem_append.1 hm with h | h
 ·exact hc c h
 ·exact hd c h
theorem Chr.txt {c : List UInt8} (h : Chr c) : Txt c:=⟨[c],by simp,by simpa using h⟩
theorem Chr.asc (x : UInt8) (h : x.toNat < 128) (h2 : 32 ≤ x.toNat ∨ x.toNat = 10) : Chr [x]:=by
 refine chr_mk [x] x.toNat (by simp) (fun t => ?_) (by omega) (by omega) (by rw [bAt_zero]; omega) (fun j h1 h2 => by simp at h2; omega) (fun _ => by simp);rw [decodeL_eq,List.singleton_append,bAt_zero];unfold decodeN;rw [if_pos h];rfl
theorem Txt.spaces (n : Nat) : Txt (List.replicate n 32):=by
 induction n with
 | zero => exact Txt.nil
 | succ n ih => rw [List.replicate_succ]; exact Txt.append (a:=[32]) (Chr.asc 32 (by decide) (by decide)).txt ih
theorem Txt.line : Txt [10]:=(Chr.asc 10 (by decide) (by decide)).txt
theorem ascii_cut {l a b : List UInt8} {x : UInt8} (h : Txt l) (e : l = a ++ x :: b) (hx : x.toNat < 128) : Txt a ∧ Chr [x] ∧ Txt b:=by
 obtain ⟨cs,hl,hcs⟩:=h;have hlen : cs.flatten.length = a.length + 1 + b.length:=by rw [← hl,e]; simp; omega
 have hb : bAt cs.flatten a.length = x.toNat:=by rw [← hl,e]; simp [bAt,List.getD]
 obtain ⟨k,hk,hk2⟩:=start_chars cs a.length hcs (by omega) (fun _ => by rw [hb]; omega);have ha : a = (cs.take k).flatten:=by
  rw [← take_flatten,← hk2,← hl,e];simp
 have hrest : (cs.drop k).flatten = x :: b:=by
  have h1 : (cs.take k).flatten ++ (cs.drop k).flatten = a ++ x :: b:=(by rw [← List.flatten_append,List.take_append_drop,← hl,e]);rw [← ha] at h1;exact List.append_cancel_left h1
 refine ⟨⟨cs.take k,ha,fun c hc => hcs c (List.mem_of_mem_take hc)⟩,?_⟩;cases hd : cs.drop k with
 | nil => rw [hd] at hrest; simp at hrest
 | cons c ds =>
  have hmem : ∀ d ∈ c :: ds,Chr d:=fun d hdm => hcs d (List.mem_of_mem_drop (by rw [hd]; exact hdm));have hc:=hmem c (List.mem_cons_self ..);rw [hd,List.flatten_cons] at hrest;cases c with
  | nil => have:=hc.pos; simp at this
  | cons y c =>
   rw [List.cons_append] at hrest;injection hrest with h1 h2;subst h1;rcases hc.shape with ⟨z,hz⟩ | hbig
   ·injection hz with h3 h4;subst h4;refine ⟨hc,⟨ds,?_,fun d hdm => hmem d (List.mem_cons_of_mem _ hdm)⟩⟩;rw [← h2,List.nil_append]
   ·have:=hbig 0 (by simp);rw [bAt_zero] at this;omega
theorem Txt.part {l : List UInt8} (h : Txt l) (i n : Nat) (he : Ends (l.drop i) n) : Txt ((l.drop i).take n):=by
 obtain ⟨h1,h2,h3,h4⟩:=he;have hn : n - 1 < (l.drop i).length:=by omega
 rw [List.length_drop] at h2;have hi : i < l.length:=by omega
 have e1 : l = l.take i ++ l[i] :: l.drop (i + 1):=by rw [← List.drop_eq_getElem_cons hi,List.take_append_drop]
 have h3' : l[i].toNat < 128:=by
  rw [at0_drop,Nat.add_zero,at0_lt l i hi] at h3;exact h3
 obtain ⟨_,c1,c2⟩:=ascii_cut h e1 h3';have hd : Txt (l.drop i):=by
  rw [List.drop_eq_getElem_cons hi];exact Txt.append (a:=[l[i]]) c1.txt c2
 generalize l.drop i = r at *
 have e2 : r = r.take (n - 1) ++ r[n - 1] :: r.drop n:=by
  have h5 : r.drop n = r.drop (n - 1 + 1):=(by congr 1; omega);rw [h5,← List.drop_eq_getElem_cons hn,List.take_append_drop]
 obtain ⟨d1,d2,_⟩:=ascii_cut hd e2 (by rw [at0_lt r _ hn] at h4; exact h4);have e3 : r.take n = r.take (n - 1) ++ [r[n - 1]]:=by
  rw [← List.take_succ_eq_append_getElem hn]
  congr 1
  omega
 rw [e3];exact d1.append d2.txt
def kt (t : Tok) : Int × List UInt8:=(t.kind,t.text)
structure TokOk (k : Int) (t : List UInt8) : Prop where
 again : Again k t
 txt : Txt t
 lo : 4 ≤ k
 hi : k ≤ 8
 pos : 0 < t.length
 h32 : at0 t 0 ≠ 32
 h35 : at0 t 0 ≠ 35
 h10 : at0 t 0 ≠ 10
def brK (k : Int) (t op : List UInt8) : Option (List UInt8):=if k = 8 then bracket op t else some op
inductive Good : Nat → List UInt8 → Bool → List (Int × List UInt8) → Prop where
 | last (d : Nat) : Good d [] true (List.replicate d (3,[]) ++ [(0,[])])
 | line (d : Nat) (ts : List (Int × List UInt8)) (h : Good d [] true ts) : Good d [] false ((1,[]) :: ts)
 | deeper (d : Nat) (k : Int) (t op : List UInt8) (ts : List (Int × List UInt8)) (ht : TokOk k t) (hb : brK k t [] = some op) (h : Good (d + 1) op false ts) : Good d [] true ((2,[]) :: (k,t) :: ts)
 | back (d m : Nat) (k : Int) (t op : List UInt8) (ts : List (Int × List UInt8)) (hm : m ≤ d) (ht : TokOk k t) (hb : brK k t [] = some op) (h : Good (d - m) op false ts) : Good d [] true (List.replicate m (3,[]) ++ (k,t) :: ts)
 | tok (d : Nat) (k : Int) (t op op' : List UInt8) (ts : List (Int × List UInt8)) (ht : TokOk k t) (hb : brK k t op = some op') (h : Good d op' false ts) : Good d op false ((k,t) :: ts)
def jt : Int → Bool → List (Int × List UInt8) → List UInt8
 | _,_,[] => []
 | lv,fr,(k,t) :: ts =>
  if k = 2 then jt (lv + 1) fr ts
  else if k = 3 then jt (lv - 1) fr ts
  else if k = 1 then 10 :: jt lv true ts
  else if k = 0 then jt lv fr ts
  else (if fr then List.replicate (2 * lv.toNat) 32 else [32]) ++ (t ++ jt lv false ts)
theorem jt_ded (fr : Bool) (ts : List (Int × List UInt8)) : ∀ (m : Nat) (lv : Int),jt lv fr (List.replicate m (3,[]) ++ ts) = jt (lv - m) fr ts
 | 0,lv => by simp
 | m + 1,lv => by
  rw [List.replicate_succ,List.cons_append]
  conv => lhs; unfold jt
  rw [if_neg (by omega),if_pos rfl,jt_ded fr ts m (lv - 1)]
  congr 1
  omega
theorem jt_tok (lv : Int) (fr : Bool) (k : Int) (t : List UInt8) (ts : List (Int × List UInt8)) (h : 4 ≤ k) : jt lv fr ((k,t) :: ts) = (if fr then List.replicate (2 * lv.toNat) 32 else [32]) ++ (t ++ jt lv false ts):=by
 conv => lhs; unfold jt
 rw [if_neg (by omega),if_neg (by omega),if_neg (by omega),if_neg (by omega)]
theorem jt_line (lv : Int) (fr : Bool) (t : List UInt8) (ts : List (Int × List UInt8)) : jt lv fr ((1,t) :: ts) = 10 :: jt lv true ts:=by
 conv => lhs; unfold jt
 rw [if_neg (by omega),if_neg (by omega),if_pos rfl]
theorem jt_in (lv : Int) (fr : Bool) (t : List UInt8) (ts : List (Int × List UInt8)) : jt lv fr ((2,t) :: ts) = jt (lv + 1) fr ts:=by
 conv => lhs; unfold jt
 rw [if_pos rfl]
theorem jt_end (lv : Int) (fr : Bool) : jt lv fr [(0,[])] = []:=by simp [jt]
theorem Good.sep {d : Nat} {op : List UInt8} {fr : Bool} {ts : List (Int × List UInt8)} (h : Good d op fr ts) (hf : fr = false) (lv : Int) : ∃ c r,jt lv false ts = c :: r ∧ isSep c:=by
 cases h with
 | last => simp at hf
 | line _ ts _ => exact ⟨10,_,jt_line lv false [] ts,.inr rfl⟩
 | deeper => simp at hf
 | back => simp at hf
 | tok _ k t _ _ ts ht _ _ =>
  rw [jt_tok lv false k t ts ht.lo];exact ⟨32,t ++ jt lv false ts,rfl,.inl rfl⟩
theorem Good.txt {d : Nat} {op : List UInt8} {fr : Bool} {ts : List (Int × List UInt8)} (h : Good d op fr ts) : ∀ lv : Int,Txt (jt lv fr ts):=by
 induction h with
 | last d => intro lv; rw [jt_ded,jt_end]; exact Txt.nil
 | line d ts _ ih => intro lv; rw [jt_line]; exact Txt.append (a:=[10]) Txt.line (ih lv)
 | deeper d k t op ts ht _ _ ih => intro lv; rw [jt_in,jt_tok _ _ _ _ _ ht.lo]; exact (Txt.spaces _).append (ht.txt.append (ih _))
 | back d m k t op ts _ ht _ _ ih => intro lv; rw [jt_ded,jt_tok _ _ _ _ _ ht.lo]; exact (Txt.spaces _).append (ht.txt.append (ih _))
 | tok d k t op op' ts ht _ _ ih => intro lv; rw [jt_tok _ _ _ _ _ ht.lo]; exact (Txt.spaces 1).append (ht.txt.append (ih _))
def inds : Nat → List Nat
 | 0 => [0]
 | d + 1 => 2 * (d + 1) :: inds d
theorem step_at {u : List UInt8} {s : Scn} {i : Nat} (h : s.at_ + skipLen (u.drop s.at_) = i) : stepS u s = stepB u s i:=by
 unfold stepS;rw [h]
theorem scanF_more {l : List UInt8} {f : Nat} {s s' : Scn} (h : stepS l s = .more s') : scanF l (f + 1) s = scanF l f s':=by
 conv => lhs; unfold scanF
 rw [h]
theorem scanF_done {l : List UInt8} {f : Nat} {s : Scn} {t : List Tok} (h : stepS l s = .done t) : scanF l (f + 1) s = .ok t:=by
 unfold scanF;rw [h]
end Go.Proofs.YtonehlkiackhcaaGreatDoor

namespace Go.Proofs.YtonehlkiackhcaaGreatDoor
open Go.Lib
theorem dedent_facts (n : Nat) : ∀ ind : List Nat,(dedent n ind).1.length + (dedent n ind).2 = ind.length ∧ (dedent n ind).1.headD 0 ≤ n ∧ (ind.Pairwise (· > ·) → (dedent n ind).1.Pairwise (· > ·)) ∧ (n ∈ ind → (dedent n ind).1 ≠ [])
 | [] => by simp [dedent]
 | x :: l => by
  obtain ⟨h1,h2,h3,h4⟩:=dedent_facts n l;unfold dedent
  by_cases hx : n < x
  ·rw [if_pos hx];refine ⟨by simp; omega,h2,fun h => h3 h.of_cons,fun h => h4 ?_⟩;rcases List.mem_cons.1 h with h | h
   ·omega
   ·exact h
  ·rw [if_neg hx];exact ⟨by simp,by simp; omega,fun h => h,fun _ => by simp⟩
theorem width_succ (l : List UInt8) (i : Nat) : width l (i + 1) ≤ width l i + 1:=by
 unfold width;rcases Nat.lt_or_ge i l.length with h | h
 ·rw [List.take_succ_eq_append_getElem h]
  by_cases hc : l[i] = 10
  ·rw [hc,tailNl_at _ [] (by simp)];simp
  ·rw [tailNl_more _ _ (by simpa using fun e => hc e.symm),List.length_append];simp
 ·rw [List.take_of_length_le (by omega),List.take_of_length_le (by omega)];omega
theorem width_nl (l : List UInt8) (i : Nat) (h : i < l.length) (hc : at0 l i = 10) : width l (i + 1) = 0:=by
 unfold width;rw [at0_lt l i h] at hc;rw [List.take_succ_eq_append_getElem h,hc,tailNl_at _ [] (by simp)];rfl
theorem skip_spec (r : List UInt8) : skipLen r ≤ r.length ∧ (skipLen r < r.length → at0 r (skipLen r) ≠ 10 → at0 r (skipLen r) ≠ 32 ∧ at0 r (skipLen r) ≠ 35):=by
 have h1:=span_le isBlk r;have h2:=(span_spec isBlk r).2;unfold skipLen;split
 ·have h3:=span_le inLn (r.drop (span isBlk r));have h4:=(span_spec inLn (r.drop (span isBlk r))).2;rw [List.length_drop] at h3 h4;refine ⟨by omega,fun h5 h6 => ?_⟩;have h7:=h4 (by omega);rw [at0_drop] at h7;exact absurd (by simpa [inLn] using h7) h6
 ·rename_i h3;refine ⟨h1,fun h5 _ => ⟨?_,h3⟩⟩;have:=h2 h5;simpa [isBlk] using this
structure Inv (l : List UInt8) (s : Scn) : Prop where
 ne : s.ind ≠ []
 desc : s.ind.Pairwise (· > ·)
 fr : s.fresh = true → s.op = [] ∧ width l s.at_ = 0
 le : s.at_ ≤ l.length
theorem takeTok_done {l : List UInt8} {i : Nat} {s : Scn} {t : List Tok} : takeTok l i s ≠ .done t:=by
 unfold takeTok;split
 ·simp
 ·split
  ·split <;> simp
  ·simp
structure Jn where
 level : Int
 fresh : Bool
 out : List UInt8
def jstep (s : Jn) (k : Int) (t : List UInt8) : Jn :=
 if k = 2 then { s with level:=s.level + 1 }
 else if k = 3 then { s with level:=s.level - 1 }
 else if k = 1 then { s with fresh:=true,out:=s.out ++ [10] }
 else if k = 0 then s
 else { s with fresh:=false,out:=s.out ++ ((if s.fresh then List.replicate (2 * s.level.toNat) 32 else [32]) ++ t) }
def joinF : Jn → List (Int × List UInt8) → Option (List UInt8)
 | s,[] => some s.out
 | s,(k,t) :: ts => if 16000 < (jstep s k t).out.length then none else joinF (jstep s k t) ts
def joined (ts : List (Int × List UInt8)) : Option (List UInt8):=joinF ⟨0,true,[]⟩ ts
end Go.Proofs.YtonehlkiackhcaaGreatDoor

namespace Go.Proofs.YtonehlkiackhcaaGreatDoor
open Go.Lib
theorem drop_at (l : List UInt8) (j : Nat) (h : j < l.length) : l.drop j = at0 l j :: l.drop (j + 1):=by
 rw [at0_lt l j h,List.drop_eq_getElem_cons h]
theorem span_at (p : UInt8 → Bool) (l : List UInt8) (j : Nat) (h : j < l.length) : span p (l.drop j) = if p (at0 l j) then span p (l.drop (j + 1)) + 1 else 0:=by
 rw [drop_at l j h,span_cons]
theorem span_end (p : UInt8 → Bool) (l : List UInt8) (j : Nat) (h : l.length ≤ j) : span p (l.drop j) = 0:=by
 rw [List.drop_of_length_le h];rfl
theorem span_drop_le (p : UInt8 → Bool) (l : List UInt8) (j : Nat) (h : j ≤ l.length) : j + span p (l.drop j) ≤ l.length:=by
 have:=span_le p (l.drop j);rw [List.length_drop] at this;omega
theorem prefix_nil (q : List UInt8) (h : 0 < q.length) : q.isPrefixOf [] = false:=by
 cases q with
 | nil => simp at h
 | cons => rfl
theorem se_end (q : List UInt8) (raw : Bool) (l : List UInt8) (j k : Nat) (h : l.length ≤ j) : strEnd q raw (l.drop j) false k = .error (15,k):=by
 rw [List.drop_of_length_le h];rfl
theorem se_pre (q : List UInt8) (raw : Bool) (hq : 0 < q.length) (l : List UInt8) (j k : Nat) (h : q.isPrefixOf (l.drop j) = true) : strEnd q raw (l.drop j) false k = .ok (k + q.length):=by
 rcases Nat.lt_or_ge j l.length with hj | hj
 ·rw [drop_at l j hj] at h ⊢;unfold strEnd;rw [if_neg (by simp),if_pos h]
 ·rw [List.drop_of_length_le hj,prefix_nil q hq] at h;simp at h
theorem se_nl (q : List UInt8) (raw : Bool) (l : List UInt8) (j k : Nat) (hj : j < l.length) (hp : q.isPrefixOf (l.drop j) = false) (hc : at0 l j = 10) (h1 : q.length = 1) : strEnd q raw (l.drop j) false k = .error (1,k):=by
 rw [drop_at l j hj] at hp ⊢;unfold strEnd;rw [if_neg (by simp),if_neg (by simp [hp]),if_pos ⟨hc,h1⟩]
theorem se_esc (q : List UInt8) (l : List UInt8) (j k : Nat) (hp : q.isPrefixOf (l.drop j) = false) (hc : at0 l j = 92) (hj : j + 1 < l.length) (hd : at0 l (j + 1) ≠ 10) : strEnd q false (l.drop j) false k = strEnd q false (l.drop (j + 2)) false (k + 2):=by
 rw [drop_at l j (by omega)] at hp ⊢
 conv => lhs; unfold strEnd
 have h0 : at0 (l.drop (j + 1)) 0 = at0 l (j + 1):=by rw [at0_drop,Nat.add_zero]
 have hne : l.drop (j + 1) ≠ []:=by intro e; have:=congrArg List.length e; rw [List.length_drop,List.length_nil] at this; omega
 rw [if_neg (by simp),if_neg (by simp [hp]),if_neg (by rw [hc]; simp),h0,hc];have hb : ((92 : UInt8) == 92 && !false && decide (l.drop (j + 1) ≠ []) && at0 l (j + 1) != 10) = true:=by simp [hne,hd]
 rw [hb,drop_at l (j + 1) hj]
 conv => lhs; unfold strEnd
 rw [if_pos rfl]
theorem se_other (q : List UInt8) (raw : Bool) (l : List UInt8) (j k : Nat) (hj : j < l.length) (hp : q.isPrefixOf (l.drop j) = false) (h1 : ¬ (at0 l j = 10 ∧ q.length = 1)) (h2 : ¬ (at0 l j = 92 ∧ raw = false ∧ j + 1 < l.length ∧ at0 l (j + 1) ≠ 10)) :
  strEnd q raw (l.drop j) false k = strEnd q raw (l.drop (j + 1)) false (k + 1):=by
 rw [drop_at l j hj] at hp ⊢
 conv => lhs; unfold strEnd
 have h0 : at0 (l.drop (j + 1)) 0 = at0 l (j + 1):=by rw [at0_drop,Nat.add_zero]
 rw [if_neg (by simp),if_neg (by simp [hp]),if_neg h1,h0];have hb : (at0 l j == 92 && !raw && decide (l.drop (j + 1) ≠ []) && at0 l (j + 1) != 10) = false:=by
  cases hx : (at0 l j == 92 && !raw && decide (l.drop (j + 1) ≠ []) && at0 l (j + 1) != 10)
  ·rfl
  ·exfalso;simp only [Bool.and_eq_true,beq_iff_eq,Bool.not_eq_true',decide_eq_true_eq,bne_iff_ne] at hx;refine h2 ⟨hx.1.1.1,hx.1.1.2,?_,hx.2⟩;rcases Nat.lt_or_ge (j + 1) l.length with h | h
   ·exact h
   ·exact absurd (List.drop_of_length_le h) hx.1.2
 rw [hb]
def bol (l : List UInt8) (i : Nat) : Nat:=i - width l i
theorem width_zero (l : List UInt8) : width l 0 = 0:=by
 unfold width;rw [List.take_zero,tailNl_none [] (by simp)];rfl
theorem width_le (l : List UInt8) : ∀ i,width l i ≤ i
 | 0 => by rw [width_zero]; exact Nat.le_refl _
 | i + 1 => by have:=width_succ l i; have:=width_le l i; omega
theorem bol_add (l : List UInt8) (i : Nat) : bol l i + width l i = i:=by have:=width_le l i; unfold bol; omega
theorem bol_le (l : List UInt8) (i : Nat) : bol l i ≤ i:=by unfold bol; omega
theorem bol_zero (l : List UInt8) : bol l 0 = 0:=by unfold bol; omega
theorem width_same (l : List UInt8) (i : Nat) (h : i < l.length) (hc : at0 l i ≠ 10) : width l (i + 1) = width l i + 1:=by
 unfold width;rw [at0_lt l i h] at hc;rw [List.take_succ_eq_append_getElem h,tailNl_more _ _ (by simpa using fun e => hc e.symm),List.length_append];simp
theorem bol_same (l : List UInt8) (i : Nat) (h : i < l.length) (hc : at0 l i ≠ 10) : bol l (i + 1) = bol l i:=by
 have:=width_same l i h hc;unfold bol;omega
theorem bol_nl (l : List UInt8) (i : Nat) (h : i < l.length) (hc : at0 l i = 10) : bol l (i + 1) = i + 1:=by
 have:=width_nl l i h hc;unfold bol;omega
theorem line_same (l : List UInt8) (i : Nat) (h : i < l.length) (hc : at0 l i ≠ 10) : lineAt l (i + 1) = lineAt l i:=by
 rw [at0_lt l i h] at hc;unfold lineAt;rw [List.take_succ_eq_append_getElem h,List.count_append];simp [hc]
theorem line_nl (l : List UInt8) (i : Nat) (h : i < l.length) (hc : at0 l i = 10) : lineAt l (i + 1) = lineAt l i + 1:=by
 rw [at0_lt l i h] at hc;unfold lineAt;rw [List.take_succ_eq_append_getElem h,List.count_append,hc];simp
theorem line_bound (l : List UInt8) (i : Nat) : 1 ≤ lineAt l i ∧ lineAt l i ≤ l.length + 1:=by
 unfold lineAt;have h1:=List.count_le_length (a:=(10 : UInt8)) (l:=l.take i);rw [List.length_take] at h1;omega
theorem same_line (l : List UInt8) (i : Nat) : ∀ n,i + n ≤ l.length → (∀ j,j < n → at0 l (i + j) ≠ 10) → lineAt l (i + n) = lineAt l i ∧ bol l (i + n) = bol l i
 | 0,_,_ => ⟨rfl,rfl⟩
 | n + 1,h,hn => by
  obtain ⟨h1,h2⟩:=same_line l i n (by omega) (fun j hj => hn j (by omega));have h3:=line_same l (i + n) (by omega) (hn n (by omega));have h4:=bol_same l (i + n) (by omega) (hn n (by omega));exact ⟨h3.trans h1,h4.trans h2⟩
theorem span_line (p : UInt8 → Bool) (hp : p 10 = false) (l : List UInt8) (i n : Nat) (hi : i ≤ l.length) (h : n ≤ span p (l.drop i)) : lineAt l (i + n) = lineAt l i ∧ bol l (i + n) = bol l i:=by
 have hle:=span_drop_le p l i hi;refine same_line l i n (by omega) (fun j hj e => ?_);have:=(span_spec p (l.drop i)).1 j (by omega);rw [at0_drop,e,hp] at this;simp at this
theorem line_text (l : List UInt8) (i : Nat) (h : i ≤ l.length) : (l.drop (bol l i)).take (i - bol l i) = tailNl (l.take i):=by
 have hb:=bol_add l i;have h1 : (l.drop (bol l i)).take (i - bol l i) = (l.take i).drop (bol l i):=by rw [List.drop_take]
 rw [h1];have h2 : (tailNl (l.take i)).length = width l i:=rfl;have h3 : ∃ k,tailNl (l.take i) = (l.take i).drop k:=⟨_,rfl⟩;obtain ⟨k,hk⟩:=h3;have hl : (l.take i).length = i:=by rw [List.length_take]; omega
 rw [hk,List.length_drop,hl] at h2;rcases Nat.lt_or_ge k i with hki | hki
 ·rw [hk,show bol l i = k by omega]
 ·rw [hk,List.drop_of_length_le (by omega),List.drop_of_length_le (by omega)]
theorem col_bound (l : List UInt8) (i : Nat) : 1 ≤ colAt l i ∧ colAt l i ≤ l.length + 1:=by
 unfold colAt;have h1:=rcl_le (tailNl (l.take i));have h2 : (tailNl (l.take i)).length ≤ (l.take i).length:=by unfold tailNl; rw [List.length_drop]; omega
 rw [List.length_take] at h2;omega
end Go.Proofs.YtonehlkiackhcaaGreatDoor

namespace Go.Proofs.YtonehlkiackhcaaGreatDoor
open Go.Lib
structure SInv (l : List UInt8) (s : Scn) : Prop where
 ne : s.ind ≠ []
 bd : ∀ y ∈ s.ind,y ≤ 16000
 le : s.at_ ≤ l.length
 cnt : s.ind.length + s.toks.length ≤ 3 * s.at_ + 1
 opn : s.op.length ≤ s.at_
theorem dedent_mem (n : Nat) : ∀ ind : List Nat,∀ y ∈ (dedent n ind).1,y ∈ ind
 | [],y,h => by simp [dedent] at h
 | x :: l,y,h => by
  unfold dedent at h;split at h
  ·exact List.mem_cons_of_mem _ (dedent_mem n l y h)
  ·exact h
theorem indent_inv {n : Nat} {ind ind' : List Nat} {ks : List Int} (h : indent n ind = some (ind',ks)) (hne : ind ≠ []) (hb : ∀ y ∈ ind,y ≤ 16000) (hn : n ≤ 16000) :
  ind' ≠ [] ∧ (∀ y ∈ ind',y ≤ 16000) ∧ ind'.length + ks.length ≤ ind.length + 2:=by
 unfold indent at h;split at h
 ·injection h with h;injection h with h1 h2;subst h1 h2;refine ⟨by simp,fun y hy => ?_,by simp⟩;rcases List.mem_cons.1 hy with h | h
  ·omega
  ·exact hb y h
 ·split at h
  ·rename_i hc;injection h with h;injection h with h1 h2;subst h1 h2;obtain ⟨f1,f2,f3,f4⟩:=dedent_facts n ind;have hm : n ∈ ind:=(by simpa using hc);exact ⟨f4 hm,fun y hy => hb y (dedent_mem n ind y hy),by rw [List.length_replicate]; omega⟩
  ·simp at h
theorem bracket_len {op op' t : List UInt8} (h : bracket op t = some op') : op'.length ≤ op.length + 1:=by
 unfold bracket at h;split at h
 ·injection h with h;subst h;simp
 ·split at h
  ·split at h
   ·injection h with h;subst h;simp;omega
   ·simp at h
  ·split at h
   ·split at h
    ·injection h with h;subst h;simp;omega
    ·simp at h
   ·split at h
    ·split at h
     ·injection h with h;subst h;simp;omega
     ·simp at h
    ·injection h with h;subst h;omega
theorem lex_len {r : List UInt8} {k : Int} {n : Nat} (h : lexTok r = .ok (k,n)) : 0 < n ∧ n ≤ r.length:=⟨(lex_again r k n h).2.1.1,(lex_again r k n h).2.1.2.1⟩
theorem takeTok_inv {l : List UInt8} {i : Nat} {s s' : Scn} (hi : i ≤ l.length) (h : takeTok l i s = .more s') :
  i < s'.at_ ∧ s'.at_ ≤ l.length ∧ s'.ind = s.ind ∧ s'.toks.length = s.toks.length + 1 ∧ s'.op.length ≤ s.op.length + 1:=by
 unfold takeTok at h;split at h
 ·simp at h
 ·rename_i k n hl;have hn:=lex_len hl;rw [List.length_drop] at hn;split at h
  ·split at h
   ·simp at h
   ·rename_i op hop;injection h with h;subst h;exact ⟨by show i < i + n; omega,by show i + n ≤ _; omega,rfl,by simp,bracket_len hop⟩
  ·injection h with h;subst h;exact ⟨by show i < i + n; omega,by show i + n ≤ _; omega,rfl,by simp,by show s.op.length ≤ _; omega⟩
theorem skip_le (l : List UInt8) (i : Nat) (h : i ≤ l.length) : i + skipLen (l.drop i) ≤ l.length:=by
 have:=(skip_spec (l.drop i)).1;rw [List.length_drop] at this;omega
theorem step_inv {l : List UInt8} (hl : l.length ≤ 16000) {s s' : Scn} (hs : SInv l s) (h : stepS l s = .more s') : SInv l s' ∧ s.at_ < s'.at_:=by
 unfold stepS at h;have hle:=skip_le l s.at_ hs.le;obtain ⟨i,hi⟩ : ∃ i,s.at_ + skipLen (l.drop s.at_) = i:=⟨_,rfl⟩;rw [hi] at h hle;have h1:=hs.le;have h2:=hs.cnt;have h3:=hs.opn;have hai : s.at_ ≤ i:=by omega
 unfold stepB at h;split at h
 ·split at h <;> simp at h
 ·split at h
  ·split at h
   ·injection h with h;subst h;exact ⟨⟨hs.ne,hs.bd,by show i + 1 ≤ _; omega,by simp; omega,by show s.op.length ≤ i + 1; omega⟩,by show s.at_ < i + 1; omega⟩
   ·injection h with h;subst h;exact ⟨⟨hs.ne,hs.bd,by show i + 1 ≤ _; omega,by show s.ind.length + s.toks.length ≤ 3 * (i + 1) + 1; omega,by show s.op.length ≤ i + 1; omega⟩,by show s.at_ < i + 1; omega⟩
  ·split at h
   ·split at h
    ·simp at h
    ·rename_i ind ks hin;obtain ⟨t1,t2,t3,t4,t5⟩:=takeTok_inv hle h;obtain ⟨g1,g2,g3⟩:=indent_inv hin hs.ne hs.bd (by have:=width_le l i; omega);simp only [List.length_append,List.length_map] at t4;have t5' : s'.op.length ≤ s.op.length + 1:=t5;exact ⟨⟨by rw [t3]; exact g1,by rw [t3]; exact g2,t2,by rw [t3,t4]; show ind.length + _ ≤ _; omega,by omega⟩,by omega⟩
   ·obtain ⟨t1,t2,t3,t4,t5⟩:=takeTok_inv hle h;exact ⟨⟨by rw [t3]; exact hs.ne,by rw [t3]; exact hs.bd,t2,by rw [t3,t4]; omega,by omega⟩,by omega⟩
theorem scan_next {l : List UInt8} {f : Nat} {s s' : Scn} {R : Except (Int × Int) (List Tok)} (hs : s.at_ ≤ l.length) (hf : l.length < f + s.at_) (hR : scanF l f s = R) (h : stepS l s = .more s') (hlt : s.at_ < s'.at_) :
  ∃ f',l.length < f' + s'.at_ ∧ scanF l f' s' = R:=by
 cases f with
 | zero => omega
 | succ f =>
  refine ⟨f,by omega,?_⟩;rw [← hR];exact (scanF_more h).symm
theorem scan_done {l : List UInt8} {f : Nat} {s : Scn} {t : List Tok} {R : Except (Int × Int) (List Tok)} (hs : s.at_ ≤ l.length) (hf : l.length < f + s.at_) (hR : scanF l f s = R) (h : stepS l s = .done t) : R = .ok t:=by
 cases f with
 | zero => omega
 | succ f => rw [← hR]; exact scanF_done h
theorem scan_fault {l : List UInt8} {f : Nat} {s : Scn} {c : Int} {i : Nat} {R : Except (Int × Int) (List Tok)} (hs : s.at_ ≤ l.length) (hf : l.length < f + s.at_) (hR : scanF l f s = R) (h : stepS l s = .fault c i) : R = .error (c,(i : Int)):=by
 cases f with
 | zero => omega
 | succ f =>
  rw [← hR];simp only [scanF,h]
theorem take_err {l : List UInt8} {i : Nat} {s : Scn} {c : Int} {k : Nat} (h : lexTok (l.drop i) = .error (c,k)) : takeTok l i s = .fault c (i + k):=by
 unfold takeTok;rw [h]
theorem take_ok {l : List UInt8} {i : Nat} {s : Scn} {k : Int} {n : Nat} (h : lexTok (l.drop i) = .ok (k,n)) (hk : k ≠ 8) : takeTok l i s = .more { s with at_:=i + n,toks:=s.toks ++ [tokAt l k ((l.drop i).take n) i] }:=by
 unfold takeTok;rw [h];simp only [if_neg hk]
theorem take_bad {l : List UInt8} {i : Nat} {s : Scn} {n : Nat} (h : lexTok (l.drop i) = .ok (8,n)) (hb : bracket s.op ((l.drop i).take n) = none) : takeTok l i s = .fault 1 i:=by
 unfold takeTok;rw [h];simp only [if_pos,hb]
theorem take_sign {l : List UInt8} {i : Nat} {s : Scn} {n : Nat} {op : List UInt8} (h : lexTok (l.drop i) = .ok (8,n)) (hb : bracket s.op ((l.drop i).take n) = some op) : takeTok l i s = .more { s with at_:=i + n,op:=op,toks:=s.toks ++ [tokAt l 8 ((l.drop i).take n) i] }:=by
 unfold takeTok;rw [h];simp only [if_pos,hb]
theorem lexName_kind {r : List UInt8} {k : Int} {n : Nat} (h : lexName r = .ok (k,n)) : k ≠ 8:=by
 unfold lexName at h;split at h
 ·simp at h
 ·injection h with h;injection h with h1 _;rw [← h1];split <;> decide
theorem numTail_kind {r : List UInt8} {k : Int} {n m : Nat} (h : numTail r m = .ok (k,n)) : k ≠ 8:=by
 unfold numTail at h;split at h
 ·simp at h
 ·split at h
  ·simp at h
  ·injection h with h;injection h with h1 _;rw [← h1];decide
theorem lexNum_kind {r : List UInt8} {k : Int} {n : Nat} (h : lexNum r = .ok (k,n)) : k ≠ 8:=by
 unfold lexNum at h;split at h
 ·split at h
  ·simp at h
  ·exact numTail_kind h
 ·exact numTail_kind h
theorem lexStr_kind {r : List UInt8} {p : Nat} {k : Int} {n : Nat} (h : lexStr p r = .ok (k,n)) : k ≠ 8:=by
 unfold lexStr at h;split at h
 ·simp at h
 ·injection h with h;injection h with h1 _;rw [← h1];decide
end Go.Proofs.YtonehlkiackhcaaGreatDoor

namespace Go.Proofs.YtonehlkiackhcaaGreatDoor
open Go.Lib
def Short (l : List UInt8) (ts : List Tok) : Prop:=∀ t ∈ ts,t.text.length ≤ l.length
theorem Short.app {l : List UInt8} {a b : List Tok} (ha : Short l a) (hb : Short l b) : Short l (a ++ b):=fun t ht => (List.mem_append.1 ht).elim (ha t) (hb t)
theorem Short.one {l : List UInt8} {k : Int} {t : List UInt8} {i : Nat} (h : t.length ≤ l.length) : Short l [tokAt l k t i]:=fun x hx => by
 rw [List.mem_singleton.1 hx];exact h
theorem Short.map {l : List UInt8} {i : Nat} (ks : List Int) : Short l (ks.map fun k => tokAt l k [] i):=fun x hx => by
 obtain ⟨k,_,rfl⟩:=List.mem_map.1 hx;exact Nat.zero_le _
theorem takeTok_nd {l : List UInt8} {i : Nat} {s : Scn} {t : List Tok} : takeTok l i s ≠ .done t:=takeTok_done
end Go.Proofs.YtonehlkiackhcaaGreatDoor
