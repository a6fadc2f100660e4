/- Plain words on tokens: what a scan gives can be joined, and how long the joined text is. Nothing is claimed here. -/
import Derived.Test.YtonehlkiackhcaaGreatDoorTokA
set_option linter.unusedVariables false
set_option linter.unusedSimpArgs false
set_option maxRecDepth 100000
set_option maxHeartbeats 16000000
namespace Go.Proofs.YtonehlkiackhcaaGreatDoor
section
open Go.Lib
theorem span_cons (p : UInt8 → Bool) (c : UInt8) (r : List UInt8) : span p (c :: r) = if p c then span p r + 1 else 0:=by
 unfold span;rw [List.takeWhile_cons];split <;> simp
theorem span_nil (p : UInt8 → Bool) : span p [] = 0:=rfl
theorem span_spec (p : UInt8 → Bool) : ∀ r : List UInt8,(∀ j,j < span p r → p (at0 r j) = true)∧(span p r < r.length → p (at0 r (span p r)) = false)
 | [] => ⟨by simp [span_nil],by simp [span_nil]⟩
 | c :: r => by
  obtain ⟨h1,h2⟩:=span_spec p r;rw [span_cons]
  by_cases hc : p c = true
  ·simp only [hc,if_true];refine ⟨fun j hj => ?_,fun h => ?_⟩
   ·cases j with
    | zero => exact hc
    | succ j => rw [at0_cons]; exact h1 j (by omega)
   ·rw [at0_cons];exact h2 (by simpa using h)
  ·have hc' : p c = false:=(by simpa using hc);simp only [hc',Bool.false_eq_true,if_false];exact ⟨fun j hj => by omega,fun _ => hc'⟩
theorem span_stop (p : UInt8 → Bool) (t : List UInt8) (c : UInt8) (rest : List UInt8) (hc : p c = false) (h : ∀ j,j < t.length → p (at0 t j) = true) : span p (t ++ c :: rest) = t.length:=by
 induction t with
 | nil => simp [span_cons,hc]
 | cons x t ih =>
  have h0 : p x = true:=h 0 (by simp);rw [List.cons_append,span_cons,h0,if_pos rfl,ih (fun j hj => h (j + 1) (by simpa using hj))];simp
theorem at0_take (r : List UInt8) (n j:Nat) (h : j < n) : at0 (r.take n) j = at0 r j:=by simp [at0,List.getD,h]
theorem at0_left (t x : List UInt8) (j:Nat) (h : j < t.length) : at0 (t ++ x) j = at0 t j:=by simp [at0,List.getD,List.getElem?_append_left h]
theorem at0_next (t : List UInt8) (c : UInt8) (rest : List UInt8) : at0 (t ++ c :: rest) t.length = c:=by simp [at0,List.getD]
def isSep (c : UInt8) : Prop:=c = 32∨c = 10
theorem sep_facts {c : UInt8} (h : isSep c) : isWrd c = false∧isDig c = false∧isHex c = false∧isBin c = false∧isQuo c = false∧c ≠ 46∧c ≠ 120∧c ≠ 98∧c ≠ 34:=by
 rcases h with rfl | rfl <;> decide
def Again (k:Int) (t : List UInt8) : Prop:=∀ c rest,isSep c → lexTok (t ++ c :: rest) = .ok (k,t.length)
theorem take_left (t x : List UInt8) : (t ++ x).take t.length = t:=by simp
theorem isPre_let (c : UInt8) (h : isPre c = true) : isLet c = true:=by
 unfold isPre at h;simp only [Bool.or_eq_true,beq_iff_eq] at h;rcases h with (rfl | rfl) | rfl <;> decide
theorem let_not_quo (c : UInt8) (h : isLet c = true) : isQuo c = false:=by
 unfold isQuo
 by_cases h1 : c = 34
 ·subst h1; simp [isLet] at h
 ·by_cases h2 : c = 39
  ·subst h2; simp [isLet] at h
  ·simp [h1,h2]
theorem dig_facts (c : UInt8) (h : isDig c = true) : isLet c = false∧isQuo c = false∧isPre c = false∧c.toNat < 128:=by
 unfold isDig at h;simp only [Bool.and_eq_true,decide_eq_true_eq,UInt8.le_iff_toNat_le] at h;have hn : c.toNat < 58:=by have:=h.2; simp at this; omega
 have hm : 48 ≤ c.toNat:=by have:=h.1; simp at this; omega
 have e : c = c.toNat.toUInt8:=by simp
 refine ⟨?_,?_,?_,by omega⟩
 ·simp only [isLet,Bool.or_eq_false_iff,Bool.and_eq_false_iff,decide_eq_false_iff_not,UInt8.le_iff_toNat_le,beq_eq_false_iff_ne,ne_eq];refine ⟨⟨.inl (by simp; omega),.inl (by simp; omega)⟩,?_⟩;intro h; rw [h] at hn; simp at hn
 ·simp only [isQuo,Bool.or_eq_false_iff,beq_eq_false_iff_ne,ne_eq];refine ⟨?_,?_⟩ <;> (intro h; rw [h] at hm; simp at hm)
 ·simp only [isPre,Bool.or_eq_false_iff,beq_eq_false_iff_ne,ne_eq];refine ⟨⟨?_,?_⟩,?_⟩ <;> (intro h; rw [h] at hn; simp at hn)
theorem let_lt (c : UInt8) (h : isLet c = true) : c.toNat < 128:=by
 unfold isLet at h;simp only [Bool.or_eq_true,Bool.and_eq_true,decide_eq_true_eq,UInt8.le_iff_toNat_le,beq_iff_eq] at h;rcases h with (h | h) | h
 ·have:=h.2; simp at this; omega
 ·have:=h.2; simp at this; omega
 ·rw [h]; simp
theorem wrd_lt (c : UInt8) (h : isWrd c = true) : c.toNat < 128:=by
 unfold isWrd at h;rw [Bool.or_eq_true] at h;rcases h with h | h
 ·exact let_lt c h
 ·exact (dig_facts c h).2.2.2
def Ends (r : List UInt8) (n:Nat) : Prop:=0 < n∧n ≤ r.length∧(at0 r 0).toNat < 128∧(at0 r (n - 1)).toNat < 128
theorem at0_zero_lt (r : List UInt8) (j:Nat) (p : UInt8 → Bool) (h : p (at0 r j) = true) (h0 : p 0 = false) : j < r.length:=by
 rcases Nat.lt_or_ge j r.length with h1 | h1
 ·exact h1
 ·rw [at0_ge r j h1,h0] at h; simp at h
theorem name_again (r : List UInt8) (k:Int) (n:Nat) (h0 : isLet (at0 r 0) = true) (hp : (isPre (at0 r 0) && isQuo (at0 r 1)) = false) (h : lexName r = .ok (k,n)) :
  Again k (r.take n)∧Ends r n∧(k = 4∨k = 5):=by
 unfold lexName at h;split at h
 ·simp at h
 ·rename_i hlt;simp only [Except.ok.injEq,Prod.mk.injEq] at h;obtain ⟨rfl,rfl⟩:=h;obtain ⟨s1,s2⟩:=span_spec isWrd r;have hle:=span_le isWrd r;have h0':=at0_zero_lt r 0 isLet h0 (by decide);have hpos : 0 < span isWrd r:=by
   rcases Nat.eq_zero_or_pos (span isWrd r) with e | e
   ·rw [e] at s2;have:=s2 h0';unfold isWrd at this;rw [h0] at this;simp at this
   ·exact e
  have hl : (r.take (span isWrd r)).length = span isWrd r:=(by rw [List.length_take]; omega);refine ⟨?_,⟨hpos,hle,let_lt _ h0,wrd_lt _ (s1 _ (by omega))⟩,by split <;> simp⟩;intro c rest hc;obtain ⟨c1,c2,c3,c4,c5,c6,c7,c8,c9⟩:=sep_facts hc;generalize ht : r.take (span isWrd r) = t at *
  have e0 : at0 (t ++ c :: rest) 0 = at0 r 0:=(by rw [at0_left _ _ _ (by omega),← ht,at0_take _ _ _ hpos]);have e1 : (isPre (at0 (t ++ c :: rest) 0) && isQuo (at0 (t ++ c :: rest) 1)) = false:=by
   rw [e0];rcases Nat.lt_or_ge 1 t.length with h1 | h1
   ·rw [at0_left _ _ _ h1,← ht,at0_take _ _ _ (by omega)];exact hp
   ·have : t.length = 1:=(by omega);have:=at0_next t c rest;rw [show t.length = 1 by omega] at this;rw [this,c5];simp
  have es : span isWrd (t ++ c :: rest) = t.length:=span_stop isWrd t c rest c1 (fun j hj => by rw [← ht,at0_take _ _ _ (by omega)]; exact s1 j (by omega));unfold lexTok;rw [e1,e0,let_not_quo _ h0,h0];simp only [Bool.false_eq_true,if_false,if_true];unfold lexName;rw [es,if_neg (by omega),take_left]
theorem numTail_ok {r : List UInt8} {m : Nat} {k : Int} {n : Nat} (h : numTail r m = .ok (k,n)) : k = 6∧n = m∧isWrd (at0 r m) = false∧m ≤ 600:=by
 unfold numTail at h;split at h
 ·simp at h
 ·rename_i h1;split at h
  ·simp at h
  ·rename_i h2;simp only [Except.ok.injEq,Prod.mk.injEq] at h;exact ⟨h.1.symm,h.2.symm,by simpa using h1,by omega⟩
theorem numTail_again (t : List UInt8) (c : UInt8) (rest : List UInt8) (hc : isWrd c = false) (hl : t.length ≤ 600) : numTail (t ++ c :: rest) t.length = .ok (6,t.length):=by
 unfold numTail;rw [at0_next,hc,if_neg (by simp),if_neg (by omega)]
theorem drop_left' (t x : List UInt8) (i:Nat) (h : i ≤ t.length) : (t ++ x).drop i = t.drop i ++ x:=by
 rw [List.drop_append_of_le_length h]
theorem span_drop (p : UInt8 → Bool) (r t : List UInt8) (i:Nat) (c : UInt8) (rest : List UInt8) (hc : p c = false) (n:Nat) (ht : r.take n = t) (hn : n ≤ r.length) (h : n = i + span p (r.drop i)) : span p ((t ++ c :: rest).drop i) = n - i:=by
 have hl : t.length = n:=by rw [← ht,List.length_take]; omega
 rw [drop_left' _ _ _ (by omega),span_stop p _ c rest hc,List.length_drop,hl];intro j hj;rw [List.length_drop] at hj;rw [at0_drop,← ht,at0_take _ _ _ (by omega),← at0_drop];exact (span_spec p (r.drop i)).1 j (by omega)
theorem hex_lt (c : UInt8) (h : isHex c = true) : c.toNat < 128:=by
 unfold isHex at h;simp only [Bool.or_eq_true,Bool.and_eq_true,decide_eq_true_eq,UInt8.le_iff_toNat_le] at h;rcases h with h | h
 ·exact (dig_facts c h).2.2.2
 ·have:=h.2; simp at this; omega
theorem bin_lt (c : UInt8) (h : isBin c = true) : c.toNat < 128:=by
 unfold isBin at h;simp only [Bool.or_eq_true,beq_iff_eq] at h;rcases h with rfl | rfl <;> decide
theorem radix_lt (r : List UInt8) (c : UInt8) (h : radix r c = true) : c.toNat < 128:=by
 unfold radix at h;split at h
 ·exact hex_lt c h
 ·exact bin_lt c h
theorem num_again (r : List UInt8) (k:Int) (n:Nat) (h0 : isDig (at0 r 0) = true) (h : lexNum r = .ok (k,n)) : Again k (r.take n)∧Ends r n∧k = 6:=by
 obtain ⟨f1,f2,f3,f4⟩:=dig_facts _ h0;have h0':=at0_zero_lt r 0 isDig h0 (by decide);unfold lexNum at h;split at h
 ·rename_i hx;split at h
  ·simp at h
  ·rename_i hs;obtain ⟨rfl,hn,hw,h600⟩:=numTail_ok h;have hle:=span_le (radix r) (r.drop 2);rw [List.length_drop] at hle;have hsp:=(span_spec (radix r) (r.drop 2)).1 (span (radix r) (r.drop 2) - 1) (by omega);rw [at0_drop] at hsp;refine ⟨?_,⟨by omega,by omega,f4,?_⟩,rfl⟩
   ·intro c rest hc;obtain ⟨c1,c2,c3,c4,c5,c6,c7,c8,c9⟩:=sep_facts hc;have hl : (r.take n).length = n:=(by rw [List.length_take]; omega);generalize ht : r.take n = t at *
    have e : ∀ j,j < n → at0 (t ++ c :: rest) j = at0 r j:=fun j hj => by rw [at0_left _ _ _ (by omega),← ht,at0_take _ _ _ hj]
    have er : radix (t ++ c :: rest) = radix r:=(by unfold radix; rw [e 1 (by omega)]);have es:=span_drop (radix r) r t 2 c rest (by unfold radix; split <;> assumption) n ht (by omega) hn;unfold lexTok;rw [e 0 (by omega),f1,f2,f3,h0];simp only [Bool.false_and,Bool.false_eq_true,if_false,if_true];unfold lexNum;rw [e 0 (by omega),e 1 (by omega),if_pos hx,er,es,if_neg (by omega),show 2 + (n - 2) = t.length by omega];exact numTail_again t c rest c1 (by omega)
   ·rw [show n - 1 = 2 + (span (radix r) (r.drop 2) - 1) by omega];exact radix_lt r _ hsp
 ·rename_i hx;obtain ⟨rfl,hn,hw,h600⟩:=numTail_ok h;have hi1 : 1 ≤ intLen r:=(by unfold intLen; split <;> omega);have hil : intLen r ≤ r.length:=by
   unfold intLen;split
   ·omega
   ·have:=span_le isDig (r.drop 1); rw [List.length_drop] at this; omega
  have hid : ∀ j,j < intLen r → isDig (at0 r j) = true:=by
   intro j hj;unfold intLen at hj;split at hj
   ·rw [show j = 0 by omega]; exact h0
   ·cases j with
    | zero => exact h0
    | succ j =>
     have:=(span_spec isDig (r.drop 1)).1 j (by omega)
     rwa [at0_drop,Nat.add_comm] at this
  have hnl : n ≤ r.length∧intLen r ≤ n∧(at0 r (n - 1)).toNat < 128:=by
   rw [hn];unfold numLen;split
   ·rename_i hd;have hlt:=at0_zero_lt r (intLen r + 1) isDig hd.2 (by decide);have:=span_le isDig (r.drop (intLen r + 1));rw [List.length_drop] at this;obtain ⟨g1,g2⟩:=span_spec isDig (r.drop (intLen r + 1));have hpos : 0 < span isDig (r.drop (intLen r + 1)):=by
     rcases Nat.eq_zero_or_pos (span isDig (r.drop (intLen r + 1))) with e | e
     ·rw [e,List.length_drop] at g2;have:=g2 (by omega);rw [at0_drop,Nat.add_zero,hd.2] at this;simp at this
     ·exact e
    refine ⟨by omega,by omega,?_⟩;have:=g1 (span isDig (r.drop (intLen r + 1)) - 1) (by omega);rw [at0_drop] at this;rw [show intLen r + 1 + span isDig (r.drop (intLen r + 1)) - 1 = intLen r + 1 + (span isDig (r.drop (intLen r + 1)) - 1) by omega];exact (dig_facts _ this).2.2.2
   ·exact ⟨hil,Nat.le_refl _,(dig_facts _ (hid _ (by omega))).2.2.2⟩
  obtain ⟨hnr,hin,hlast⟩:=hnl;refine ⟨?_,⟨by omega,hnr,f4,hlast⟩,rfl⟩;intro c rest hc;obtain ⟨c1,c2,c3,c4,c5,c6,c7,c8,c9⟩:=sep_facts hc;have hl : (r.take n).length = n:=(by rw [List.length_take]; omega);generalize ht : r.take n = t at *
  have e : ∀ j,j < n → at0 (t ++ c :: rest) j = at0 r j:=fun j hj => by rw [at0_left _ _ _ (by omega),← ht,at0_take _ _ _ hj]
  have en : at0 (t ++ c :: rest) n = c:=(by rw [← hl]; exact at0_next t c rest);have ei : intLen (t ++ c :: rest) = intLen r:=by
   unfold intLen;rw [e 0 (by omega)]
   by_cases hz : at0 r 0 = 48
   ·rw [if_pos hz,if_pos hz]
   ·rw [if_neg hz,if_neg hz];unfold intLen at hin hil hid;rw [if_neg hz] at hin hil hid;rcases Nat.lt_or_ge (1 + span isDig (r.drop 1)) n with hlt | hge
    ·-- the run of digits ends within the token
     have hend : isDig (at0 r (1 + span isDig (r.drop 1))) = false:=by
      have:=(span_spec isDig (r.drop 1)).2 (by rw [List.length_drop]; omega)
      rwa [at0_drop] at this
     have h2 : (t ++ c :: rest).drop 1 = (r.drop 1).take (span isDig (r.drop 1)) ++ at0 r (1 + span isDig (r.drop 1)) :: ((t ++ c :: rest).drop (2 + span isDig (r.drop 1))):=by
      have h3 : (r.drop 1).take (span isDig (r.drop 1)) = (t.drop 1).take (span isDig (r.drop 1)):=by
       rw [← ht,List.drop_take,List.take_take,Nat.min_eq_left (by omega)]
      have h4 : at0 r (1 + span isDig (r.drop 1)) = t[1 + span isDig (r.drop 1)]:=by
       rw [← at0_lt t _ (by omega),← ht,at0_take _ _ _ hlt]
      rw [h3,h4,drop_left' _ _ _ (by omega),drop_left' _ _ _ (by omega),← List.cons_append,← List.append_assoc]
      congr 1
      have h5 : t.drop (1 + span isDig (r.drop 1)) = t[1 + span isDig (r.drop 1)] :: t.drop (2 + span isDig (r.drop 1)):=by
       rw [List.drop_eq_getElem_cons (by omega)]
       congr 2
       omega
      rw [← h5,← List.drop_drop,List.take_append_drop]
     rw [h2,span_stop isDig _ _ _ hend,List.length_take,List.length_drop]
     ·omega
     ·intro j hj;rw [List.length_take,List.length_drop] at hj;rw [at0_take _ _ _ (by omega)];exact (span_spec isDig (r.drop 1)).1 j (by omega)
    ·rw [span_drop isDig r t 1 c rest c2 n ht hnr (by omega)];omega
  have enl : numLen (t ++ c :: rest) = n:=by
   unfold numLen;rw [ei];unfold numLen at hn
   by_cases hd : at0 r (intLen r) = 46∧isDig (at0 r (intLen r + 1)) = true
   ·rw [if_pos hd] at hn;have hsp : 0 < span isDig (r.drop (intLen r + 1)):=by
     obtain ⟨g1,g2⟩:=span_spec isDig (r.drop (intLen r + 1));have hlt:=at0_zero_lt r (intLen r + 1) isDig hd.2 (by decide);rcases Nat.eq_zero_or_pos (span isDig (r.drop (intLen r + 1))) with e | e
     ·rw [e,List.length_drop] at g2;have:=g2 (by omega);rw [at0_drop,Nat.add_zero,hd.2] at this;simp at this
     ·exact e
    rw [e _ (by omega),e _ (by omega),if_pos hd,span_drop isDig r t (intLen r + 1) c rest c2 n ht hnr hn];omega
   ·rw [if_neg hd] at hn;rw [← hn,if_neg ?_];rintro ⟨h1,_⟩;rw [en] at h1;exact c6 h1
  unfold lexTok;rw [e 0 (by omega),f1,f2,f3,h0];simp only [Bool.false_and,Bool.false_eq_true,if_false,if_true];unfold lexNum;rw [if_neg ?_,enl,← hl]
  ·exact numTail_again t c rest c1 (by omega)
  ·rw [e 0 (by omega)];rcases Nat.lt_or_ge 1 n with h1 | h1
   ·rw [e 1 h1]; exact hx
   ·have : n = 1:=(by omega);rw [this] at en;rw [en];rintro ⟨_,h | h⟩
    ·exact c7 h
    ·exact c8 h
theorem strEnd_le (q : List UInt8) (raw : Bool) (hq : 0 < q.length) : ∀ (r : List UInt8) (esc : Bool) (k m:Nat),strEnd q raw r esc k = .ok m → k + q.length ≤ m∧m ≤ k + r.length∧(r.drop (m - k - q.length)).take q.length = q
 | [],esc,k,m,h => by simp [strEnd] at h
 | c :: r,esc,k,m,h => by
  unfold strEnd at h;split at h
  ·obtain ⟨h1,h2,h3⟩:=strEnd_le q raw hq r _ _ _ h;refine ⟨by omega,by simp; omega,?_⟩;rw [show m - k - q.length = (m - (k + 1) - q.length) + 1 by omega,List.drop_succ_cons];exact h3
  ·split at h
   ·rename_i hp;simp only [Except.ok.injEq] at h;subst h;obtain ⟨s,hs⟩:=List.isPrefixOf_iff_prefix.1 hp;have:=congrArg List.length hs;rw [List.length_append] at this;refine ⟨Nat.le_refl _,by omega,?_⟩;rw [show k + q.length - k - q.length = 0 by omega,List.drop_zero,← hs,List.take_left]
   ·split at h
    ·simp at h
    ·obtain ⟨h1,h2,h3⟩:=strEnd_le q raw hq r _ _ _ h;refine ⟨by omega,by simp; omega,?_⟩;rw [show m - k - q.length = (m - (k + 1) - q.length) + 1 by omega,List.drop_succ_cons];exact h3
theorem prefix_take (q r x : List UInt8) (n:Nat) (hn : q.length ≤ n) (hr : n ≤ r.length) : q.isPrefixOf (r.take n ++ x) = q.isPrefixOf r:=by
 rw [Bool.eq_iff_iff,List.isPrefixOf_iff_prefix,List.isPrefixOf_iff_prefix,List.prefix_iff_eq_take,List.prefix_iff_eq_take,List.take_append_of_le_length (by rw [List.length_take]; omega),List.take_take,Nat.min_eq_left hn]
theorem strEnd_again (q : List UInt8) (raw : Bool) (hq : 0 < q.length) (x : List UInt8) : ∀ (r : List UInt8) (esc : Bool) (k m:Nat),strEnd q raw r esc k = .ok m → strEnd q raw (r.take (m - k) ++ x) esc k = .ok m
 | [],esc,k,m,h => by simp [strEnd] at h
 | c :: r,esc,k,m,h => by
  obtain ⟨g1,g2,g3⟩:=strEnd_le q raw hq (c :: r) esc k m h;rw [List.length_cons] at g2;obtain ⟨d,hd⟩ : ∃ d,m - k = d + 1:=⟨m - k - 1,by omega⟩;have hpre:=prefix_take q (c :: r) x (m - k) (by omega) (by rw [List.length_cons]; omega);rw [hd] at hpre ⊢;rw [List.take_succ_cons,List.cons_append] at hpre ⊢;unfold strEnd at h ⊢;rw [hpre];split at h
  ·rename_i he;have h2:=strEnd_again q raw hq x r _ _ _ h;rw [if_pos he]
   rwa [show m - (k + 1) = d by omega] at h2
  ·rename_i he;rw [if_neg he];split at h
   ·rename_i hp;rw [if_pos hp];exact h
   ·rename_i hp;rw [if_neg hp];split at h
    ·simp at h
    ·rename_i hn;rw [if_neg hn];have h2:=strEnd_again q raw hq x r _ _ _ h;obtain ⟨j1,j2,j3⟩:=strEnd_le q raw hq r _ _ _ h;rw [show m - (k + 1) = d by omega] at h2;have hr : r ≠ []:=(by intro e; subst e; simp at j2; omega);have hdp : 0 < d:=(by omega);have e1 : r.take d ++ x ≠ []:=by
      intro e;have:=congrArg List.length e;rw [List.length_append,List.length_take,List.length_nil] at this;have:=List.length_pos_iff.2 hr;omega
     have e2 : at0 (r.take d ++ x) 0 = at0 r 0:=by
      rw [at0_left _ _ _ (by rw [List.length_take]; have:=List.length_pos_iff.2 hr; omega),at0_take _ _ _ hdp]
     rw [e2];simp only [hr,e1,ne_eq,not_false_eq_true,decide_true] at h2 ⊢;exact h2
theorem quotes_len (r : List UInt8) (h : r ≠ []) : 0 < (quotes r).length∧(quotes r).length ≤ 3∧(quotes r).length ≤ r.length:=by
 have:=List.length_pos_iff.2 h;unfold quotes;split
 ·rename_i h3;have:=congrArg List.length h3;rw [List.length_take] at this;simp at this ⊢;omega
 ·rw [List.length_take];omega
theorem quotes_lt (r : List UInt8) (h : isQuo (at0 r 0) = true) : ∀ c ∈ quotes r,c.toNat < 128:=by
 unfold quotes;split
 ·simp
 ·cases r with
  | nil => simp
  | cons x r =>
   simp only [List.take_succ_cons,List.take_zero,List.mem_singleton,forall_eq];change isQuo x = true at h;simp only [isQuo,Bool.or_eq_true,beq_iff_eq] at h;rcases h with rfl | rfl <;> decide
theorem quotes_take (r t : List UInt8) (c : UInt8) (rest : List UInt8) (n:Nat) (hc : c ≠ 34) (hn : 2 * (quotes r).length ≤ n) (h0 : 0 < (quotes r).length) (hr : n ≤ r.length) (ht : r.take n = t) : quotes (t ++ c :: rest) = quotes r:=by
 have hl : t.length = n:=by rw [← ht,List.length_take]; omega
 have e1 : (t ++ c :: rest).take 1 = r.take 1:=by
  rw [List.take_append_of_le_length (by omega),← ht,List.take_take,Nat.min_eq_left (by omega)]
 rcases Nat.lt_or_ge n 3 with h | h
 ·have h2 : n = 2:=(by omega);have : (t ++ c :: rest).take 3 ≠ [34,34,34]:=by
   intro e;have : at0 ((t ++ c :: rest).take 3) 2 = at0 [34,34,34] 2:=(by rw [e]);rw [at0_take _ _ _ (by omega)] at this;have h3:=at0_next t c rest;rw [hl,h2] at h3;rw [h3] at this;exact hc this
  have h4 : r.take 3 ≠ [34,34,34]:=by
   intro e;unfold quotes at hn;rw [if_pos e] at hn;simp at hn;omega
  unfold quotes;rw [if_neg this,if_neg h4,e1]
 ·unfold quotes;rw [e1,List.take_append_of_le_length (by omega),← ht,List.take_take,Nat.min_eq_left (by omega)]
theorem str_again (p:Nat) (r : List UInt8) (k:Int) (n:Nat) (hp1 : p ≤ 1) (h0 : if p = 0 then isQuo (at0 r 0) = true else isQuo (at0 r 0) = false∧isPre (at0 r 0) = true∧isQuo (at0 r 1) = true) (h : lexStr p r = .ok (k,n)) :
  Again k (r.take n)∧Ends r n∧k = 7:=by
 have hq0 : isQuo (at0 (r.drop p) 0) = true:=by
  rw [at0_drop,Nat.add_zero];split at h0
  ·rename_i e; rw [e]; exact h0
  ·rename_i e; rw [show p = 1 by omega]; exact h0.2.2
 have hlt0:=at0_zero_lt (r.drop p) 0 isQuo hq0 (by decide);rw [List.length_drop] at hlt0;obtain ⟨l1,l2,l3⟩:=quotes_len (r.drop p) (by intro e; have:=congrArg List.length e; rw [List.length_drop,List.length_nil] at this; omega);have hql:=quotes_lt (r.drop p) hq0;rw [List.length_drop] at l3;unfold lexStr at h;split at h
 ·simp at h
 ·rename_i m hm;simp only [Except.ok.injEq,Prod.mk.injEq] at h;obtain ⟨rfl,rfl⟩:=h;obtain ⟨g1,g2,g3⟩:=strEnd_le _ _ l1 _ _ _ _ hm;rw [List.length_drop] at g2;have hmr : m ≤ r.length:=(by omega);refine ⟨?_,⟨by omega,hmr,?_,?_⟩,rfl⟩
  ·intro c rest hc;obtain ⟨c1,c2,c3,c4,c5,c6,c7,c8,c9⟩:=sep_facts hc;have hl : (r.take m).length = m:=(by rw [List.length_take]; omega);have htd : (r.drop p).take (m - p) = (r.take m).drop p:=(by rw [List.drop_take]);generalize ht : r.take m = t at *
   have e : ∀ j,j < m → at0 (t ++ c :: rest) j = at0 r j:=fun j hj => by rw [at0_left _ _ _ (by omega),← ht,at0_take _ _ _ hj]
   have ed : (t ++ c :: rest).drop p = t.drop p ++ c :: rest:=drop_left' _ _ _ (by omega);have eq : quotes ((t ++ c :: rest).drop p) = quotes (r.drop p):=by
    rw [ed];exact quotes_take (r.drop p) (t.drop p) c rest (m - p) c9 (by omega) l1 (by rw [List.length_drop]; omega) htd
   have hs:=strEnd_again (quotes (r.drop p)) (decide (0 < p) && at0 r 0 == 114) l1 (c :: rest) _ _ _ _ hm;have ex : ((r.drop (p + (quotes (r.drop p)).length)).take (m - (p + (quotes (r.drop p)).length)) ++ c :: rest) = (t ++ c :: rest).drop (p + (quotes (r.drop p)).length):=by
    rw [drop_left' _ _ _ (by omega),← ht,List.drop_take]
   rw [ex] at hs;have hstr : lexStr p (t ++ c :: rest) = .ok (7,t.length):=by
    unfold lexStr;rw [eq,e 0 (by omega),hs,hl]
   unfold lexTok;rw [e 0 (by omega),e 1 (by omega)]
   by_cases hp : p = 0
   ·subst hp;rw [if_pos rfl] at h0;rw [h0,if_pos rfl];exact hstr
   ·have : p = 1:=(by omega);subst this;rw [if_neg (by omega)] at h0;rw [h0.1,h0.2.1,h0.2.2];simp only [Bool.false_eq_true,if_false,Bool.and_self,if_true];exact hstr
  ·split at h0
   ·simp only [isQuo,Bool.or_eq_true,beq_iff_eq] at h0;rcases h0 with h0 | h0 <;> rw [h0] <;> decide
   ·exact let_lt _ (isPre_let _ h0.2.1)
  ·have hmem : at0 (quotes (r.drop p)) ((quotes (r.drop p)).length - 1) ∈ quotes (r.drop p):=by
    rw [at0_lt _ _ (by omega)];exact List.getElem_mem _
   have e2 : at0 r (m - 1) = at0 (quotes (r.drop p)) ((quotes (r.drop p)).length - 1):=by
    rw [← g3,at0_take _ _ _ (by rw [g3]; omega),g3,at0_drop,at0_drop]
    congr 1
    omega
   rw [e2];exact hql _ hmem
theorem sgs_facts : ∀ s ∈ sgs,0 < s.length∧(∀ c ∈ s,c.toNat < 128∧c ≠ 32∧c ≠ 10):=by decide
theorem sign_again (r : List UInt8) (k:Int) (n:Nat) (h1 : isQuo (at0 r 0) = false) (h2 : isLet (at0 r 0) = false) (h3 : isDig (at0 r 0) = false) (h : lexSign r = .ok (k,n)) : Again k (r.take n)∧Ends r n∧k = 8∧r.take n ∈ sgs:=by
 unfold lexSign at h;split at h
 ·simp at h
 ·rename_i s hs;simp only [Except.ok.injEq,Prod.mk.injEq] at h;obtain ⟨rfl,rfl⟩:=h;obtain ⟨hp,l1,l2,he,hn⟩:=List.find?_eq_some_iff_append.1 hs;have hmem : s ∈ sgs:=(by rw [he]; simp);obtain ⟨f1,f2⟩:=sgs_facts s hmem;obtain ⟨x,hx⟩:=List.isPrefixOf_iff_prefix.1 hp;subst hx;have hpre : isPre (at0 (s ++ x) 0) = false:=by
   cases hb : isPre (at0 (s ++ x) 0)
   ·rfl
   ·rw [isPre_let _ hb] at h2; simp at h2
  have hm : ∀ j,j < s.length → (at0 (s ++ x) j).toNat < 128:=fun j hj => by
   rw [at0_left _ _ _ hj,at0_lt _ _ hj];exact (f2 _ (List.getElem_mem hj)).1
  rw [take_left];refine ⟨?_,⟨f1,by simp,hm 0 f1,hm _ (by omega)⟩,rfl,hmem⟩;intro c rest hc;have e0 : at0 (s ++ c :: rest) 0 = at0 (s ++ x) 0:=(by rw [at0_left _ _ _ f1,at0_left _ _ _ f1]);unfold lexTok;rw [e0,h1,hpre,h2,h3];simp only [Bool.false_and,Bool.false_eq_true,if_false];unfold lexSign;have hf : sgs.find? (·.isPrefixOf (s ++ c :: rest)) = some s:=by
   refine List.find?_eq_some_iff_append.2 ⟨List.isPrefixOf_iff_prefix.2 ⟨_,rfl⟩,l1,l2,he,fun a ha => ?_⟩;have h4:=hn a ha;simp only [Bool.not_eq_eq_eq_not,Bool.not_true] at h4 ⊢;cases hb : a.isPrefixOf (s ++ c :: rest)
   ·rfl
   ·exfalso;have h5:=List.isPrefixOf_iff_prefix.1 hb;rcases Nat.lt_or_ge s.length a.length with hlt | hge
    ·obtain ⟨y,hy⟩:=h5;have h6 : at0 (a ++ y) s.length = c:=(by rw [hy]; exact at0_next s c rest);rw [at0_left _ _ _ hlt,at0_lt _ _ hlt] at h6;have h7:=(sgs_facts a (by rw [he]; simp [ha])).2 _ (List.getElem_mem hlt);rw [h6] at h7;rcases hc with rfl | rfl
     ·exact h7.2.1 rfl
     ·exact h7.2.2 rfl
    ·have h6 : a <+: s:=List.prefix_of_prefix_length_le h5 ⟨_,rfl⟩ hge;have h7 : a.isPrefixOf (s ++ x) = true:=List.isPrefixOf_iff_prefix.2 (h6.trans ⟨x,rfl⟩);rw [h7] at h4;simp at h4
  rw [hf]
theorem lex_again (r : List UInt8) (k:Int) (n:Nat) (h : lexTok r = .ok (k,n)) : Again k (r.take n)∧Ends r n∧4 ≤ k∧k ≤ 8∧(k = 8 → r.take n ∈ sgs):=by
 unfold lexTok at h;split at h
 ·rename_i h1;obtain ⟨a,b,c⟩:=str_again 0 r k n (by omega) (by rw [if_pos rfl]; exact h1) h;exact ⟨a,b,by omega,by omega,by omega⟩
 ·rename_i h1;have h1' : isQuo (at0 r 0) = false:=(by simpa using h1);split at h
  ·rename_i h2;rw [Bool.and_eq_true] at h2;obtain ⟨a,b,c⟩:=str_again 1 r k n (by omega) (by rw [if_neg (by omega)]; exact ⟨h1',h2⟩) h;exact ⟨a,b,by omega,by omega,by omega⟩
  ·rename_i h2;have h2' : (isPre (at0 r 0) && isQuo (at0 r 1)) = false:=(by simpa using h2);split at h
   ·rename_i h3;obtain ⟨a,b,c⟩:=name_again r k n h3 h2' h;exact ⟨a,b,by omega,by omega,by omega⟩
   ·rename_i h3;split at h
    ·rename_i h4;obtain ⟨a,b,c⟩:=num_again r k n h4 h;exact ⟨a,b,by omega,by omega,by omega⟩
    ·rename_i h4;obtain ⟨a,b,c,d⟩:=sign_again r k n h1' (by simpa using h3) (by simpa using h4) h;exact ⟨a,b,by omega,by omega,fun _ => d⟩
def Txt (l : List UInt8) : Prop:=∃ cs : List (List UInt8),l = cs.flatten∧∀ c ∈ cs,Chr c
theorem Txt.nil : Txt []:=⟨[],rfl,by simp⟩
theorem Txt.append {a b : List UInt8} (h : Txt a) (k : Txt b) : Txt (a ++ b):=by
 obtain ⟨cs,rfl,hc⟩:=h;obtain ⟨ds,rfl,hd⟩:=k;refine ⟨cs ++ ds,by simp,fun c hm => ?_⟩;rcases List.mem_append.1 hm with h | h
 ·exact hc c h
 ·exact hd c h
theorem Chr.txt {c : List UInt8} (h : Chr c) : Txt c:=⟨[c],by simp,by simpa using h⟩
theorem Chr.asc (x : UInt8) (h : x.toNat < 128) (h2 : 32 ≤ x.toNat∨x.toNat = 10) : Chr [x]:=by
 refine chr_mk [x] x.toNat (by simp) (fun t => ?_) (by omega) (by omega) (by rw [bAt_zero]; omega) (fun j h1 h2 => by simp at h2; omega) (fun _ => by simp);rw [decodeL_eq,List.singleton_append,bAt_zero];unfold decodeN;rw [if_pos h];rfl
theorem Txt.spaces (n:Nat) : Txt (List.replicate n 32):=by
 induction n with
 | zero => exact Txt.nil
 | succ n ih => rw [List.replicate_succ]; exact Txt.append (a:=[32]) (Chr.asc 32 (by decide) (by decide)).txt ih
theorem Txt.line : Txt [10]:=(Chr.asc 10 (by decide) (by decide)).txt
theorem ascii_cut {l a b : List UInt8} {x : UInt8} (h : Txt l) (e : l = a ++ x :: b) (hx : x.toNat < 128) : Txt a∧Chr [x]∧Txt b:=by
 obtain ⟨cs,hl,hcs⟩:=h;have hlen : cs.flatten.length = a.length + 1 + b.length:=by rw [← hl,e]; simp; omega
 have hb : bAt cs.flatten a.length = x.toNat:=by rw [← hl,e]; simp [bAt,List.getD]
 obtain ⟨k,hk,hk2⟩:=start_chars cs a.length hcs (by omega) (fun _ => by rw [hb]; omega);have ha : a = (cs.take k).flatten:=by
  rw [← take_flatten,← hk2,← hl,e];simp
 have hrest : (cs.drop k).flatten = x :: b:=by
  have h1 : (cs.take k).flatten ++ (cs.drop k).flatten = a ++ x :: b:=(by rw [← List.flatten_append,List.take_append_drop,← hl,e]);rw [← ha] at h1;exact List.append_cancel_left h1
 refine ⟨⟨cs.take k,ha,fun c hc => hcs c (List.mem_of_mem_take hc)⟩,?_⟩;cases hd : cs.drop k with
 | nil => rw [hd] at hrest; simp at hrest
 | cons c ds =>
  have hmem : ∀ d ∈ c :: ds,Chr d:=fun d hdm => hcs d (List.mem_of_mem_drop (by rw [hd]; exact hdm));have hc:=hmem c (List.mem_cons_self ..);rw [hd,List.flatten_cons] at hrest;cases c with
  | nil => have:=hc.pos; simp at this
  | cons y c =>
   rw [List.cons_append] at hrest;injection hrest with h1 h2;subst h1;rcases hc.shape with ⟨z,hz⟩ | hbig
   ·injection hz with h3 h4;subst h4;refine ⟨hc,⟨ds,?_,fun d hdm => hmem d (List.mem_cons_of_mem _ hdm)⟩⟩;rw [← h2,List.nil_append]
   ·have:=hbig 0 (by simp);rw [bAt_zero] at this;omega
theorem Txt.part {l : List UInt8} (h : Txt l) (i n:Nat) (he : Ends (l.drop i) n) : Txt ((l.drop i).take n):=by
 obtain ⟨h1,h2,h3,h4⟩:=he;have hn : n - 1 < (l.drop i).length:=by omega
 rw [List.length_drop] at h2;have hi : i < l.length:=by omega
 have e1 : l = l.take i ++ l[i] :: l.drop (i + 1):=by rw [← List.drop_eq_getElem_cons hi,List.take_append_drop]
 have h3' : l[i].toNat < 128:=by
  rw [at0_drop,Nat.add_zero,at0_lt l i hi] at h3;exact h3
 obtain ⟨_,c1,c2⟩:=ascii_cut h e1 h3';have hd : Txt (l.drop i):=by
  rw [List.drop_eq_getElem_cons hi];exact Txt.append (a:=[l[i]]) c1.txt c2
 generalize l.drop i = r at *
 have e2 : r = r.take (n - 1) ++ r[n - 1] :: r.drop n:=by
  have h5 : r.drop n = r.drop (n - 1 + 1):=(by congr 1; omega);rw [h5,← List.drop_eq_getElem_cons hn,List.take_append_drop]
 obtain ⟨d1,d2,_⟩:=ascii_cut hd e2 (by rw [at0_lt r _ hn] at h4; exact h4);have e3 : r.take n = r.take (n - 1) ++ [r[n - 1]]:=by
  rw [← List.take_succ_eq_append_getElem hn]
  congr 1
  omega
 rw [e3];exact d1.append d2.txt
def kt (t : Tok) : Int × List UInt8:=(t.kind,t.text)
structure TokOk (k:Int) (t : List UInt8) : Prop where
 again : Again k t
 txt : Txt t
 lo : 4 ≤ k
 hi : k ≤ 8
 pos : 0 < t.length
 h32 : at0 t 0 ≠ 32
 h35 : at0 t 0 ≠ 35
 h10 : at0 t 0 ≠ 10
def brK (k:Int) (t op : List UInt8) : Option (List UInt8):=if k = 8 then bracket op t else some op
inductive Good : Nat → List UInt8 → Bool → List (Int × List UInt8) → Prop where
 | last (d:Nat) : Good d [] true (List.replicate d (3,[]) ++ [(0,[])])
 | line (d:Nat) (ts : List (Int × List UInt8)) (h : Good d [] true ts) : Good d [] false ((1,[]) :: ts)
 | deeper (d:Nat) (k:Int) (t op : List UInt8) (ts : List (Int × List UInt8)) (ht : TokOk k t) (hb : brK k t [] = some op) (h : Good (d + 1) op false ts) : Good d [] true ((2,[]) :: (k,t) :: ts)
 | back (d m:Nat) (k:Int) (t op : List UInt8) (ts : List (Int × List UInt8)) (hm : m ≤ d) (ht : TokOk k t) (hb : brK k t [] = some op) (h : Good (d - m) op false ts) : Good d [] true (List.replicate m (3,[]) ++ (k,t) :: ts)
 | tok (d:Nat) (k:Int) (t op op' : List UInt8) (ts : List (Int × List UInt8)) (ht : TokOk k t) (hb : brK k t op = some op') (h : Good d op' false ts) : Good d op false ((k,t) :: ts)
def jt : Int → Bool → List (Int × List UInt8) → List UInt8
 | _,_,[] => []
 | lv,fr,(k,t) :: ts =>
  if k = 2 then jt (lv + 1) fr ts
  else if k = 3 then jt (lv - 1) fr ts
  else if k = 1 then 10 :: jt lv true ts
  else if k = 0 then jt lv fr ts
  else (if fr then List.replicate (2 * lv.toNat) 32 else [32]) ++ (t ++ jt lv false ts)
theorem jt_ded (fr : Bool) (ts : List (Int × List UInt8)) : ∀ (m:Nat) (lv:Int),jt lv fr (List.replicate m (3,[]) ++ ts) = jt (lv - m) fr ts
 | 0,lv => by simp
 | m + 1,lv => by
  rw [List.replicate_succ,List.cons_append]
  conv => lhs; unfold jt
  rw [if_neg (by omega),if_pos rfl,jt_ded fr ts m (lv - 1)]
  congr 1
  omega
theorem jt_tok (lv:Int) (fr : Bool) (k:Int) (t : List UInt8) (ts : List (Int × List UInt8)) (h : 4 ≤ k) : jt lv fr ((k,t) :: ts) = (if fr then List.replicate (2 * lv.toNat) 32 else [32]) ++ (t ++ jt lv false ts):=by
 conv => lhs; unfold jt
 rw [if_neg (by omega),if_neg (by omega),if_neg (by omega),if_neg (by omega)]
theorem jt_line (lv:Int) (fr : Bool) (t : List UInt8) (ts : List (Int × List UInt8)) : jt lv fr ((1,t) :: ts) = 10 :: jt lv true ts:=by
 conv => lhs; unfold jt
 rw [if_neg (by omega),if_neg (by omega),if_pos rfl]
theorem jt_in (lv:Int) (fr : Bool) (t : List UInt8) (ts : List (Int × List UInt8)) : jt lv fr ((2,t) :: ts) = jt (lv + 1) fr ts:=by
 conv => lhs; unfold jt
 rw [if_pos rfl]
theorem jt_end (lv:Int) (fr : Bool) : jt lv fr [(0,[])] = []:=by simp [jt]
theorem Good.sep {d : Nat} {op : List UInt8} {fr : Bool} {ts : List (Int × List UInt8)} (h : Good d op fr ts) (hf : fr = false) (lv:Int) : ∃ c r,jt lv false ts = c :: r∧isSep c:=by
 cases h with
 | last => simp at hf
 | line _ ts _ => exact ⟨10,_,jt_line lv false [] ts,.inr rfl⟩
 | deeper => simp at hf
 | back => simp at hf
 | tok _ k t _ _ ts ht _ _ =>
  rw [jt_tok lv false k t ts ht.lo];exact ⟨32,t ++ jt lv false ts,rfl,.inl rfl⟩
theorem Good.txt {d : Nat} {op : List UInt8} {fr : Bool} {ts : List (Int × List UInt8)} (h : Good d op fr ts) : ∀ lv : Int,Txt (jt lv fr ts):=by
 induction h with
 | last d => intro lv; rw [jt_ded,jt_end]; exact Txt.nil
 | line d ts _ ih => intro lv; rw [jt_line]; exact Txt.append (a:=[10]) Txt.line (ih lv)
 | deeper d k t op ts ht _ _ ih => intro lv; rw [jt_in,jt_tok _ _ _ _ _ ht.lo]; exact (Txt.spaces _).append (ht.txt.append (ih _))
 | back d m k t op ts _ ht _ _ ih => intro lv; rw [jt_ded,jt_tok _ _ _ _ _ ht.lo]; exact (Txt.spaces _).append (ht.txt.append (ih _))
 | tok d k t op op' ts ht _ _ ih => intro lv; rw [jt_tok _ _ _ _ _ ht.lo]; exact (Txt.spaces 1).append (ht.txt.append (ih _))
theorem skip_none (r : List UInt8) (h : at0 r 0 ≠ 32) (h2 : at0 r 0 ≠ 35) : skipLen r = 0:=by
 have hs : span isBlk r = 0:=by
  cases r with
  | nil => rfl
  | cons c r =>
   have h' : c ≠ 32:=h;rw [span_cons,if_neg];simp [isBlk,h']
 unfold skipLen;rw [hs,if_neg h2]
def inds : Nat → List Nat
 | 0 => [0]
 | d + 1 => 2 * (d + 1) :: inds d
theorem step_at {u : List UInt8} {s : Scn} {i : Nat} (h : s.at_ + skipLen (u.drop s.at_) = i) : stepS u s = stepB u s i:=by
 unfold stepS;rw [h]
theorem scanF_more {l : List UInt8} {f : Nat} {s s' : Scn} (h : stepS l s = .more s') : scanF l (f + 1) s = scanF l f s':=by
 conv => lhs; unfold scanF
 rw [h]
theorem scanF_done {l : List UInt8} {f : Nat} {s : Scn} {t : List Tok} (h : stepS l s = .done t) : scanF l (f + 1) s = .ok t:=by
 unfold scanF;rw [h]
theorem dedent_facts (n:Nat) : ∀ ind : List Nat,(dedent n ind).1.length + (dedent n ind).2 = ind.length∧(dedent n ind).1.headD 0 ≤ n∧(ind.Pairwise (· > ·) → (dedent n ind).1.Pairwise (· > ·))∧(n ∈ ind → (dedent n ind).1 ≠ [])
 | [] => by simp [dedent]
 | x :: l => by
  obtain ⟨h1,h2,h3,h4⟩:=dedent_facts n l;unfold dedent
  by_cases hx : n < x
  ·rw [if_pos hx];refine ⟨by simp; omega,h2,fun h => h3 h.of_cons,fun h => h4 ?_⟩;rcases List.mem_cons.1 h with h | h
   ·omega
   ·exact h
  ·rw [if_neg hx];exact ⟨by simp,by simp; omega,fun h => h,fun _ => by simp⟩
theorem width_succ (l : List UInt8) (i:Nat) : width l (i + 1) ≤ width l i + 1:=by
 unfold width;rcases Nat.lt_or_ge i l.length with h | h
 ·rw [List.take_succ_eq_append_getElem h]
  by_cases hc : l[i] = 10
  ·rw [hc,tailNl_at _ [] (by simp)];simp
  ·rw [tailNl_more _ _ (by simpa using fun e => hc e.symm),List.length_append];simp
 ·rw [List.take_of_length_le (by omega),List.take_of_length_le (by omega)];omega
theorem width_nl (l : List UInt8) (i:Nat) (h : i < l.length) (hc : at0 l i = 10) : width l (i + 1) = 0:=by
 unfold width;rw [at0_lt l i h] at hc;rw [List.take_succ_eq_append_getElem h,hc,tailNl_at _ [] (by simp)];rfl
theorem skip_spec (r : List UInt8) : skipLen r ≤ r.length∧(skipLen r < r.length → at0 r (skipLen r) ≠ 10 → at0 r (skipLen r) ≠ 32∧at0 r (skipLen r) ≠ 35):=by
 have h1:=span_le isBlk r;have h2:=(span_spec isBlk r).2;unfold skipLen;split
 ·have h3:=span_le inLn (r.drop (span isBlk r));have h4:=(span_spec inLn (r.drop (span isBlk r))).2;rw [List.length_drop] at h3 h4;refine ⟨by omega,fun h5 h6 => ?_⟩;have h7:=h4 (by omega);rw [at0_drop] at h7;exact absurd (by simpa [inLn] using h7) h6
 ·rename_i h3;refine ⟨h1,fun h5 _ => ⟨?_,h3⟩⟩;have:=h2 h5;simpa [isBlk] using this
structure Inv (l : List UInt8) (s : Scn) : Prop where
 ne : s.ind ≠ []
 desc : s.ind.Pairwise (· > ·)
 fr : s.fresh = true → s.op = []∧width l s.at_ = 0
 le : s.at_ ≤ l.length
theorem takeTok_done {l : List UInt8} {i : Nat} {s : Scn} {t : List Tok} : takeTok l i s ≠ .done t:=by
 unfold takeTok;split
 ·simp
 ·split
  ·split <;> simp
  ·simp
structure Jn where
 level : Int
 fresh : Bool
 out : List UInt8
def jstep (s : Jn) (k:Int) (t : List UInt8) : Jn :=
 if k = 2 then { s with level:=s.level + 1 }
 else if k = 3 then { s with level:=s.level - 1 }
 else if k = 1 then { s with fresh:=true,out:=s.out ++ [10] }
 else if k = 0 then s
 else { s with fresh:=false,out:=s.out ++ ((if s.fresh then List.replicate (2 * s.level.toNat) 32 else [32]) ++ t) }
def joinF : Jn → List (Int × List UInt8) → Option (List UInt8)
 | s,[] => some s.out
 | s,(k,t) :: ts => if 16000 < (jstep s k t).out.length then none else joinF (jstep s k t) ts
def joined (ts : List (Int × List UInt8)) : Option (List UInt8):=joinF ⟨0,true,[]⟩ ts
end
end Go.Proofs.YtonehlkiackhcaaGreatDoor