/- Plain words on the string literals: the token that a string is, and what stands between its quotes. Nothing is claimed here. -/
import Derived.Test.YtonehlkiackhcaaGreatDoorTokD
set_option linter.unusedVariables false
set_option linter.unusedSimpArgs false
set_option maxRecDepth 100000
set_option maxHeartbeats 16000000
namespace Go.Proofs.YtonehlkiackhcaaGreatDoor
section
open Go.Lib
theorem drop_at (l : List UInt8) (j:Nat) (h : j < l.length) : l.drop j = at0 l j :: l.drop (j + 1):=by
 rw [at0_lt l j h,List.drop_eq_getElem_cons h]
theorem span_at (p : UInt8 → Bool) (l : List UInt8) (j:Nat) (h : j < l.length) : span p (l.drop j) = if p (at0 l j) then span p (l.drop (j + 1)) + 1 else 0:=by
 rw [drop_at l j h,span_cons]
theorem span_end (p : UInt8 → Bool) (l : List UInt8) (j:Nat) (h : l.length ≤ j) : span p (l.drop j) = 0:=by
 rw [List.drop_of_length_le h];rfl
theorem span_drop_le (p : UInt8 → Bool) (l : List UInt8) (j:Nat) (h : j ≤ l.length) : j + span p (l.drop j) ≤ l.length:=by
 have:=span_le p (l.drop j);rw [List.length_drop] at this;omega
theorem prefix_nil (q : List UInt8) (h : 0 < q.length) : q.isPrefixOf [] = false:=by
 cases q with
 | nil => simp at h
 | cons => rfl
theorem se_end (q : List UInt8) (raw : Bool) (l : List UInt8) (j k:Nat) (h : l.length ≤ j) : strEnd q raw (l.drop j) false k = .error (15,k):=by
 rw [List.drop_of_length_le h];rfl
theorem se_pre (q : List UInt8) (raw : Bool) (hq : 0 < q.length) (l : List UInt8) (j k:Nat) (h : q.isPrefixOf (l.drop j) = true) : strEnd q raw (l.drop j) false k = .ok (k + q.length):=by
 rcases Nat.lt_or_ge j l.length with hj | hj
 ·rw [drop_at l j hj] at h ⊢;unfold strEnd;rw [if_neg (by simp),if_pos h]
 ·rw [List.drop_of_length_le hj,prefix_nil q hq] at h;simp at h
theorem se_nl (q : List UInt8) (raw : Bool) (l : List UInt8) (j k:Nat) (hj : j < l.length) (hp : q.isPrefixOf (l.drop j) = false) (hc : at0 l j = 10) (h1 : q.length = 1) : strEnd q raw (l.drop j) false k = .error (1,k):=by
 rw [drop_at l j hj] at hp ⊢;unfold strEnd;rw [if_neg (by simp),if_neg (by simp [hp]),if_pos ⟨hc,h1⟩]
theorem se_esc (q : List UInt8) (l : List UInt8) (j k:Nat) (hp : q.isPrefixOf (l.drop j) = false) (hc : at0 l j = 92) (hj : j + 1 < l.length) (hd : at0 l (j + 1) ≠ 10) : strEnd q false (l.drop j) false k = strEnd q false (l.drop (j + 2)) false (k + 2):=by
 rw [drop_at l j (by omega)] at hp ⊢
 conv => lhs; unfold strEnd
 have h0 : at0 (l.drop (j + 1)) 0 = at0 l (j + 1):=by rw [at0_drop,Nat.add_zero]
 have hne : l.drop (j + 1) ≠ []:=by intro e; have:=congrArg List.length e; rw [List.length_drop,List.length_nil] at this; omega
 rw [if_neg (by simp),if_neg (by simp [hp]),if_neg (by rw [hc]; simp),h0,hc];have hb : ((92 : UInt8) == 92 && !false && decide (l.drop (j + 1) ≠ []) && at0 l (j + 1) != 10) = true:=by simp [hne,hd]
 rw [hb,drop_at l (j + 1) hj]
 conv => lhs; unfold strEnd
 rw [if_pos rfl]
theorem se_other (q : List UInt8) (raw : Bool) (l : List UInt8) (j k:Nat) (hj : j < l.length) (hp : q.isPrefixOf (l.drop j) = false) (h1 : ¬ (at0 l j = 10∧q.length = 1)) (h2 : ¬ (at0 l j = 92∧raw = false∧j + 1 < l.length∧at0 l (j + 1) ≠ 10)) :
  strEnd q raw (l.drop j) false k = strEnd q raw (l.drop (j + 1)) false (k + 1):=by
 rw [drop_at l j hj] at hp ⊢
 conv => lhs; unfold strEnd
 have h0 : at0 (l.drop (j + 1)) 0 = at0 l (j + 1):=by rw [at0_drop,Nat.add_zero]
 rw [if_neg (by simp),if_neg (by simp [hp]),if_neg h1,h0];have hb : (at0 l j == 92 && !raw && decide (l.drop (j + 1) ≠ []) && at0 l (j + 1) != 10) = false:=by
  cases hx : (at0 l j == 92 && !raw && decide (l.drop (j + 1) ≠ []) && at0 l (j + 1) != 10)
  ·rfl
  ·exfalso;simp only [Bool.and_eq_true,beq_iff_eq,Bool.not_eq_true',decide_eq_true_eq,bne_iff_ne] at hx;refine h2 ⟨hx.1.1.1,hx.1.1.2,?_,hx.2⟩;rcases Nat.lt_or_ge (j + 1) l.length with h | h
   ·exact h
   ·exact absurd (List.drop_of_length_le h) hx.1.2
 rw [hb]
def bol (l : List UInt8) (i:Nat) : Nat:=i - width l i
theorem width_zero (l : List UInt8) : width l 0 = 0:=by
 unfold width;rw [List.take_zero,tailNl_none [] (by simp)];rfl
theorem width_le (l : List UInt8) : ∀ i,width l i ≤ i
 | 0 => by rw [width_zero]; exact Nat.le_refl _
 | i + 1 => by have:=width_succ l i; have:=width_le l i; omega
theorem bol_add (l : List UInt8) (i:Nat) : bol l i + width l i = i:=by have:=width_le l i; unfold bol; omega
theorem bol_le (l : List UInt8) (i:Nat) : bol l i ≤ i:=by unfold bol; omega
theorem width_same (l : List UInt8) (i:Nat) (h : i < l.length) (hc : at0 l i ≠ 10) : width l (i + 1) = width l i + 1:=by
 unfold width;rw [at0_lt l i h] at hc;rw [List.take_succ_eq_append_getElem h,tailNl_more _ _ (by simpa using fun e => hc e.symm),List.length_append];simp
theorem bol_same (l : List UInt8) (i:Nat) (h : i < l.length) (hc : at0 l i ≠ 10) : bol l (i + 1) = bol l i:=by
 have:=width_same l i h hc;unfold bol;omega
theorem bol_nl (l : List UInt8) (i:Nat) (h : i < l.length) (hc : at0 l i = 10) : bol l (i + 1) = i + 1:=by
 have:=width_nl l i h hc;unfold bol;omega
theorem line_same (l : List UInt8) (i:Nat) (h : i < l.length) (hc : at0 l i ≠ 10) : lineAt l (i + 1) = lineAt l i:=by
 rw [at0_lt l i h] at hc;unfold lineAt;rw [List.take_succ_eq_append_getElem h,List.count_append];simp [hc]
theorem line_nl (l : List UInt8) (i:Nat) (h : i < l.length) (hc : at0 l i = 10) : lineAt l (i + 1) = lineAt l i + 1:=by
 rw [at0_lt l i h] at hc;unfold lineAt;rw [List.take_succ_eq_append_getElem h,List.count_append,hc];simp
theorem line_bound (l : List UInt8) (i:Nat) : 1 ≤ lineAt l i∧lineAt l i ≤ l.length + 1:=by
 unfold lineAt;have h1:=List.count_le_length (a:=(10 : UInt8)) (l:=l.take i);rw [List.length_take] at h1;omega
theorem same_line (l : List UInt8) (i:Nat) : ∀ n,i + n ≤ l.length → (∀ j,j < n → at0 l (i + j) ≠ 10) → lineAt l (i + n) = lineAt l i∧bol l (i + n) = bol l i
 | 0,_,_ => ⟨rfl,rfl⟩
 | n + 1,h,hn => by
  obtain ⟨h1,h2⟩:=same_line l i n (by omega) (fun j hj => hn j (by omega));have h3:=line_same l (i + n) (by omega) (hn n (by omega));have h4:=bol_same l (i + n) (by omega) (hn n (by omega));exact ⟨h3.trans h1,h4.trans h2⟩
theorem span_line (p : UInt8 → Bool) (hp : p 10 = false) (l : List UInt8) (i n:Nat) (hi : i ≤ l.length) (h : n ≤ span p (l.drop i)) : lineAt l (i + n) = lineAt l i∧bol l (i + n) = bol l i:=by
 have hle:=span_drop_le p l i hi;refine same_line l i n (by omega) (fun j hj e => ?_);have:=(span_spec p (l.drop i)).1 j (by omega);rw [at0_drop,e,hp] at this;simp at this
theorem line_text (l : List UInt8) (i:Nat) (h : i ≤ l.length) : (l.drop (bol l i)).take (i - bol l i) = tailNl (l.take i):=by
 have hb:=bol_add l i;have h1 : (l.drop (bol l i)).take (i - bol l i) = (l.take i).drop (bol l i):=by rw [List.drop_take]
 rw [h1];have h2 : (tailNl (l.take i)).length = width l i:=rfl;have h3 : ∃ k,tailNl (l.take i) = (l.take i).drop k:=⟨_,rfl⟩;obtain ⟨k,hk⟩:=h3;have hl : (l.take i).length = i:=by rw [List.length_take]; omega
 rw [hk,List.length_drop,hl] at h2;rcases Nat.lt_or_ge k i with hki | hki
 ·rw [hk,show bol l i = k by omega]
 ·rw [hk,List.drop_of_length_le (by omega),List.drop_of_length_le (by omega)]
theorem col_bound (l : List UInt8) (i:Nat) : 1 ≤ colAt l i∧colAt l i ≤ l.length + 1:=by
 unfold colAt;have h1:=rcl_le (tailNl (l.take i));have h2 : (tailNl (l.take i)).length ≤ (l.take i).length:=by unfold tailNl; rw [List.length_drop]; omega
 rw [List.length_take] at h2;omega
structure SInv (l : List UInt8) (s : Scn) : Prop where
 ne : s.ind ≠ []
 bd : ∀ y ∈ s.ind,y ≤ 16000
 le : s.at_ ≤ l.length
 cnt : s.ind.length + s.toks.length ≤ 3 * s.at_ + 1
 opn : s.op.length ≤ s.at_
theorem dedent_mem (n:Nat) : ∀ ind : List Nat,∀ y ∈ (dedent n ind).1,y ∈ ind
 | [],y,h => by simp [dedent] at h
 | x :: l,y,h => by
  unfold dedent at h;split at h
  ·exact List.mem_cons_of_mem _ (dedent_mem n l y h)
  ·exact h
theorem indent_inv {n : Nat} {ind ind' : List Nat} {ks : List Int} (h : indent n ind = some (ind',ks)) (hne : ind ≠ []) (hb : ∀ y ∈ ind,y ≤ 16000) (hn : n ≤ 16000) :
  ind' ≠ []∧(∀ y ∈ ind',y ≤ 16000)∧ind'.length + ks.length ≤ ind.length + 2:=by
 unfold indent at h;split at h
 ·injection h with h;injection h with h1 h2;subst h1 h2;refine ⟨by simp,fun y hy => ?_,by simp⟩;rcases List.mem_cons.1 hy with h | h
  ·omega
  ·exact hb y h
 ·split at h
  ·rename_i hc;injection h with h;injection h with h1 h2;subst h1 h2;obtain ⟨f1,f2,f3,f4⟩:=dedent_facts n ind;have hm : n ∈ ind:=(by simpa using hc);exact ⟨f4 hm,fun y hy => hb y (dedent_mem n ind y hy),by rw [List.length_replicate]; omega⟩
  ·simp at h
theorem bracket_len {op op' t : List UInt8} (h : bracket op t = some op') : op'.length ≤ op.length + 1:=by
 unfold bracket at h;split at h
 ·injection h with h;subst h;simp
 ·split at h
  ·split at h
   ·injection h with h;subst h;simp;omega
   ·simp at h
  ·split at h
   ·split at h
    ·injection h with h;subst h;simp;omega
    ·simp at h
   ·split at h
    ·split at h
     ·injection h with h;subst h;simp;omega
     ·simp at h
    ·injection h with h;subst h;omega
theorem lex_len {r : List UInt8} {k : Int} {n : Nat} (h : lexTok r = .ok (k,n)) : 0 < n∧n ≤ r.length:=⟨(lex_again r k n h).2.1.1,(lex_again r k n h).2.1.2.1⟩
theorem takeTok_inv {l : List UInt8} {i : Nat} {s s' : Scn} (hi : i ≤ l.length) (h : takeTok l i s = .more s') :
  i < s'.at_∧s'.at_ ≤ l.length∧s'.ind = s.ind∧s'.toks.length = s.toks.length + 1∧s'.op.length ≤ s.op.length + 1:=by
 unfold takeTok at h;split at h
 ·simp at h
 ·rename_i k n hl;have hn:=lex_len hl;rw [List.length_drop] at hn;split at h
  ·split at h
   ·simp at h
   ·rename_i op hop;injection h with h;subst h;exact ⟨by show i < i + n; omega,by show i + n ≤ _; omega,rfl,by simp,bracket_len hop⟩
  ·injection h with h;subst h;exact ⟨by show i < i + n; omega,by show i + n ≤ _; omega,rfl,by simp,by show s.op.length ≤ _; omega⟩
theorem skip_le (l : List UInt8) (i:Nat) (h : i ≤ l.length) : i + skipLen (l.drop i) ≤ l.length:=by
 have:=(skip_spec (l.drop i)).1;rw [List.length_drop] at this;omega
theorem step_inv {l : List UInt8} (hl : l.length ≤ 16000) {s s' : Scn} (hs : SInv l s) (h : stepS l s = .more s') : SInv l s'∧s.at_ < s'.at_:=by
 unfold stepS at h;have hle:=skip_le l s.at_ hs.le;obtain ⟨i,hi⟩ : ∃ i,s.at_ + skipLen (l.drop s.at_) = i:=⟨_,rfl⟩;rw [hi] at h hle;have h1:=hs.le;have h2:=hs.cnt;have h3:=hs.opn;have hai : s.at_ ≤ i:=by omega
 unfold stepB at h;split at h
 ·split at h <;> simp at h
 ·split at h
  ·split at h
   ·injection h with h;subst h;exact ⟨⟨hs.ne,hs.bd,by show i + 1 ≤ _; omega,by simp; omega,by show s.op.length ≤ i + 1; omega⟩,by show s.at_ < i + 1; omega⟩
   ·injection h with h;subst h;exact ⟨⟨hs.ne,hs.bd,by show i + 1 ≤ _; omega,by show s.ind.length + s.toks.length ≤ 3 * (i + 1) + 1; omega,by show s.op.length ≤ i + 1; omega⟩,by show s.at_ < i + 1; omega⟩
  ·split at h
   ·split at h
    ·simp at h
    ·rename_i ind ks hin;obtain ⟨t1,t2,t3,t4,t5⟩:=takeTok_inv hle h;obtain ⟨g1,g2,g3⟩:=indent_inv hin hs.ne hs.bd (by have:=width_le l i; omega);simp only [List.length_append,List.length_map] at t4;have t5' : s'.op.length ≤ s.op.length + 1:=t5;exact ⟨⟨by rw [t3]; exact g1,by rw [t3]; exact g2,t2,by rw [t3,t4]; show ind.length + _ ≤ _; omega,by omega⟩,by omega⟩
   ·obtain ⟨t1,t2,t3,t4,t5⟩:=takeTok_inv hle h;exact ⟨⟨by rw [t3]; exact hs.ne,by rw [t3]; exact hs.bd,t2,by rw [t3,t4]; omega,by omega⟩,by omega⟩
theorem scan_next {l : List UInt8} {f : Nat} {s s' : Scn} {R : Except (Int × Int) (List Tok)} (hs : s.at_ ≤ l.length) (hf : l.length < f + s.at_) (hR : scanF l f s = R) (h : stepS l s = .more s') (hlt : s.at_ < s'.at_) :
  ∃ f',l.length < f' + s'.at_∧scanF l f' s' = R:=by
 cases f with
 | zero => omega
 | succ f =>
  refine ⟨f,by omega,?_⟩;rw [← hR];exact (scanF_more h).symm
theorem scan_done {l : List UInt8} {f : Nat} {s : Scn} {t : List Tok} {R : Except (Int × Int) (List Tok)} (hs : s.at_ ≤ l.length) (hf : l.length < f + s.at_) (hR : scanF l f s = R) (h : stepS l s = .done t) : R = .ok t:=by
 cases f with
 | zero => omega
 | succ f => rw [← hR]; exact scanF_done h
theorem scan_fault {l : List UInt8} {f : Nat} {s : Scn} {c : Int} {i : Nat} {R : Except (Int × Int) (List Tok)} (hs : s.at_ ≤ l.length) (hf : l.length < f + s.at_) (hR : scanF l f s = R) (h : stepS l s = .fault c i) : R = .error (c,(i:Int)):=by
 cases f with
 | zero => omega
 | succ f =>
  rw [← hR];simp only [scanF,h]
theorem take_err {l : List UInt8} {i : Nat} {s : Scn} {c : Int} {k : Nat} (h : lexTok (l.drop i) = .error (c,k)) : takeTok l i s = .fault c (i + k):=by
 unfold takeTok;rw [h]
theorem take_ok {l : List UInt8} {i : Nat} {s : Scn} {k : Int} {n : Nat} (h : lexTok (l.drop i) = .ok (k,n)) (hk : k ≠ 8) : takeTok l i s = .more { s with at_:=i + n,toks:=s.toks ++ [tokAt l k ((l.drop i).take n) i] }:=by
 unfold takeTok;rw [h];simp only [if_neg hk]
theorem take_bad {l : List UInt8} {i : Nat} {s : Scn} {n : Nat} (h : lexTok (l.drop i) = .ok (8,n)) (hb : bracket s.op ((l.drop i).take n) = none) : takeTok l i s = .fault 1 i:=by
 unfold takeTok;rw [h];simp only [if_pos,hb]
theorem take_sign {l : List UInt8} {i : Nat} {s : Scn} {n : Nat} {op : List UInt8} (h : lexTok (l.drop i) = .ok (8,n)) (hb : bracket s.op ((l.drop i).take n) = some op) : takeTok l i s = .more { s with at_:=i + n,op:=op,toks:=s.toks ++ [tokAt l 8 ((l.drop i).take n) i] }:=by
 unfold takeTok;rw [h];simp only [if_pos,hb]
theorem lexName_kind {r : List UInt8} {k : Int} {n : Nat} (h : lexName r = .ok (k,n)) : k ≠ 8:=by
 unfold lexName at h;split at h
 ·simp at h
 ·injection h with h;injection h with h1 _;rw [← h1];split <;> decide
theorem numTail_kind {r : List UInt8} {k : Int} {n m : Nat} (h : numTail r m = .ok (k,n)) : k ≠ 8:=by
 unfold numTail at h;split at h
 ·simp at h
 ·split at h
  ·simp at h
  ·injection h with h;injection h with h1 _;rw [← h1];decide
theorem lexNum_kind {r : List UInt8} {k : Int} {n : Nat} (h : lexNum r = .ok (k,n)) : k ≠ 8:=by
 unfold lexNum at h;split at h
 ·split at h
  ·simp at h
  ·exact numTail_kind h
 ·exact numTail_kind h
theorem lexStr_kind {r : List UInt8} {p : Nat} {k : Int} {n : Nat} (h : lexStr p r = .ok (k,n)) : k ≠ 8:=by
 unfold lexStr at h;split at h
 ·simp at h
 ·injection h with h;injection h with h1 _;rw [← h1];decide
def Short (l : List UInt8) (ts : List Tok) : Prop:=∀ t ∈ ts,t.text.length ≤ l.length
theorem Short.app {l : List UInt8} {a b : List Tok} (ha : Short l a) (hb : Short l b) : Short l (a ++ b):=fun t ht => (List.mem_append.1 ht).elim (ha t) (hb t)
theorem Short.one {l : List UInt8} {k : Int} {t : List UInt8} {i : Nat} (h : t.length ≤ l.length) : Short l [tokAt l k t i]:=fun x hx => by
 rw [List.mem_singleton.1 hx];exact h
theorem Short.map {l : List UInt8} {i : Nat} (ks : List Int) : Short l (ks.map fun k => tokAt l k [] i):=fun x hx => by
 obtain ⟨k,_,rfl⟩:=List.mem_map.1 hx;exact Nat.zero_le _
theorem takeTok_nd {l : List UInt8} {i : Nat} {s : Scn} {t : List Tok} : takeTok l i s ≠ .done t:=takeTok_done
def StrT (l : List UInt8) (ts : List Tok) : Prop:=∀ t ∈ ts,t.kind = 7 → ∃ i n,t.text = (l.drop i).take n∧lexTok (l.drop i) = .ok (7,n)
theorem StrT.app {l : List UInt8} {a b : List Tok} (ha : StrT l a) (hb : StrT l b) : StrT l (a ++ b):=fun t ht => (List.mem_append.1 ht).elim (ha t) (hb t)
theorem StrT.one {l : List UInt8} {k : Int} {t : List UInt8} {i : Nat} (h : k ≠ 7) : StrT l [tokAt l k t i]:=fun x hx h7 => by
 rw [List.mem_singleton.1 hx] at h7;exact absurd h7 h
theorem StrT.lex {l : List UInt8} {k : Int} {n i : Nat} (h : lexTok (l.drop i) = .ok (k,n)) : StrT l [tokAt l k ((l.drop i).take n) i]:=fun x hx h7 => by
 rw [List.mem_singleton.1 hx] at h7 ⊢;have h7 : k = 7:=h7;subst h7;exact ⟨i,n,rfl,h⟩
theorem indent_kinds {n : Nat} {ind ind' : List Nat} {ks : List Int} (h : indent n ind = some (ind',ks)) : ∀ k ∈ ks,k ≠ 7:=by
 unfold indent at h;split at h
 ·injection h with h;injection h with _ h;subst h;simp
 ·split at h
  ·injection h with h;injection h with _ h;subst h;intro k hk;rw [(List.mem_replicate.1 hk).2];decide
  ·cases h
theorem StrT.map {l : List UInt8} {i : Nat} {ks : List Int} (h : ∀ k ∈ ks,k ≠ 7) : StrT l (ks.map fun k => tokAt l k [] i):=fun x hx h7 => by
 obtain ⟨k,hk,rfl⟩:=List.mem_map.1 hx;exact absurd h7 (h k hk)
theorem take_str {l : List UInt8} {i : Nat} {s s' : Scn} (hs : StrT l s.toks) (h : takeTok l i s = .more s') : StrT l s'.toks:=by
 unfold takeTok at h;split at h
 ·simp at h
 ·rename_i k n hk;split at h
  ·split at h
   ·simp at h
   ·injection h with h;subst h;exact hs.app (.one (by decide))
  ·injection h with h;subst h;exact hs.app (.lex hk)
theorem step_str {l : List UInt8} {s s' : Scn} (hs : StrT l s.toks) (h : stepS l s = .more s') : StrT l s'.toks:=by
 unfold stepS stepB at h;split at h
 ·split at h <;> simp at h
 ·split at h
  ·split at h
   ·injection h with h;subst h;exact hs.app (.one (by decide))
   ·injection h with h;subst h;exact hs
  ·split at h
   ·split at h
    ·simp at h
    ·rename_i hi;exact take_str (hs.app (StrT.map (indent_kinds hi))) h
   ·exact take_str hs h
theorem done_str {l : List UInt8} {s : Scn} {ts : List Tok} (hs : StrT l s.toks) (h : stepS l s = .done ts) : StrT l ts:=by
 unfold stepS stepB at h;split at h
 ·split at h
  ·simp at h
  ·injection h with h;subst h;unfold closing;refine ((hs.app ?_).app ?_).app (.one (by decide))
   ·split
    ·intro t ht; simp at ht
    ·exact .one (by decide)
   ·intro t ht h7;rw [(List.mem_replicate.1 ht).2] at h7;exact absurd h7 (show ¬ (3:Int) = 7 by decide)
 ·split at h
  ·split at h <;> simp at h
  ·split at h
   ·split at h
    ·simp at h
    ·exact absurd h takeTok_nd
   ·exact absurd h takeTok_nd
theorem scanF_str {l : List UInt8} : ∀ (f:Nat) (s : Scn) (ts : List Tok),StrT l s.toks → scanF l f s = .ok ts → StrT l ts
 | 0,s,ts,_,h => by simp [scanF] at h
 | f + 1,s,ts,hs,h => by
  unfold scanF at h;cases hst : stepS l s with
  | done t =>
   rw [hst] at h;injection h with h;subst h;exact done_str hs hst
  | fault c i =>
   rw [hst] at h;simp at h
  | more s' =>
   rw [hst] at h;exact scanF_str f s' ts (step_str hs hst) h
theorem scanT_str {l : List UInt8} {ts : List Tok} (h : scanT l = .ok ts) : StrT l ts:=by
 unfold scanT at h;split at h
 ·simp at h
 ·exact scanF_str _ _ _ (fun t ht => by simp at ht) h
theorem str_whole {l : List UInt8} {ts : List Tok} (h : scanT l = .ok ts) {t : Tok} (ht : t ∈ ts) (h7 : t.kind = 7) (hl : t.text.length = l.length) : t.text = l∧lexTok l = .ok (7,l.length):=by
 obtain ⟨i,n,h1,h2⟩:=scanT_str h t ht h7;have h3:=lex_len h2;rw [List.length_drop] at h3;rw [h1,List.length_take,List.length_drop] at hl;have hi : i = 0:=by omega
 subst hi;rw [List.drop_zero] at h1 h2;have hn : n = l.length:=by omega
 subst hn;exact ⟨by rw [h1,List.take_length],h2⟩
structure Sht where
 pre : UInt8
 quo : UInt8
 frm : Nat
 lim : Nat
def strP (l : List UInt8) : Nat:=if isQuo (at0 l 0) then 0 else 1
def shtOf (l : List UInt8) : Sht :=
 ⟨if isQuo (at0 l 0) then 0 else at0 l 0,at0 l (strP l),strP l + (quotes (l.drop (strP l))).length,l.length - (quotes (l.drop (strP l))).length⟩
def isStr (l : List UInt8) : Bool:=match scanT l with
 | .ok [t,_,_] => t.kind == 7 && t.text == l
 | _ => false
theorem isStr_lex {l : List UInt8} (h : isStr l = true) : lexTok l = .ok (7,l.length):=by
 unfold isStr at h;split at h
 ·rename_i t a b hs;rw [Bool.and_eq_true,beq_iff_eq,beq_iff_eq] at h;exact (str_whole hs (by simp) h.1 (by rw [h.2])).2
 ·cases h
def Gd (l : List UInt8) (i:Nat) : Prop:=strEnd (quotes (l.drop (strP l))) (decide (0 < strP l) && at0 l 0 == 114) (l.drop i) false i = .ok l.length
theorem strEnd_room (q : List UInt8) (raw : Bool) : ∀ (r : List UInt8) (esc : Bool) (k m:Nat),strEnd q raw r esc k = .ok m → k + q.length ≤ m
 | [],esc,k,m,h => by simp [strEnd] at h
 | c :: r,esc,k,m,h => by
  unfold strEnd at h;split at h
  ·have:=strEnd_room q raw r _ _ m h; omega
  ·split at h
   ·injection h with h; omega
   ·split at h
    ·simp at h
    ·have:=strEnd_room q raw r _ _ m h; omega
theorem lexStr_ok {p n : Nat} {k : Int} {r : List UInt8} (h : lexStr p r = .ok (k,n)) :
  strEnd (quotes (r.drop p)) (decide (0 < p) && at0 r 0 == 114) (r.drop (p + (quotes (r.drop p)).length)) false (p + (quotes (r.drop p)).length) = .ok n:=by
 unfold lexStr at h;split at h
 ·simp at h
 ·rename_i m hm;injection h with h;injection h with _ h;subst h;exact hm
theorem lexName_not7 {r : List UInt8} {k : Int} {n : Nat} (h : lexName r = .ok (k,n)) : k ≠ 7:=by
 unfold lexName at h;split at h
 ·cases h
 ·injection h with h;injection h with h _;subst h;split <;> decide
theorem numTail_not7 {r : List UInt8} {k : Int} {n m : Nat} (h : numTail r m = .ok (k,n)) : k ≠ 7:=by
 unfold numTail at h;split at h
 ·cases h
 ·split at h
  ·cases h
  ·injection h with h;injection h with h _;subst h;decide
theorem lexNum_not7 {r : List UInt8} {k : Int} {n : Nat} (h : lexNum r = .ok (k,n)) : k ≠ 7:=by
 unfold lexNum at h;split at h
 ·split at h
  ·cases h
  ·exact numTail_not7 h
 ·exact numTail_not7 h
theorem lexSign_not7 {r : List UInt8} {k : Int} {n : Nat} (h : lexSign r = .ok (k,n)) : k ≠ 7:=by
 unfold lexSign at h;split at h
 ·cases h
 ·injection h with h;injection h with h _;subst h;decide
structure Strg (l : List UInt8) : Prop where
 quo : isQuo (shtOf l).quo = true
 pre : (shtOf l).pre = 0∨isPre (shtOf l).pre = true
 p : strP l = if isQuo (at0 l 0) then 0 else 1
 q0 : 0 < (quotes (l.drop (strP l))).length
 q3 : (quotes (l.drop (strP l))).length ≤ 3
 le : (shtOf l).frm + (quotes (l.drop (strP l))).length ≤ l.length
 gd : Gd l (shtOf l).frm
theorem strg_of {l : List UInt8} (h : isStr l = true) : Strg l:=by
 have hx:=isStr_lex h;have hp : isQuo (at0 l 0) = true∧lexStr 0 l = .ok (7,l.length)∨isQuo (at0 l 0) = false∧isPre (at0 l 0) = true∧isQuo (at0 l 1) = true∧lexStr 1 l = .ok (7,l.length):=by
  unfold lexTok at hx;split at hx
  ·rename_i h0;exact .inl ⟨h0,hx⟩
  ·rename_i h0;split at hx
   ·rename_i h1;rw [Bool.and_eq_true] at h1;exact .inr ⟨by simpa using h0,h1.1,h1.2,hx⟩
   ·exfalso;split at hx
    ·exact lexName_not7 hx rfl
    ·split at hx
     ·exact lexNum_not7 hx rfl
     ·exact lexSign_not7 hx rfl
 have hlen : ∀ r : List UInt8,isQuo (at0 r 0) = true → 0 < (quotes r).length∧(quotes r).length ≤ 3:=fun r hr => by
  have hne : r ≠ []:=(by rintro rfl; simp [at0,isQuo] at hr);have:=quotes_len r hne;exact ⟨this.1,this.2.1⟩
 rcases hp with ⟨h0,h1⟩ | ⟨h0,h1,h2,h3⟩
 ·have hp : strP l = 0:=(by unfold strP; rw [if_pos h0]);have hq:=lexStr_ok h1;have hl:=hlen (l.drop 0) (by rw [List.drop_zero]; exact h0);refine ⟨by unfold shtOf; simp only; rw [hp]; exact h0,.inl (by unfold shtOf; simp only; rw [if_pos h0]),rfl,by rw [hp]; exact hl.1,by rw [hp]; exact hl.2,?_,?_⟩
  ·have:=strEnd_room _ _ _ _ _ _ hq;unfold shtOf;simp only;rw [hp];exact this
  ·unfold Gd shtOf;simp only;rw [hp];exact hq
 ·have hp : strP l = 1:=(by unfold strP; rw [if_neg (by rw [h0]; decide)]);have hq:=lexStr_ok h3;have hl:=hlen (l.drop 1) (by rw [at0_drop]; exact h2);refine ⟨by unfold shtOf; simp only; rw [hp]; exact h2,.inr (by unfold shtOf; simp only; rw [if_neg (by rw [h0]; decide)]; exact h1),rfl,by rw [hp]; exact hl.1,by rw [hp]; exact hl.2,?_,?_⟩
  ·have:=strEnd_room _ _ _ _ _ _ hq;unfold shtOf;simp only;rw [hp];exact this
  ·unfold Gd shtOf;simp only;rw [hp];exact hq
def rawL (l : List UInt8) : Bool:=decide (0 < strP l) && at0 l 0 == 114
theorem rawL_pre {l : List UInt8} (hs : Strg l) : rawL l = ((shtOf l).pre == 114):=by
 unfold rawL shtOf strP;simp only;split <;> simp
theorem quo_head {l : List UInt8} (hs : Strg l) {i : Nat} (h : (quotes (l.drop (strP l))).isPrefixOf (l.drop i) = true) : isQuo (at0 l i) = true:=by
 have h1:=hs.quo;unfold shtOf at h1;simp only at h1;obtain ⟨t,ht⟩:=List.isPrefixOf_iff_prefix.1 h;have h2 : at0 l i = at0 (quotes (l.drop (strP l))) 0:=by
  rw [← Nat.add_zero i,← at0_drop,← ht];have:=hs.q0;rcases hq : quotes (l.drop (strP l)) with _ | ⟨a,b⟩
  ·rw [hq] at this; simp at this
  ·rfl
 rw [h2];unfold quotes;split
 ·decide
 ·rw [← Nat.add_zero (strP l),← at0_drop] at h1;rcases hd : l.drop (strP l) with _ | ⟨a,b⟩
  ·rw [hd] at h1; exact absurd h1 (by decide)
  ·rw [hd] at h1; exact h1
theorem Gd.le {l : List UInt8} {i : Nat} (h : Gd l i) : i ≤ (shtOf l).lim:=by
 have:=strEnd_room _ _ _ _ _ _ h;unfold shtOf;simp only;omega
theorem lim_lt {l : List UInt8} (hs : Strg l) : (shtOf l).lim < l.length∧(shtOf l).frm ≤ (shtOf l).lim∧(shtOf l).lim + (quotes (l.drop (strP l))).length = l.length:=by
 have h1:=hs.le;have h2:=hs.q0;have h3 : (shtOf l).lim = l.length - (quotes (l.drop (strP l))).length:=rfl;omega
theorem Gd.not_pre {l : List UInt8} (hs : Strg l) {i : Nat} (h : Gd l i) (hi : i < (shtOf l).lim) : (quotes (l.drop (strP l))).isPrefixOf (l.drop i) = false:=by
 cases hp : (quotes (l.drop (strP l))).isPrefixOf (l.drop i)
 ·rfl
 ·have h1:=h;unfold Gd at h1;rw [se_pre _ _ hs.q0 l i i hp] at h1;injection h1 with h1;have:=lim_lt hs;omega
theorem Gd.not_nl {l : List UInt8} (hs : Strg l) {i : Nat} (h : Gd l i) (hi : i < (shtOf l).lim) : ¬ (at0 l i = 10∧(quotes (l.drop (strP l))).length = 1):=by
 rintro ⟨h1,h2⟩;have h3:=h;unfold Gd at h3;rw [se_nl _ _ l i i (by have:=lim_lt hs; omega) (h.not_pre hs hi) h1 h2] at h3;cases h3
theorem Gd.next {l : List UInt8} (hs : Strg l) {i : Nat} (h : Gd l i) (hi : i < (shtOf l).lim) (hn : ¬ (at0 l i = 92∧(shtOf l).pre ≠ 114∧at0 l (i + 1) ≠ 10)) : Gd l (i + 1):=by
 have h3:=h;unfold Gd at h3;rw [se_other _ _ l i i (by have:=lim_lt hs; omega) (h.not_pre hs hi) (h.not_nl hs hi) (by
  rintro ⟨h4,h5,_,h6⟩;refine hn ⟨h4,fun e => ?_,h6⟩;have h7:=rawL_pre hs;rw [e] at h7;unfold rawL at h7;rw [h5] at h7;exact absurd h7 (by decide))] at h3
 exact h3
theorem Gd.esc {l : List UInt8} (hs : Strg l) {i : Nat} (h : Gd l i) (hi : i < (shtOf l).lim) (hc : at0 l i = 92) (hr : (shtOf l).pre ≠ 114) : i + 1 < (shtOf l).lim∧(at0 l (i + 1) ≠ 10 → Gd l (i + 2)):=by
 have hl:=lim_lt hs;have hraw : (decide (0 < strP l) && at0 l 0 == 114) = false:=by
  have h7:=rawL_pre hs;unfold rawL at h7;rw [h7];simpa using hr
 have h2 : at0 l (i + 1) ≠ 10 → Gd l (i + 2):=fun h10 => by
  have h3:=h;unfold Gd at h3 ⊢;rw [hraw] at h3 ⊢;rw [se_esc _ l i i (h.not_pre hs hi) hc (by omega) h10] at h3;exact h3
 by_cases h10 : at0 l (i + 1) = 10
 ·refine ⟨?_,h2⟩;have h4:=h.next hs hi (fun e => e.2.2 h10);have h5:=h4.le;rcases Nat.lt_or_ge (i + 1) (shtOf l).lim with h6 | h6
  ·exact h6
  ·exfalso;have h7 : i + 1 = (shtOf l).lim:=(by omega);have hp : (quotes (l.drop (strP l))).isPrefixOf (l.drop (i + 1)) = false:=by
    cases hp : (quotes (l.drop (strP l))).isPrefixOf (l.drop (i + 1))
    ·rfl
    ·have:=quo_head hs hp;rw [h10] at this;exact absurd this (by decide)
   by_cases hq : (quotes (l.drop (strP l))).length = 1
   ·unfold Gd at h4;rw [se_nl _ _ l (i + 1) (i + 1) (by omega) hp h10 hq] at h4;cases h4
   ·have h8 : Gd l (i + 1 + 1):=by
     unfold Gd at h4 ⊢;rw [se_other _ _ l (i + 1) (i + 1) (by omega) hp (fun e => hq e.2) (fun e => by rw [h10] at e; exact absurd e.1 (by decide))] at h4;exact h4
    have:=h8.le;omega
 ·have h4:=(h2 h10).le;exact ⟨by omega,h2⟩
theorem Gd.run {l : List UInt8} (hs : Strg l) {i : Nat} : ∀ n,Gd l i → (∀ j,j < n → at0 l (i + j) ≠ 92∧isQuo (at0 l (i + j)) = false) → i + n ≤ l.length → Gd l (i + n)∧i + n ≤ (shtOf l).lim
 | 0,h,_,_ => ⟨h,h.le⟩
 | n + 1,h,hb,hl => by
  obtain ⟨h1,h2⟩:=Gd.run hs n h (fun j hj => hb j (by omega)) (by omega);have hlt : i + n < (shtOf l).lim:=by
   rcases Nat.lt_or_ge (i + n) (shtOf l).lim with h3 | h3
   ·exact h3
   ·exfalso;have h4 : i + n = (shtOf l).lim:=(by omega);have h5:=hb n (by omega);have h6:=h1;have hp : (quotes (l.drop (strP l))).isPrefixOf (l.drop (i + n)) = false:=by
     cases hp : (quotes (l.drop (strP l))).isPrefixOf (l.drop (i + n))
     ·rfl
     ·have:=quo_head hs hp;rw [h5.2] at this;cases this
    have hlen:=lim_lt hs
    by_cases hq : at0 l (i + n) = 10∧(quotes (l.drop (strP l))).length = 1
    ·unfold Gd at h6;rw [se_nl _ _ l (i + n) (i + n) (by omega) hp hq.1 hq.2] at h6;cases h6
    ·have h8 : Gd l (i + n + 1):=by
      unfold Gd at h6 ⊢;rw [se_other _ _ l (i + n) (i + n) (by omega) hp hq (fun e => h5.1 e.1)] at h6;exact h6
     have:=h8.le;omega
  have h3:=h1.next hs hlt (fun e => (hb n (by omega)).1 e.1);exact ⟨h3,h3.le⟩
end
end Go.Proofs.YtonehlkiackhcaaGreatDoor