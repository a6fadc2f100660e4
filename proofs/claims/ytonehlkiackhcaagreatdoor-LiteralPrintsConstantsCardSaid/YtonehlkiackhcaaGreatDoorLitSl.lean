/- The literals: the first look of the law of printed constants comes out well. Nothing is claimed here. -/
import Derived.Test.YtonehlkiackhcaaGreatDoorLitVb
set_option linter.unusedVariables false
set_option linter.unusedSimpArgs false
set_option maxRecDepth 100000
set_option maxHeartbeats 16000000
namespace Go.Proofs.YtonehlkiackhcaaGreatDoor
section
open Go.RowKit Go.Lib Go.Sort
theorem chr_rune {r : Nat} (h : RuneOk r) (h32 : 32 ≤ r) : Chr (runeB r):=by
 have hl:=runeB_len r;have hd:=h.dec [];rw [List.append_nil] at hd;have hne : runeB r ≠ []:=by intro e; rw [e] at hl; simp at hl
 have hb : badL (runeB r) = false:=by
  unfold badL;rw [hd];simp only;rw [decide_eq_false (by omega),Bool.false_and,Bool.false_or]
  by_cases h2 : r = 65533
  ·subst h2;decide
  ·simp [h2]
 have hc:=(chr_of (runeB r) hne hb).1;rw [hd] at hc;simpa using hc
theorem txt_asc : ∀ l : List UInt8,(∀ x ∈ l,32 ≤ x.toNat∧x.toNat < 128) → Txt l
 | [],_ => Txt.nil
 | x :: l,h => by
  have hx:=h x (by simp);exact (Chr.asc x hx.2 (.inl hx.1)).txt.append (txt_asc l fun y hy => h y (by simp [hy]))
structure QOk (hid : Nat → Bool) (r:Nat) : Prop where
 ok : r = 39∨hid r = false → RuneOk r
 hi : hid r = true → r < 256
 lo : hid r = false → 32 ≤ r
theorem charQ_case {hid : Nat → Bool} {r : Nat} (h : QOk hid r) :
  (∃ x : UInt8,charQ 34 hid r = [92,x]∧(x = 110∧r = 10∨x = 116∧r = 9∨x = 92∧r = 92∨x = 34∧r = 34)) ∨
  (charQ 34 hid r = [92,120,hexC (r / 16),hexC (r % 16)]∧r < 256) ∨
  (charQ 34 hid r = runeB r∧32 ≤ r∧r ≠ 34∧r ≠ 92∧(r = 39∨hid r = false)):=by
 unfold charQ
 by_cases h39 : r = 39
 ·subst h39;exact .inr (.inr ⟨by simp,by decide,by decide,by decide,.inl rfl⟩)
 ·rw [if_neg (by rintro (⟨_,e⟩ | ⟨e,_⟩); exact e rfl; exact h39 e)]
  by_cases h10 : r = 10
  ·exact .inl ⟨110,by rw [if_pos h10],.inl ⟨rfl,h10⟩⟩
  ·rw [if_neg h10]
   by_cases h9 : r = 9
   ·exact .inl ⟨116,by rw [if_pos h9],.inr (.inl ⟨rfl,h9⟩)⟩
   ·rw [if_neg h9]
    by_cases h92 : r = 92
    ·exact .inl ⟨92,by rw [if_pos h92],.inr (.inr (.inl ⟨rfl,h92⟩))⟩
    ·rw [if_neg h92]
     by_cases h34 : r = 34
     ·exact .inl ⟨34,by rw [if_pos h34],.inr (.inr (.inr ⟨rfl,h34⟩))⟩
     ·rw [if_neg h34,if_neg h39];cases hh : hid r
      ·exact .inr (.inr ⟨by simp,h.lo hh,h34,h92,.inr rfl⟩)
      ·exact .inr (.inl ⟨by simp,h.hi hh⟩)
theorem hexC_byte : ∀ i : Fin 16,32 ≤ (hexC i.val).toNat∧(hexC i.val).toNat < 128∧hexC i.val ≠ 34∧hexC i.val ≠ 10∧hexC i.val ≠ 92:=by decide
theorem rune_plain {r : Nat} (h : RuneOk r) (h1 : 32 ≤ r) (h2 : r ≠ 34) (h3 : r ≠ 92) : ∀ c ∈ runeB r,c ≠ 34∧c ≠ 10∧c ≠ 92:=by
 intro c hc
 by_cases h4 : r < 128
 ·rw [h.asc h4,List.mem_singleton] at hc;have e : c.toNat = r:=(by rw [hc]; simp; omega);refine ⟨?_,?_,?_⟩ <;> (rintro rfl; simp at e; omega)
 ·have:=h.hi (by omega) c hc;refine ⟨?_,?_,?_⟩ <;> (rintro rfl; simp at this)
theorem charQ_txt {hid : Nat → Bool} {r : Nat} (h : QOk hid r) : Txt (charQ 34 hid r):=by
 rcases charQ_case h with ⟨x,e,hx⟩ | ⟨e,h2⟩ | ⟨e,h2,_,_,h5⟩
 ·rw [e];refine txt_asc _ fun y hy => ?_;simp only [List.mem_cons,List.mem_nil_iff,or_false] at hy;rcases hx with ⟨rfl,_⟩ | ⟨rfl,_⟩ | ⟨rfl,_⟩ | ⟨rfl,_⟩ <;> rcases hy with rfl | rfl <;> decide
 ·rw [e];have l1:=hexC_byte ⟨r / 16,by omega⟩;have l2:=hexC_byte ⟨r % 16,by omega⟩;simp only at l1 l2;refine txt_asc _ fun y hy => ?_;simp only [List.mem_cons,List.mem_nil_iff,or_false] at hy;rcases hy with rfl | rfl | rfl | rfl
  ·decide
  ·decide
  ·exact ⟨l1.1,l1.2.1⟩
  ·exact ⟨l2.1,l2.2.1⟩
 ·rw [e];exact (chr_rune (h.ok h5) h2).txt
theorem body_txt {hid : Nat → Bool} : ∀ rs : List Nat,(∀ r ∈ rs,QOk hid r) → Txt (rs.flatMap (charQ 34 hid))
 | [],_ => Txt.nil
 | r :: rs,h => by
  rw [List.flatMap_cons];exact (charQ_txt (h r (by simp))).append (body_txt rs fun q hq => h q (by simp [hq]))
theorem se_plain : ∀ (a r : List UInt8) (k:Nat),(∀ c ∈ a,c ≠ 34∧c ≠ 10∧c ≠ 92) → strEnd [34] false (a ++ r) false k = strEnd [34] false r false (k + a.length)
 | [],r,k,_ => by simp
 | c :: a,r,k,h => by
  obtain ⟨h1,h2,h3⟩:=h c (by simp);have h4 : ([34] : List UInt8).isPrefixOf (c :: (a ++ r)) = false:=by
   simp only [List.isPrefixOf,Bool.and_true];simpa using fun e => h1 e.symm
  have h5 : (c == 92) = false:=(by simpa using h3);rw [List.cons_append,strEnd,h4,h5,if_neg (by decide),if_neg (by decide),if_neg (fun e => h2 e.1)];simp only [Bool.false_and];rw [se_plain a r (k + 1) (fun d hd => h d (by simp [hd])),List.length_cons]
  congr 1
  omega
theorem se_pair (x : UInt8) (r : List UInt8) (k:Nat) (hx : x ≠ 10) : strEnd [34] false (92 :: x :: r) false k = strEnd [34] false r false (k + 2):=by
 have h5 : at0 (x :: r) 0 = x:=rfl;have h6 : (x != 10) = true:=by simpa using hx
 rw [strEnd,if_neg (by decide),if_neg (by simp [List.isPrefixOf]),if_neg (fun e => absurd e.1 (by decide)),h5,h6];simp only [beq_self_eq_true,Bool.not_false,Bool.and_true,Bool.true_and,ne_eq,reduceCtorEq,not_false_eq_true,decide_true];rw [strEnd,if_pos rfl]
theorem se_char {hid : Nat → Bool} {r : Nat} (h : QOk hid r) (rest : List UInt8) (k:Nat) : strEnd [34] false (charQ 34 hid r ++ rest) false k = strEnd [34] false rest false (k + (charQ 34 hid r).length):=by
 rcases charQ_case h with ⟨x,e,hx⟩ | ⟨e,h2⟩ | ⟨e,h2,h3,h4,h5⟩
 ·rw [e];exact se_pair x rest k (by rcases hx with ⟨rfl,_⟩ | ⟨rfl,_⟩ | ⟨rfl,_⟩ | ⟨rfl,_⟩ <;> decide)
 ·rw [e];have l1:=hexC_byte ⟨r / 16,by omega⟩;have l2:=hexC_byte ⟨r % 16,by omega⟩;simp only at l1 l2;have h:=se_pair 120 ([hexC (r / 16),hexC (r % 16)] ++ rest) k (by decide);rw [se_plain _ _ _ (fun c hc => by
   simp only [List.mem_cons,List.mem_nil_iff,or_false] at hc;rcases hc with rfl | rfl
   ·exact l1.2.2
   ·exact l2.2.2)] at h
  exact h
 ·rw [e];exact se_plain _ _ _ (rune_plain (h.ok h5) h2 h3 h4)
theorem se_body {hid : Nat → Bool} : ∀ (rs : List Nat) (k:Nat),(∀ r ∈ rs,QOk hid r) → strEnd [34] false (rs.flatMap (charQ 34 hid) ++ [34]) false k = .ok (k + (rs.flatMap (charQ 34 hid)).length + 1)
 | [],k,_ => by
  show strEnd [34] false [34] false k = _;rw [strEnd,if_neg (by decide),if_pos (by decide)];rfl
 | r :: rs,k,h => by
  rw [List.flatMap_cons,List.append_assoc,se_char (h r (by simp)),se_body rs _ fun q hq => h q (by simp [hq]),List.length_append]
  congr 1
  omega
theorem charQ_head {hid : Nat → Bool} {r : Nat} (h : QOk hid r) : ∃ c a,charQ 34 hid r = c :: a∧c ≠ 34:=by
 rcases charQ_case h with ⟨x,e,hx⟩ | ⟨e,h2⟩ | ⟨e,h2,h3,h4,h5⟩
 ·exact ⟨_,_,e,by decide⟩
 ·exact ⟨_,_,e,by decide⟩
 ·have hl:=runeB_len r;rcases hr : runeB r with _ | ⟨c,a⟩
  ·rw [hr] at hl; simp at hl
  ·rw [hr] at e;exact ⟨c,a,e,(rune_plain (h.ok h5) h2 h3 h4 c (by rw [hr]; simp)).1⟩
theorem quotes_body {hid : Nat → Bool} (rs : List Nat) (h : ∀ r ∈ rs,QOk hid r) : quotes (34 :: (rs.flatMap (charQ 34 hid) ++ [34])) = [34]:=by
 unfold quotes;rw [if_neg,List.take_succ_cons,List.take_zero];rcases rs with _ | ⟨r,rs⟩
 ·simp
 ·obtain ⟨c,a,e,hc⟩:=charQ_head (h r (by simp));rw [List.flatMap_cons,e];intro e2;simp only [List.cons_append,List.take_succ_cons,List.cons.injEq] at e2;exact hc e2.2.1
theorem lex_body {hid : Nat → Bool} (rs : List Nat) (h : ∀ r ∈ rs,QOk hid r) : lexTok (34 :: (rs.flatMap (charQ 34 hid) ++ [34])) = .ok (7,(34 :: (rs.flatMap (charQ 34 hid) ++ [34])).length)∧lexTok (98 :: 34 :: (rs.flatMap (charQ 34 hid) ++ [34])) = .ok (7,(98 :: 34 :: (rs.flatMap (charQ 34 hid) ++ [34])).length):=by
 have hq:=quotes_body rs h;constructor
 ·unfold lexTok;rw [if_pos (show isQuo (at0 (34 :: (rs.flatMap (charQ 34 hid) ++ [34])) 0) = true from rfl)];unfold lexStr;rw [List.drop_zero,hq];show (match strEnd [34] false (rs.flatMap (charQ 34 hid) ++ [34]) false 1 with | .error e => (.error e : Lex) | .ok n => .ok (7,n)) = _;rw [se_body rs 1 h];simp only [List.length_cons,List.length_append,List.length_nil]
  congr 2
  omega
 ·unfold lexTok;rw [if_neg (show ¬ isQuo (at0 (98 :: 34 :: (rs.flatMap (charQ 34 hid) ++ [34])) 0) = true by show ¬ isQuo 98 = true; decide),if_pos (show (isPre (at0 (98 :: 34 :: (rs.flatMap (charQ 34 hid) ++ [34])) 0) && isQuo (at0 (98 :: 34 :: (rs.flatMap (charQ 34 hid) ++ [34])) 1)) = true from rfl)];unfold lexStr;rw [show (98 :: 34 :: (rs.flatMap (charQ 34 hid) ++ [34]) : List UInt8).drop 1 = 34 :: (rs.flatMap (charQ 34 hid) ++ [34]) from rfl,hq];show (match strEnd [34] false (rs.flatMap (charQ 34 hid) ++ [34]) false 2 with | .error e => (.error e : Lex) | .ok n => .ok (7,n)) = _;rw [se_body rs 2 h];simp only [List.length_cons,List.length_append,List.length_nil]
  congr 2
  omega
theorem str_is (l : List UInt8) (hx : lexTok l = .ok (7,l.length)) (ht : Txt l) (hl : l.length ≤ 16000) (h0 : at0 l 0 = 34∨at0 l 0 = 98) : isStr l = true:=by
 have hs : sfault l = (0,0):=by obtain ⟨cs,rfl,hc⟩:=ht; exact sfault_chars cs hc hl
 have hn : ¬ at0 l 0 = 10∧¬ at0 l 0 = 32∧¬ at0 l 0 = 35:=by rcases h0 with h | h <;> rw [h] <;> decide
 have hpos : 0 < l.length:=by
  rcases l with _ | ⟨c,l⟩
  ·rcases h0 with h | h <;> exact absurd h (by decide)
  ·simp
 have h1 : stepS l ⟨0,[0],[],[],true⟩ = .more ⟨l.length,[0],[],[tokAt l 7 l 0],false⟩:=by
  rw [step_at (i:=0) (by simp [skip_none _ hn.2.1 hn.2.2])];unfold stepB;rw [if_neg (by omega),if_neg hn.1,if_pos rfl,width_zero];show takeTok l 0 ⟨0,[0],[],[],false⟩ = _;unfold takeTok;rw [List.drop_zero,hx];simp only;rw [if_neg (by decide)];simp
 have h2 : stepS l ⟨l.length,[0],[],[tokAt l 7 l 0],false⟩ = .done [tokAt l 7 l 0,tokAt l 1 [] l.length,tokAt l 0 [] l.length]:=by
  rw [step_at (i:=l.length) (by simp [skipLen,span_nil,at0])];unfold stepB;rw [if_pos (Nat.le_refl _),if_neg (by simp)];rfl
 obtain ⟨m,hm⟩ : ∃ m,l.length = m + 1:=⟨l.length - 1,by omega⟩;have h3 : scanT l = .ok [tokAt l 7 l 0,tokAt l 1 [] l.length,tokAt l 0 [] l.length]:=by
  unfold scanT;rw [hs,if_neg (by decide),scanF_more h1,hm,← hm,show scanF l l.length = scanF l (m + 1) from by rw [hm],scanF_done h2]
 unfold isStr;rw [h3];simp [tokAt]
theorem decode_ascii {c : UInt8} (h : c.toNat < 128) (t : List UInt8) : decodeL (c :: t) = (c.toNat,1):=by
 have hb : bAt (c :: t) 0 = c.toNat:=bAt_zero c t;rcases decodeL_head (c :: t) (by simp) with ⟨_,h2⟩ | ⟨_,h1,_,_,h2⟩
 ·rw [h2,hb]
 ·have:=h2 0 (by omega);omega
theorem hex_pair : ∀ a b : Fin 16,hexS [hexC a.val,hexC b.val] = some (a.val * 16 + b.val):=by decide
theorem charS_q {l : List UInt8} {x : Sht} {i r : Nat} {hid : Nat → Bool} {rest : List UInt8} (h : QOk hid r) (hpre : x.pre = 0∨x.pre = 98) (hd : l.drop i = charQ 34 hid r ++ rest) (hr : rest ≠ []) (hlim : x.lim + 1 = l.length) (hb : x.pre = 98 → r = 39∨hid r = false → r < 128) :
  charS l x i = .ok (r,i + (charQ 34 hid r).length):=by
 have hpn : ¬ x.pre = 114:=by rcases hpre with h | h <;> rw [h] <;> decide
 have hrl:=List.length_pos_iff.2 hr;have hlen : l.length = i + (charQ 34 hid r).length + rest.length:=by
  have h1:=congrArg List.length hd;rw [List.length_drop,List.length_append] at h1;have h2 : 0 < (charQ 34 hid r).length:=(by obtain ⟨c,a,e,_⟩:=charQ_head h; rw [e]; simp);omega
 have hat : ∀ k,at0 l (i + k) = at0 (charQ 34 hid r ++ rest) k:=fun k => by rw [← hd,at0_drop]
 unfold charS;rw [hd];rcases charQ_case h with ⟨y,e,hx⟩ | ⟨e,h2⟩ | ⟨e,h2,h3,h4,h5⟩
 ·rw [e] at hat hlen ⊢;have a0 : at0 l i = 92:=hat 0;have a1 : at0 l (i + 1) = y:=hat 1;rw [List.cons_append,decode_ascii (by decide),if_neg (by rintro ⟨_,h⟩; exact absurd h (by decide)),if_neg (by rintro (h | h); exact h a0; exact hpn h)];unfold escS;rw [a1];rcases hx with ⟨rfl,rfl⟩ | ⟨rfl,rfl⟩ | ⟨rfl,rfl⟩ | ⟨rfl,rfl⟩ <;> simp
 ·rw [e] at hat hlen ⊢;have a0 : at0 l i = 92:=hat 0;have a1 : at0 l (i + 1) = 120:=hat 1;rw [List.cons_append,decode_ascii (by decide),if_neg (by rintro ⟨_,h⟩; exact absurd h (by decide)),if_neg (by rintro (h | h); exact h a0; exact hpn h)];have hc : cutL l (i + 2) (i + 4) = [hexC (r / 16),hexC (r % 16)]:=by
   unfold cutL;rw [show i + 4 - (i + 2) = 2 by omega,← List.drop_drop,hd,e];rfl
  have hp:=hex_pair ⟨r / 16,by omega⟩ ⟨r % 16,by omega⟩;simp only at hp;have h4 : i + 4 ≤ x.lim:=(by simp only [List.length_cons,List.length_nil] at hlen; omega);unfold escS;rw [a1,hc,hp,if_neg (by decide),if_neg (by decide),if_neg (by decide),if_neg (by decide),if_neg (by decide),if_pos rfl,if_pos h4];simp;omega
 ·rw [e] at hat hlen ⊢;rw [(h.ok h5).dec];have a0 : at0 l i ≠ 92:=by
   have h6:=hat 0;rw [Nat.add_zero] at h6;rw [h6];have hl:=runeB_len r;rcases hr : runeB r with _ | ⟨c,a⟩
   ·rw [hr] at hl; simp at hl
   ·exact (rune_plain (h.ok h5) h2 h3 h4 c (by rw [hr]; simp)).2.2
  rw [if_neg (by rintro ⟨h6,h7⟩; have:=hb h6 h5; simp only at h7; omega),if_pos (.inl a0)]
theorem strF_body {l : List UInt8} {x : Sht} {hid : Nat → Bool} (hpre : x.pre = 0∨x.pre = 98) (hlim : x.lim + 1 = l.length) :
  ∀ (rs : List Nat) (i f:Nat) (out : List UInt8),(∀ r ∈ rs,QOk hid r) → (x.pre = 98 → ∀ r ∈ rs,r = 39∨hid r = false → r < 128) → l.drop i = rs.flatMap (charQ 34 hid) ++ [34] → rs.length < f → strF l x f i out = .ok (out ++ rs.flatMap (pushB x.pre))
 | [],i,0,out,_,_,_,hf => by simp at hf
 | [],i,f + 1,out,_,_,hd,_ => by
  have h1:=congrArg List.length hd;rw [List.length_drop] at h1;simp only [List.flatMap_nil,List.nil_append,List.length_cons,List.length_nil] at h1;rw [strF,if_pos (by omega)];simp
 | r :: rs,i,0,out,_,_,_,hf => by simp at hf
 | r :: rs,i,f + 1,out,h,hb,hd,hf => by
  rw [List.flatMap_cons,List.append_assoc] at hd;have hc:=charS_q (h r (by simp)) hpre hd (by simp) hlim (fun e => hb e r (by simp));have h1:=congrArg List.length hd;rw [List.length_drop,List.length_append,List.length_append] at h1;have h2 : 0 < (charQ 34 hid r).length:=(by obtain ⟨c,a,e,_⟩:=charQ_head (h r (by simp)); rw [e]; simp);simp only [List.length_cons,List.length_nil] at h1;rw [strF,if_neg (by omega),hc];simp only;rw [strF_body hpre hlim rs _ f _ (fun q hq => h q (by simp [hq])) (fun e q hq => hb e q (by simp [hq])) (by rw [← List.drop_drop,hd,List.drop_left]) (by simp at hf; omega),List.flatMap_cons,List.append_assoc]
theorem body_rs {hid : Nat → Bool} : ∀ rs : List Nat,(∀ r ∈ rs,QOk hid r) → rs.length ≤ (rs.flatMap (charQ 34 hid)).length
 | [],_ => Nat.le_refl _
 | r :: rs,h => by
  have h2 : 0 < (charQ 34 hid r).length:=(by obtain ⟨c,a,e,_⟩:=charQ_head (h r (by simp)); rw [e]; simp);have:=body_rs rs fun q hq => h q (by simp [hq]);rw [List.flatMap_cons,List.length_append,List.length_cons];omega
theorem runes_valid : ∀ (f:Nat) (l : List UInt8),l.length ≤ f → validGoD f l = true → (runesF f l).flatMap runeB = l
 | 0,l,h,_ => by
  have : l = []:=List.eq_nil_of_length_eq_zero (by omega);subst this;rfl
 | f + 1,l,h,hv => by
  unfold validGoD at hv;unfold runesF
  by_cases hn : l = []
  ·rw [if_pos hn,hn]; rfl
  ·rw [if_neg hn] at hv ⊢
   by_cases hb : (decodeL l).1 = 65533∧(decodeL l).2 = 1
   ·rw [if_pos hb] at hv; cases hv
   ·rw [if_neg hb] at hv;have hw:=width_pos l hn;rw [List.flatMap_cons,runes_valid f _ (by rw [List.length_drop]; omega) hv];have he : runeB (decodeL l).1 = l.take (decodeL l).2:=encode_decode l hn hb;rw [he,List.take_append_drop]
theorem ctl_q (r:Nat) (h : RuneOk r) : QOk ctlB r:=⟨fun _ => h,ctl_256 r,fun e => by
 unfold ctlB at e;simp at e;omega⟩
theorem oct_q (r:Nat) (h : r < 256) : QOk octB r:=⟨fun h2 => rune_ascii (by
  rcases h2 with h2 | h2
  ·omega
  ·unfold octB at h2;simp at h2;omega),fun _ => h,fun e => by
 unfold octB at e;simp at e;omega⟩
theorem oct_back (t : List UInt8) : (octL t).flatMap (pushB 98) = t:=by
 induction t with
 | nil => rfl
 | cons c t ih =>
  show pushB 98 c.toNat ++ (octL t).flatMap (pushB 98) = _;rw [ih];unfold pushB;rw [if_pos rfl];simp
theorem strS_form (p : List UInt8) (k:Int) (hid : Nat → Bool) (rs : List Nat) (t : List UInt8) (h : ∀ r ∈ rs,QOk hid r) (hk : p = []∧k = 4∧rs.flatMap (pushB 0) = t∨p = [98]∧k = 5∧rs.flatMap (pushB 98) = t∧∀ r ∈ rs,r = 39∨hid r = false → r < 128)
  (ht : t.length ≤ 4000) (hl : (p ++ quotedS 34 hid rs).length ≤ 16000) : strS (p ++ quotedS 34 hid rs) = .ok (k,t):=by
 have hf : quotedS 34 hid rs = 34 :: (rs.flatMap (charQ 34 hid) ++ [34]):=rfl;have hb:=body_rs rs h;have hbt : Txt (34 :: (rs.flatMap (charQ 34 hid) ++ [34])):=(txt_asc [34] (by decide)).append ((body_txt rs h).append (txt_asc [34] (by decide)));obtain ⟨B,hB⟩ : ∃ B,rs.flatMap (charQ 34 hid) = B:=⟨_,rfl⟩;have hq:=quotes_body rs h;have hx:=lex_body rs h;rw [hf] at hl ⊢;rw [hB] at hbt hq hx hb hl ⊢;rcases hk with ⟨rfl,rfl,hk⟩ | ⟨rfl,rfl,hk,hr⟩
 ·rw [List.nil_append] at hl ⊢;have hi:=str_is _ hx.1 hbt hl (.inl rfl);have hp : strP (34 :: (B ++ [34])) = 0:=rfl;have hsh : shtOf (34 :: (B ++ [34])) = ⟨0,34,1,B.length + 1⟩:=by
   unfold shtOf;rw [hp,List.drop_zero,hq];simp [at0,isQuo]
  unfold strS;rw [hi,if_neg (by decide),hsh,if_neg (show ¬ (0 : UInt8) = 102 by decide),strF_body (hid:=hid) (x:=⟨0,34,1,B.length + 1⟩) (.inl rfl) (by simp) rs 1 _ [] h (fun e => absurd e (show ¬ (0 : UInt8) = 98 by decide)) (by rw [hB]; rfl) (by simp; omega)];simp only [List.nil_append];rw [hk,if_neg (by omega)];rfl
 ·rw [List.singleton_append] at hl ⊢;have hi:=str_is _ hx.2 ((txt_asc [98] (by decide)).append hbt) hl (.inr rfl);have hp : strP (98 :: 34 :: (B ++ [34])) = 1:=rfl;have hsh : shtOf (98 :: 34 :: (B ++ [34])) = ⟨98,34,2,B.length + 2⟩:=by
   unfold shtOf;rw [hp,show (98 :: 34 :: (B ++ [34]) : List UInt8).drop 1 = 34 :: (B ++ [34]) from rfl,hq];simp [at0,isQuo]
  unfold strS;rw [hi,if_neg (by decide),hsh,if_neg (show ¬ (98 : UInt8) = 102 by decide),strF_body (hid:=hid) (x:=⟨98,34,2,B.length + 2⟩) (.inr rfl) (by simp) rs 2 _ [] h (fun _ => hr) (by rw [hB]; rfl) (by simp; omega)];simp only [List.nil_append];rw [hk,if_neg (by omega)];rfl
theorem strS_text (t : List UInt8) (hv : validD t = true) (ht : t.length ≤ 4000) (hl : (quotedS 34 ctlB (runesL t)).length ≤ 16000) : strS (quotedS 34 ctlB (runesL t)) = .ok (4,t) :=
 strS_form [] 4 ctlB (runesL t) t (fun r hr => ctl_q r (runes_ok t r hr)) (.inl ⟨rfl,rfl,by
  have h:=runes_valid t.length t (Nat.le_refl _) hv;exact h⟩) ht hl
theorem strS_octets (t : List UInt8) (ht : t.length ≤ 4000) (hl : (98 :: quotedS 34 octB (octL t)).length ≤ 16000) : strS (98 :: quotedS 34 octB (octL t)) = .ok (5,t) :=
 strS_form [98] 5 octB (octL t) t (fun r hr => oct_q r (octL_lt t r hr)) (.inr ⟨rfl,rfl,oct_back t,fun r hr h2 => by
  rcases h2 with h2 | h2
  ·omega
  ·unfold octB at h2;simp at h2;omega⟩) ht hl
theorem PrR.valid {k : Int} {n1 n2 : Bool} {ln ld : List Nat} {t : List UInt8} {r : Int} {s : List UInt8} (h : PrR k n1 n2 ln ld t r (s,0,0)) : ¬ (k < 0∨5 < k)∧validV k.toNat n1 n2 ln ld t r = true:=by
 unfold PrR at h;split at h
 ·simp at h
 ·rename_i hk;split at h
  ·simp at h
  ·rename_i hv;exact ⟨hk,by simpa using hv⟩
theorem PrR.mid {k : Int} {n1 n2 : Bool} {ln ld : List Nat} {t : List UInt8} {r : Int} {s : List UInt8} (h : PrR k n1 n2 ln ld t r (s,0,0)) :
  if k = 0 then (s,(0:Int),(0:Int)) = pr0 ln t r else if k = 1 then (s,0,0) = pr1 ln t r else if k = 2 then (s,0,0) = pr2 ln t r
  else if k = 3 then ∃ X,FinP (V 4294967296 ln) (V 4294967296 ld) X∧(s,0,0) = finO X else if k = 4 then (s,0,0) = pr4 ln t r else (s,0,0) = pr5 ln t r:=by
 obtain ⟨hk,hv⟩:=h.valid;unfold PrR at h;rw [if_neg hk,hv,if_neg (by decide)] at h;exact h
theorem law_num {k : Int} {n1 n2 : Bool} {ln ld : List Nat} {t : List UInt8} {r : Int} {s : List UInt8} (h : PrR k n1 n2 ln ld t r (s,0,0)) (hk : k = 2∨k = 3) (h32 : ∀ x ∈ ln,x < 4294967296) (h32d : ∀ x ∈ ld,x < 4294967296) :
  n1 = false∧n2 = false∧r = 0∧numK (numR s) = ⟨k,ln,ld,t,0,0⟩:=by
 obtain ⟨-,hv⟩:=h.valid;have hm:=h.mid;rcases hk with rfl | rfl
 ·rw [if_neg (by decide),if_neg (by decide),if_pos rfl] at hm;have hv2 : validV 2 n1 n2 ln ld t r = true:=hv;simp [validV] at hv2;obtain ⟨⟨⟨⟨⟨⟨e1,e2⟩,w1⟩,w2⟩,e3⟩,e4⟩,e5⟩:=hv2;subst e1 e2 e3 e4 e5;refine ⟨rfl,rfl,rfl,?_⟩;unfold pr2 at hm;split at hm
  ·simp at hm
  ·rename_i hl;injection hm with hm _;rw [hm,numR_whole _ (by omega)];show (⟨2,lg (V 4294967296 ln),[],[],0,0⟩ : Cst) = _;rw [well_lg w1 h32]
 ·rw [if_neg (by decide),if_neg (by decide),if_neg (by decide),if_pos rfl] at hm;obtain ⟨e1,e2,w1,w2,e4,e5⟩:=valid3_form hv;subst e1 e2 e4 e5;refine ⟨rfl,rfl,rfl,?_⟩;obtain ⟨X,hX,hm⟩:=hm;rcases X with c | t'
  ·unfold finO at hm;simp at hm
  ·unfold finO at hm;simp only at hm;split at hm
   ·simp at hm
   ·rename_i hl;injection hm with hm _;subst hm;rw [numK_point hX (by omega),well_lg w1 h32,well_lg w2 h32d]
theorem law_str {k : Int} {n1 n2 : Bool} {ln ld : List Nat} {t : List UInt8} {r : Int} {s : List UInt8} (h : PrR k n1 n2 ln ld t r (s,0,0)) (hk : k = 4∨k = 5) (hs : s.length ≤ 16000) :
  n1 = false∧n2 = false∧r = 0∧ln = []∧ld = []∧strK (strS s) = ⟨k,[],[],t,0,0⟩:=by
 obtain ⟨-,hv⟩:=h.valid;have hm:=h.mid;rcases hk with rfl | rfl
 ·rw [if_neg (by decide),if_neg (by decide),if_neg (by decide),if_neg (by decide),if_pos rfl] at hm;have hv2 : validV 4 n1 n2 ln ld t r = true:=hv;simp [validV] at hv2;unfold pr4 at hm;split at hm
  ·simp at hm
  ·rename_i hl;injection hm with hm _;subst hm;refine ⟨by simp [hv2],by simp [hv2],by simp [hv2],by simp [hv2],by simp [hv2],?_⟩;rw [strS_text t hv2.2 (by omega) hs];rfl
 ·rw [if_neg (by decide),if_neg (by decide),if_neg (by decide),if_neg (by decide),if_neg (by decide)] at hm;have hv2 : validV 5 n1 n2 ln ld t r = true:=hv;simp [validV] at hv2;unfold pr5 at hm;split at hm
  ·simp at hm
  ·rename_i hl;injection hm with hm _;subst hm;refine ⟨by simp [hv2],by simp [hv2],by simp [hv2],by simp [hv2],by simp [hv2],?_⟩;rw [strS_octets t (by omega) hs];rfl
theorem law_other {k : Int} {n1 n2 : Bool} {ln ld : List Nat} {t : List UInt8} {r : Int} {s : List UInt8} (h : PrR k n1 n2 ln ld t r (s,0,0)) (h2 : ¬ (k = 2∨k = 3)) (h4 : ¬ (k = 4∨k = 5)) :
  (k = 0∧s = [110,105,108])∨(k = 1∧r = 1∧s = [116,114,117,101])∨(k = 1∧r = 0∧s = [102,97,108,115,101]):=by
 obtain ⟨hk,hv⟩:=h.valid;have hm:=h.mid;rcases (show k = 0∨k = 1 by omega) with rfl | rfl
 ·rw [if_pos rfl] at hm;unfold pr0 at hm;injection hm with hm _;exact .inl ⟨rfl,hm⟩
 ·rw [if_neg (by decide),if_pos rfl] at hm;unfold pr1 at hm;injection hm with hm _;have hv2 : validV 1 n1 n2 ln ld t r = true:=hv;simp [validV] at hv2;rcases hv2.2 with h0 | h1
  ·subst h0;exact .inr (.inr ⟨rfl,rfl,by rw [hm]; rfl⟩)
  ·subst h1;exact .inr (.inl ⟨rfl,rfl,by rw [hm]; rfl⟩)
structure PEnv (w : World) : Prop where
 l : LEnv w
 lim : Lim w
theorem PEnv.keepB {w w' : World} (h : PEnv w) (hb : Below w.heap.size w w') : PEnv w':=⟨h.l.keepB hb,h.lim.keepB hb⟩
theorem spellsL_any (w : World) (he : PEnv w) (htab : Lib.TabIs Tryz.prog w "internal/strconv.uint64pow10" .u64 Lib.pow10Tab) :
  Calls Tryz.prog 7 #[] w fun e w' => e = .returned (.bool true)∧Below w.heap.size w w':=by
 go_enter Tryz.func7,Tryz.ntmps7;go_wp2_with fail;refine (litnum_any [50,46,53,48] w (by decide) he.lim).mono ?_;rintro e w1 ⟨hb1,hpost⟩;rw [num_sp] at hpost;obtain ⟨v,rfl,A,c,hr1,hif⟩:=hpost;rw [out_sp] at hr1 hif;rw [if_neg (by decide)] at hif;obtain ⟨A',c',hr2,rfl⟩:=hif;simp only at hr1 hr2 ⊢;have he1:=he.keepB hb1;have ht1:=tab_keep htab hb1;clear he htab;unfold valD flt;go_wp2_with fail;have hV:=(Blk.new w1 26 #[.int .i64 3,.bool false,.slice A (lg 5).length c,.bool false,.slice A' (lg 2).length c',.string ⟨#[]⟩,.int .i64 0]);have hF1:=Blk.new (w1.alloc (.cells #[.int .i64 3,.bool false,.slice A (lg 5).length c,.bool false,.slice A' (lg 2).length c',.string ⟨#[]⟩,.int .i64 0] 26)) 29 #[.int .i64 0,.int .i64 0];have ba1:=(Below.refl w1.heap.size w1).alloc (Nat.le_refl _) (.cells #[.int .i64 3,.bool false,.slice A (lg 5).length c,.bool false,.slice A' (lg 2).length c',.string ⟨#[]⟩,.int .i64 0] 26);have ba:=ba1.alloc ba1.size (.cells #[.int .i64 0,.int .i64 0] 29);rw [show (w1.alloc (.cells #[.int .i64 3,.bool false,.slice A (lg 5).length c,.bool false,.slice A' (lg 2).length c',.string ⟨#[]⟩,.int .i64 0] 26)).heap.size = w1.heap.size + 1 from by simp] at hF1;obtain ⟨w2,hw2⟩ : ∃ w2,(w1.alloc (.cells #[.int .i64 3,.bool false,.slice A (lg 5).length c,.bool false,.slice A' (lg 2).length c',.string ⟨#[]⟩,.int .i64 0] 26)).alloc (.cells #[.int .i64 0,.int .i64 0] 29) = w2:=⟨_,rfl⟩;rw [hw2] at hF1 ba ⊢;have he2:=he1.keepB ba;have ht2:=tab_keep ht1 ba;have hr21:=hr1.keepB ba;have hr22:=hr2.keepB ba;have hb2:=below_then hb1 ba hb1.size;clear hw2 ba ba1 hV he1 ht1 hb1 hr1 hr2;refine (lprint3_any 5 2 A A' c c' (by rw [lg_small (by decide) (by decide)]; decide) (by rw [lg_small (by decide) (by decide)]; decide) (by rw [lg_small (by decide) (by decide)]; decide) (by rw [lg_small (by decide) (by decide)]; decide) hr21 hr22 ht2).mono ?_;rintro e w3 ⟨ba,R,hR,hpost⟩;obtain rfl:=fin_half hR;have hpost : e = .returned (.tuple #[.string ⟨#[50,46,53]⟩,flt 0 0]):=hpost;obtain rfl:=hpost;have he3:=he2.keepB ba;have hF13:=hF1.belowS ba;have hb3:=below_then hb2 ba hb2.size;clear ba he2 ht2 hb2 hF1 hr21 hr22 hR;obtain ⟨bf,hbf⟩ : ∃ bf,w1.heap.size + 1 = bf:=⟨_,rfl⟩;rw [hbf] at hF13 ⊢;clear hbf;unfold flt;go_wp2_with fail;have hF3:=hF13.alloc (.cells #[.int .i64 0,.int .i64 0] 29);have hG3:=Blk.new w3 29 #[.int .i64 0,.int .i64 0];have ba:=(Below.refl w3.heap.size w3).alloc (Nat.le_refl _) (.cells #[.int .i64 0,.int .i64 0] 29);obtain ⟨bg,hbg⟩ : ∃ bg,w3.heap.size = bg:=⟨_,rfl⟩;rw [hbg] at hG3;obtain ⟨w4,hw4⟩ : ∃ w4,w3.alloc (.cells #[.int .i64 0,.int .i64 0] 29) = w4:=⟨_,rfl⟩;rw [hw4] at hF3 hG3 ba ⊢;rw [hbg];have he4:=he3.keepB ba;have hb4:=below_then hb3 ba hb3.size;clear hbg hw4 ba he3 hb3 hF13;refine (string_any [98,34,92,120,52,49,122,34] w4 (by decide) he4.l).mono ?_;rintro e w5 ⟨ba,hpost⟩;rw [str_sp] at hpost;obtain rfl:=hpost;have he5:=he4.keepB ba;have hb5:=below_then hb4 ba hb4.size;have hF5:=hF3.belowS ba;have hG5:=hG3.belowS ba;clear ba he4 hb4 hF3 hG3;unfold valC flt;go_wp2_with fail;have hF6:=(hF5.alloc (.cells #[.int .i64 5,.bool false,.slice none 0 0,.bool false,.slice none 0 0,.string ⟨#[65,122]⟩,.int .i64 0] 26)).alloc (.cells #[.int .i64 0,.int .i64 0] 29);have hG6:=(hG5.alloc (.cells #[.int .i64 5,.bool false,.slice none 0 0,.bool false,.slice none 0 0,.string ⟨#[65,122]⟩,.int .i64 0] 26)).alloc (.cells #[.int .i64 0,.int .i64 0] 29);have hV6:=(Blk.new w5 26 #[.int .i64 5,.bool false,.slice none 0 0,.bool false,.slice none 0 0,.string ⟨#[65,122]⟩,.int .i64 0]).alloc (.cells #[.int .i64 0,.int .i64 0] 29);have hH6:=Blk.new (w5.alloc (.cells #[.int .i64 5,.bool false,.slice none 0 0,.bool false,.slice none 0 0,.string ⟨#[65,122]⟩,.int .i64 0] 26)) 29 #[.int .i64 0,.int .i64 0];have ba1:=(Below.refl w5.heap.size w5).alloc (Nat.le_refl _) (.cells #[.int .i64 5,.bool false,.slice none 0 0,.bool false,.slice none 0 0,.string ⟨#[65,122]⟩,.int .i64 0] 26)
 have ba:=ba1.alloc ba1.size (.cells #[.int .i64 0,.int .i64 0] 29);rw [show (w5.alloc (.cells #[.int .i64 5,.bool false,.slice none 0 0,.bool false,.slice none 0 0,.string ⟨#[65,122]⟩,.int .i64 0] 26)).heap.size = w5.heap.size + 1 from by simp] at hH6;obtain ⟨w6,hw6⟩ : ∃ w6,(w5.alloc (.cells #[.int .i64 5,.bool false,.slice none 0 0,.bool false,.slice none 0 0,.string ⟨#[65,122]⟩,.int .i64 0] 26)).alloc (.cells #[.int .i64 0,.int .i64 0] 29) = w6:=⟨_,rfl⟩;rw [hw6] at hF6 hG6 hV6 hH6 ba ⊢;have he6:=he5.keepB ba;have hb6:=below_then hb5 ba hb5.size;clear hw6 ba ba1 he5 hb5 hF5 hG5;obtain ⟨bh,hbh⟩ : ∃ bh,w5.heap.size + 1 = bh:=⟨_,rfl⟩;rw [hbh] at hH6 ⊢;obtain ⟨bw,hbw⟩ : ∃ bw,w5.heap.size = bw:=⟨_,rfl⟩;rw [hbw] at hV6 ⊢;clear hbh hbw;refine (parts_any [102,34,97,123,123,123,120,33,114,58,62,53,125,34] w6 (by decide) he6.l).mono ?_;rintro e w7 ⟨ba,hpost⟩;rw [parts_sp] at hpost;obtain ⟨vt,rfl,hown⟩:=hpost;obtain ⟨P,pc,rfl,_,_⟩:=own_form hown;have hrp:=Row.of_own hown;have he7:=he6.keepB ba;have hb7:=below_then hb6 ba hb6.size;have hF7:=hF6.belowS ba;have hG7:=hG6.belowS ba;have hV7:=hV6.belowS ba;have hH7:=hH6.belowS ba;clear ba he6 hb6 hF6 hG6 hV6 hH6 hown;unfold flt;rw [show prsSp.length = 2 from rfl];go_wp2_with fail;have hF8:=hF7.alloc (.cells #[.int .i64 0,.int .i64 0] 29);have hG8:=hG7.alloc (.cells #[.int .i64 0,.int .i64 0] 29);have hV8:=hV7.alloc (.cells #[.int .i64 0,.int .i64 0] 29);have hH8:=hH7.alloc (.cells #[.int .i64 0,.int .i64 0] 29);have hI8:=Blk.new w7 29 #[.int .i64 0,.int .i64 0];have ba:=(Below.refl w7.heap.size w7).alloc (Nat.le_refl _) (.cells #[.int .i64 0,.int .i64 0] 29);obtain ⟨w8,hw8⟩ : ∃ w8,w7.alloc (.cells #[.int .i64 0,.int .i64 0] 29) = w8:=⟨_,rfl⟩;rw [hw8] at hF8 hG8 hV8 hH8 hI8 ba ⊢;have he8:=he7.keepB ba;have hb8:=below_then hb7 ba hb7.size;have hr8:=hrp.keepB ba;obtain ⟨bi,hbi⟩ : ∃ bi,w7.heap.size = bi:=⟨_,rfl⟩;rw [hbi] at hI8 ⊢;clear hbi hw8 ba he7 hb7 hF7 hG7 hV7 hH7 hrp;refine (ljoin_any P pc prsSp w8 (by decide) (by decide) (by
  intro p hp;unfold prsSp at hp;rcases List.mem_cons.1 hp with rfl | hp
  ·refine ⟨by decide,by decide,fun _ r hr => ir_ascii r ?_⟩;have : ∀ r ∈ runesL [97,123],r < 128:=(by decide);exact this r hr
  ·rw [List.mem_singleton.1 hp];exact ⟨by decide,by decide,fun h => by cases h⟩) hr8 he8.l).mono ?_
 rintro e w9 ⟨rfl,ba⟩;rw [join_sp];have hb9:=below_then hb8 ba hb8.size;have hF9:=(hF8.belowS ba).alloc (.cells #[.int .i64 0,.int .i64 0] 29);have hG9:=(hG8.belowS ba).alloc (.cells #[.int .i64 0,.int .i64 0] 29);have hV9:=(hV8.belowS ba).alloc (.cells #[.int .i64 0,.int .i64 0] 29);have hH9:=(hH8.belowS ba).alloc (.cells #[.int .i64 0,.int .i64 0] 29);have hI9:=(hI8.belowS ba).alloc (.cells #[.int .i64 0,.int .i64 0] 29);have hJ9:=Blk.new w9 29 #[.int .i64 0,.int .i64 0];have hbz:=hb9.alloc hb9.size (.cells #[.int .i64 0,.int .i64 0] 29);clear ba hb8 hF8 hG8 hV8 hH8 hI8 hr8 he8 hb9;obtain ⟨f1,f2,f3⟩:=hF9.rules;obtain ⟨g1,g2,g3⟩:=hG9.rules;obtain ⟨v1,v2,v3⟩:=hV9.rules;obtain ⟨h1,h2,h3⟩:=hH9.rules;obtain ⟨i1,i2,i3⟩:=hI9.rules;obtain ⟨j1,j2,j3⟩:=hJ9.rules;unfold flt;go_wp2_with fail;go_ret;exact ⟨rfl,hbz⟩
end
end Go.Proofs.YtonehlkiackhcaaGreatDoor