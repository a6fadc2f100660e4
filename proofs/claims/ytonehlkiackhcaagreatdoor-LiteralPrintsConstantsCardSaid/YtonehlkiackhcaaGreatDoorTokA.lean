/- Plain words on the tokens of a source: what stands at the beginning of a text, and the tokens of the whole. Nothing is claimed here. -/
import Derived.Lib.RuneCountTail
import Derived.Lib.MapLaws
import Derived.Lib.LastIndexByte
import Derived.RangeFuncOwn
import Derived.Test.YtonehlkiackhcaaGreatDoorSrcShelf
import Derived.Lib.OthersKept
set_option linter.unusedVariables false
set_option linter.unusedSimpArgs false
set_option maxRecDepth 100000
set_option maxHeartbeats 16000000
namespace Go.Proofs.YtonehlkiackhcaaGreatDoor
section
open Go.Lib
def bAt (l : List UInt8) (i:Nat) : Nat:=(l.getD i 0).toNat
theorem bAt_lt (l : List UInt8) (i:Nat) : bAt l i < 256:=(l.getD i 0).toNat_lt
theorem decodeL_eq (l : List UInt8) : decodeL l = decodeN l.length (bAt l 0) (bAt l 1) (bAt l 2) (bAt l 3):=by
 unfold decodeL;rw [decode_at];simp only [← getD_get!',Nat.zero_add,Nat.sub_zero];rfl
theorem decodeN_cases (n b0 b1 b2 b3:Nat) :
  (b0 < 128∧∀ n' b1' b2' b3',decodeN n' b0 b1' b2' b3' = (b0,1))∨decodeN n b0 b1 b2 b3 = (65533,1) ∨
  (2 ≤ n∧b0 / 64 = 3∧b1 / 64 = 2∧∃ c,128 ≤ c∧∀ n' b2' b3',2 ≤ n' → decodeN n' b0 b1 b2' b3' = (c,2)) ∨
  (3 ≤ n∧b0 / 64 = 3∧b1 / 64 = 2∧b2 / 64 = 2∧∃ c,128 ≤ c∧∀ n' b3',3 ≤ n' → decodeN n' b0 b1 b2 b3' = (c,3)) ∨
  (4 ≤ n∧b0 / 64 = 3∧b1 / 64 = 2∧b2 / 64 = 2∧b3 / 64 = 2∧∃ c,128 ≤ c∧∀ n',4 ≤ n' → decodeN n' b0 b1 b2 b3 = (c,4)):=by
 by_cases h0 : b0 < 128
 ·exact .inl ⟨h0,fun _ _ _ _ => by unfold decodeN; rw [if_pos h0]⟩
 refine .inr ?_
 by_cases h2 : b0 / 32 = 6∧(1 < n∧b1 / 64 = 2)
 ·by_cases hc : b0 % 32 * 64 + b1 % 64 ≥ 128
  ·refine .inr (.inl ⟨by omega,by omega,by omega,_,hc,fun n' b2' b3' hn => ?_⟩);unfold decodeN;rw [if_neg h0,if_pos ⟨h2.1,by omega,h2.2.2⟩,if_pos hc]
  ·refine .inl ?_;unfold decodeN;rw [if_neg h0,if_pos h2,if_neg hc]
 by_cases h3 : b0 / 16 = 14∧(1 < n∧b1 / 64 = 2)∧(2 < n∧b2 / 64 = 2)
 ·by_cases hc : b0 % 16 * 4096 + b1 % 64 * 64 + b2 % 64 ≥ 2048∧(b0 % 16 * 4096 + b1 % 64 * 64 + b2 % 64 < 55296∨(57344 ≤ b0 % 16 * 4096 + b1 % 64 * 64 + b2 % 64∧b0 % 16 * 4096 + b1 % 64 * 64 + b2 % 64 ≤ 1114111))
  ·refine .inr (.inr (.inl ⟨by omega,by omega,by omega,by omega,b0 % 16 * 4096 + b1 % 64 * 64 + b2 % 64,by omega,fun n' b3' hn => ?_⟩));unfold decodeN;rw [if_neg h0,if_neg (by omega),if_pos ⟨h3.1,⟨by omega,h3.2.1.2⟩,by omega,h3.2.2.2⟩,if_pos hc]
  ·refine .inl ?_;unfold decodeN;rw [if_neg h0,if_neg h2,if_pos h3,if_neg hc]
 by_cases h4 : b0 / 8 = 30∧(1 < n∧b1 / 64 = 2)∧(2 < n∧b2 / 64 = 2)∧(3 < n∧b3 / 64 = 2)
 ·by_cases hc : b0 % 8 * 262144 + b1 % 64 * 4096 + b2 % 64 * 64 + b3 % 64 ≥ 65536∧(b0 % 8 * 262144 + b1 % 64 * 4096 + b2 % 64 * 64 + b3 % 64 < 55296∨(57344 ≤ b0 % 8 * 262144 + b1 % 64 * 4096 + b2 % 64 * 64 + b3 % 64∧b0 % 8 * 262144 + b1 % 64 * 4096 + b2 % 64 * 64 + b3 % 64 ≤ 1114111))
  ·refine .inr (.inr (.inr ⟨by omega,by omega,by omega,by omega,by omega,b0 % 8 * 262144 + b1 % 64 * 4096 + b2 % 64 * 64 + b3 % 64,by omega,fun n' hn => ?_⟩));unfold decodeN;rw [if_neg h0,if_neg (by omega),if_neg (by omega),if_pos ⟨h4.1,⟨by omega,h4.2.1.2⟩,⟨by omega,h4.2.2.1.2⟩,by omega,h4.2.2.2.2⟩,if_pos hc]
  ·refine .inl ?_;unfold decodeN;rw [if_neg h0,if_neg h2,if_neg h3,if_pos h4,if_neg hc]
 refine .inl ?_;unfold decodeN;rw [if_neg h0,if_neg h2,if_neg h3,if_neg h4]
def badL (l : List UInt8) : Bool:=decide ((decodeL l).1 < 32) && (decodeL l).1 != 10 || (decodeL l).1 == 65533 && (decodeL l).2 == 1
structure Chr (c : List UInt8) : Prop where
 pos : 0 < c.length
 dec : ∀ t,decodeL (c ++ t) = ((decodeL c).1,c.length)
 ok : badL c = false
 head : bAt c 0 / 64 ≠ 2
 tail : ∀ j,0 < j → j < c.length → bAt c j / 64 = 2
 one : (decodeL c).1 < 128 → c.length = 1
theorem chr_mk (c : List UInt8) (r:Nat) (hp : 0 < c.length) (h : ∀ t,decodeL (c ++ t) = (r,c.length)) (hb : ¬ (r < 32∧r ≠ 10)) (h1 : ¬ (r = 65533∧c.length = 1)) (h2 : bAt c 0 / 64 ≠ 2)
  (h3 : ∀ j,0 < j → j < c.length → bAt c j / 64 = 2) (h4 : r < 128 → c.length = 1) : Chr c:=by
 have h0 : decodeL c = (r,c.length):=by have:=h []; rwa [List.append_nil] at this
 refine ⟨hp,fun t => by rw [h t,h0],?_,h2,h3,by rw [h0]; exact h4⟩;unfold badL;rw [h0];simp only [Bool.or_eq_false_iff,Bool.and_eq_false_iff,decide_eq_false_iff_not,bne_eq_false_iff_eq,beq_eq_false_iff_ne,ne_eq];exact ⟨by omega,by omega⟩
theorem bAt_zero (x : UInt8) (l : List UInt8) : bAt (x :: l) 0 = x.toNat:=by simp [bAt]
theorem chr_of (l : List UInt8) (hne : l ≠ []) (hb : badL l = false) : Chr (l.take (decodeL l).2)∧(decodeL l).2 ≤ l.length∧(l.take (decodeL l).2).length = (decodeL l).2∧(decodeL (l.take (decodeL l).2)).1 = (decodeL l).1:=by
 have hb' : ¬ ((decodeL l).1 < 32∧(decodeL l).1 ≠ 10)∧¬ ((decodeL l).1 = 65533∧(decodeL l).2 = 1):=by
  unfold badL at hb;simp only [Bool.or_eq_false_iff,Bool.and_eq_false_iff,decide_eq_false_iff_not,bne_eq_false_iff_eq,beq_eq_false_iff_ne,ne_eq] at hb;exact ⟨by omega,by omega⟩
 have key : ∀ (k r : Nat), decodeL l = (r, k) → 0 < k → k ≤ l.length → (∀ t, decodeL (l.take k ++ t) = (r, k)) → bAt l 0 / 64 ≠ 2 → (∀ j, 0 < j → j < k → bAt l j / 64 = 2) → (r < 128 → k = 1) → --
     Chr (l.take (decodeL l).2)∧(decodeL l).2 ≤ l.length∧(l.take (decodeL l).2).length = (decodeL l).2∧(decodeL (l.take (decodeL l).2)).1 = (decodeL l).1:=by
   intro k r h0 hk hkl hd hh ht h1
   rw [h0] at hb' ⊢
   have hlen : (l.take k).length = k:=by rw [List.length_take]; omega
   have hat : ∀ j,j < k → bAt (l.take k) j = bAt l j:=fun j hj => by simp [bAt,hj]
   refine ⟨chr_mk (l.take k) r (by omega) (fun t => by rw [hd t,hlen]) hb'.1 (by rw [hlen]; exact hb'.2) (by rw [hat 0 hk]; exact hh) (fun j h1 h2 => by rw [hat j (by omega)]; exact ht j h1 (by omega)) (by rw [hlen]; exact h1),hkl,hlen,?_⟩
   have:=hd []
   rw [List.append_nil] at this
   rw [this]
 have hpos : 0 < l.length:=List.length_pos_iff.2 hne;rcases decodeN_cases l.length (bAt l 0) (bAt l 1) (bAt l 2) (bAt l 3) with ⟨h0,h⟩ | h | ⟨hn,h0,h1,c,hc,h⟩ | ⟨hn,h0,h1,h2,c,hc,h⟩ | ⟨hn,h0,h1,h2,h3,c,hc,h⟩
 ·refine key 1 (bAt l 0) (by rw [decodeL_eq]; exact h _ _ _ _) (by omega) (by omega) (fun t => ?_) (by omega) (fun j _ _ => by omega) (fun _ => rfl);obtain ⟨x,m,rfl⟩:=List.exists_cons_of_ne_nil hne;rw [decodeL_eq];simp only [List.take_succ_cons,List.take_zero,List.cons_append,List.nil_append,bAt_zero] at h ⊢;exact h _ _ _ _
 ·rw [decodeL_eq,h] at hb';exact absurd ⟨rfl,rfl⟩ hb'.2
 ·refine key 2 c (by rw [decodeL_eq]; exact h _ _ _ hn) (by omega) (by omega) (fun t => ?_) (by omega) (fun j _ _ => by rw [show j = 1 by omega]; exact h1) (fun _ => by omega)
  match l,hn with
  | x :: y :: m,_ =>
   have:=h (x :: y :: t).length (bAt (x :: y :: t) 2) (bAt (x :: y :: t) 3) (by simp);rw [decodeL_eq];exact this
 ·refine key 3 c (by rw [decodeL_eq]; exact h _ _ hn) (by omega) (by omega) (fun t => ?_) (by omega) (fun j _ _ => by rcases (show j = 1∨j = 2 by omega) with rfl | rfl; exact h1; exact h2) (fun _ => by omega)
  match l,hn with
  | x :: y :: z :: m,_ =>
   have:=h (x :: y :: z :: t).length (bAt (x :: y :: z :: t) 3) (by simp);rw [decodeL_eq];exact this
 ·refine key 4 c (by rw [decodeL_eq]; exact h _ hn) (by omega) (by omega) (fun t => ?_) (by omega) (fun j _ _ => by rcases (show j = 1∨j = 2∨j = 3 by omega) with rfl | rfl | rfl; exact h1; exact h2; exact h3) (fun _ => by omega)
  match l,hn with
  | x :: y :: z :: u :: m,_ =>
   have:=h (x :: y :: z :: u :: t).length (by simp);rw [decodeL_eq];exact this
def badAt : Nat → List UInt8 → Nat → Option Nat
 | 0,_,_ => none
 | f + 1,l,p => if l = [] then none else if badL l then some p else badAt f (l.drop (decodeL l).2) (p + (decodeL l).2)
def sfault (l : List UInt8) : Int × Int:=if 16000 < l.length then (3,-1) else match badAt l.length l 0 with
 | none => (0,0)
 | some p => (1,p)
theorem width_pos (l : List UInt8) (hne : l ≠ []) : 1 ≤ (decodeL l).2:=by
 have:=decode_width_pos ⟨l.toArray⟩ 0 (by have:=List.length_pos_iff.2 hne; simpa [ByteArray.size] using this);exact this
theorem parts_of : ∀ (f:Nat) (l : List UInt8) (p:Nat),l.length ≤ f →
  (badAt f l p = none∧∃ cs : List (List UInt8),l = cs.flatten∧∀ c ∈ cs,Chr c) ∨
  (∃ (cs : List (List UInt8)) (r : List UInt8),badAt f l p = some (p + cs.flatten.length)∧l = cs.flatten ++ r∧(∀ c ∈ cs,Chr c)∧r ≠ []∧badL r = true)
 | 0,l,p,h => by
  have : l = []:=List.eq_nil_of_length_eq_zero (by omega);subst this;exact .inl ⟨rfl,[],rfl,by simp⟩
 | f + 1,l,p,h => by
  by_cases hne : l = []
  ·subst hne;exact .inl ⟨by simp [badAt],[],rfl,by simp⟩
  ·by_cases hb : badL l = true
   ·exact .inr ⟨[],l,by simp [badAt,hne,hb],rfl,by simp,hne,hb⟩
   ·have hb' : badL l = false:=(by simpa using hb);obtain ⟨hc,hle,hlen,_⟩:=chr_of l hne hb';have hw:=width_pos l hne;have e : badAt (f + 1) l p = badAt f (l.drop (decodeL l).2) (p + (decodeL l).2):=by
     conv => lhs; unfold badAt
     rw [if_neg hne,if_neg hb]
    rw [e];rcases parts_of f (l.drop (decodeL l).2) (p + (decodeL l).2) (by rw [List.length_drop]; omega) with ⟨h1,cs,h2,h3⟩ | ⟨cs,r,h1,h2,h3,h4,h5⟩
    ·refine .inl ⟨h1,l.take (decodeL l).2 :: cs,?_,?_⟩
     ·rw [List.flatten_cons,← h2,List.take_append_drop]
     ·intro c hcm;rcases List.mem_cons.1 hcm with rfl | hcm
      ·exact hc
      ·exact h3 c hcm
    ·refine .inr ⟨l.take (decodeL l).2 :: cs,r,?_,?_,?_,h4,h5⟩
     ·rw [h1,List.flatten_cons,List.length_append,hlen,Nat.add_assoc]
     ·rw [List.flatten_cons,List.append_assoc,← h2,List.take_append_drop]
     ·intro c hcm;rcases List.mem_cons.1 hcm with rfl | hcm
      ·exact hc
      ·exact h3 c hcm
theorem chars_of (l : List UInt8) (h : (sfault l).1 = 0) : l.length ≤ 16000∧∃ cs : List (List UInt8),l = cs.flatten∧∀ c ∈ cs,Chr c:=by
 unfold sfault at h;split at h
 ·simp at h
 ·refine ⟨by omega,?_⟩;rcases parts_of l.length l 0 (Nat.le_refl _) with ⟨_,h2⟩ | ⟨cs,r,h1,_⟩
  ·exact h2
  ·rw [h1] at h;simp at h
theorem badAt_chars : ∀ (f:Nat) (cs : List (List UInt8)) (p:Nat),(∀ c ∈ cs,Chr c) → badAt f cs.flatten p = none
 | 0,_,_,_ => rfl
 | f + 1,[],_,_ => by simp [badAt]
 | f + 1,c :: cs,p,h => by
  have hc:=h c (List.mem_cons_self ..);have hd:=hc.dec cs.flatten;have hb : badL (c ++ cs.flatten) = false:=by
   have h1:=hc.ok;have h2:=hc.dec [];rw [List.append_nil] at h2;unfold badL at h1 ⊢;rw [hd,← h2];exact h1
  unfold badAt;rw [List.flatten_cons,if_neg (by intro e; have h1:=congrArg List.length e; have h2:=hc.pos; rw [List.length_append,List.length_nil] at h1; omega),if_neg (by rw [hb]; simp),hd];simp only [List.drop_left'];exact badAt_chars f cs _ (fun x hx => h x (List.mem_cons_of_mem _ hx))
theorem sfault_chars (cs : List (List UInt8)) (h : ∀ c ∈ cs,Chr c) (hl : cs.flatten.length ≤ 16000) : sfault cs.flatten = (0,0):=by
 unfold sfault;rw [if_neg (by omega),badAt_chars _ cs 0 h]
def splitB (c : UInt8) : List UInt8 → List (List UInt8)
 | [] => [[]]
 | x :: l => if x = c then [] :: splitB c l else match splitB c l with
  | [] => [[x]]
  | p :: ps => (x :: p) :: ps
end
section
open Go.RowKit Go.Shelf Go.Lib
def bs (l : List UInt8) : Value:=.string ⟨l.toArray⟩
theorem ba_ext {a b : ByteArray} (h : a.data.toList = b.data.toList) : a = b:=by
 cases a; cases b;simp only [ByteArray.mk.injEq];exact Array.toList_inj.1 h
theorem extract_from (r : List UInt8) (i n:Nat) (h : r.length ≤ n) : (⟨r.toArray⟩ : ByteArray).extract i n = ⟨(r.drop i).toArray⟩:=ba_ext (by rw [extract_data]; show (r.drop i).take (n - i) = r.drop i; exact List.take_of_length_le (by rw [List.length_drop]; omega))
theorem extract_sub (r : List UInt8) (i n:Nat) : (⟨r.toArray⟩ : ByteArray).extract i n = ⟨((r.drop i).take (n - i)).toArray⟩:=ba_ext (by rw [extract_data])
def Tabs (w : World) : Prop:=Lib.Utf8Tabs 0 1 w
theorem lt_of_cell {w : World} {b o : Nat} {v : Value} (h : w.cell? ⟨b,o,none⟩ = some v) : b < w.heap.size:=by
 obtain ⟨ob,ho,_⟩:=cells_of_cell h;exact (Array.getElem?_eq_some_iff.1 ho).1
theorem Tabs.keepB {w w' : World} (h : Tabs w) (hb : Below w.heap.size w w') : Tabs w':=by
 have l1:=lt_of_cell (h.1 0 (by omega));have l2:=lt_of_cell (h.2 0 (by omega)).1;exact ⟨fun c hc => (hb.cell (p:=⟨_,c,none⟩) l1).trans (h.1 c hc),fun i hi => ⟨(hb.cell (p:=⟨_,2 * i,none⟩) l2).trans (h.2 i hi).1,(hb.cell (p:=⟨_,2 * i + 1,none⟩) l2).trans (h.2 i hi).2⟩⟩
def flt (c i:Int) : Value:=.agg #[.int .i64 c,.int .i64 i]
theorem decode_drop (l : List UInt8) (p:Nat) : Utf8.decode ⟨l.toArray⟩ p = decodeL (l.drop p):=by
 have h:=tail_decode ⟨l.toArray⟩ p 0;rw [Nat.add_zero] at h;rw [← h];unfold decodeL
 congr 1
 exact extract_from l p _ (Nat.le_refl _)
theorem decodeGo_ne (l : List UInt8) (hne : l ≠ []) : Lib.decodeGo ⟨l.toArray⟩ = decodeL l:=by
 unfold Lib.decodeGo;rw [if_neg (by have:=List.length_pos_iff.2 hne; simp [ByteArray.size]; omega)];rfl
theorem decodeL_rune_le (l : List UInt8) : (decodeL l).1 ≤ 2147483647:=decode_le _ _
theorem decodeL_width_le (l : List UInt8) (hne : l ≠ []) : (decodeL l).2 ≤ l.length:=by
 have:=List.length_pos_iff.2 hne;rw [decodeL_eq];rcases decodeN_cases l.length (bAt l 0) (bAt l 1) (bAt l 2) (bAt l 3) with ⟨_,h⟩ | h | ⟨hn,_,_,c,_,h⟩ | ⟨hn,_,_,_,c,_,h⟩ | ⟨hn,_,_,_,_,c,_,h⟩
 ·rw [h]; exact this
 ·rw [h]; exact this
 ·rw [h _ _ _ hn]; exact hn
 ·rw [h _ _ hn]; exact hn
 ·rw [h _ hn]; exact hn
theorem badL_iff (l : List UInt8) (r n:Nat) (h : decodeL l = (r,n)) : badL l = true ↔ (r < 32∧r ≠ 10)∨(r = 65533∧n = 1):=by
 unfold badL;rw [h];simp
theorem decode_any (l : List UInt8) (hne : l ≠ []) (w : World) (hT : Tabs w) :
  Calls Tryz.prog 84 #[.string ⟨l.toArray⟩] w fun e w' => e = .returned (.tuple #[.int .i32 (decodeL l).1,.int .i64 (decodeL l).2])∧Below w.heap.size w w':=by
 refine (Tryz.utf8_DecodeRuneInString ⟨l.toArray⟩ w hT).mono ?_;rintro e w' ⟨rfl,hb⟩;rw [decodeGo_ne l hne];exact ⟨rfl,hb⟩
def CheckI (l : List UInt8) (B:Nat) (w wr : World) : Prop :=
 ∃ (pos f:Nat),wr.heap[B + 1]? = some (.stringIter ⟨l.toArray⟩ pos)∧Blk wr B 29 #[.int .i64 0,.int .i64 0]∧Below B w wr∧badAt f (l.drop pos) pos = badAt l.length l 0∧l.length ≤ pos + f∧pos ≤ l.length
theorem badAt_end (f:Nat) (p:Nat) : badAt f [] p = none:=by cases f <;> simp [badAt]
theorem badAt_bad (f:Nat) (l : List UInt8) (p:Nat) (hf : 1 ≤ f) (hne : l ≠ []) (h : badL l = true) : badAt f l p = some p:=by
 obtain ⟨g,rfl⟩ : ∃ g,f = g + 1:=⟨f - 1,by omega⟩;unfold badAt;rw [if_neg hne,if_pos h]
theorem badAt_good (f:Nat) (l : List UInt8) (p:Nat) (hne : l ≠ []) (h : badL l = false) : badAt (f + 1) l p = badAt f (l.drop (decodeL l).2) (p + (decodeL l).2):=by
 conv => lhs; unfold badAt
 rw [if_neg hne,h,if_neg (by simp)]
theorem check_any (l : List UInt8) (w : World) (hl : l.length ≤ 9223372036854775807) (hT : Tabs w) :
  Calls Tryz.prog 116 #[.string ⟨l.toArray⟩] w fun e w' => e = .returned (flt (sfault l).1 (sfault l).2)∧Below w.heap.size w w':=by
 by_cases hlen : 16000 < l.length
 ·have hs : sfault l = (3,-1):=(by unfold sfault; rw [if_pos hlen]);rw [hs];clear hs;go_enter Tryz.func116,Tryz.ntmps116;go_wp2;exact ret_blk rfl rfl (Blk.new w 29 #[.int .i64 3,.int .i64 (-1)]) _ Tryz.underlying29 rfl (by kernel_rfl) rfl ⟨rfl,(Below.refl _ _).alloc (Nat.le_refl _) _⟩
 ·have hle : l.length ≤ 16000:=(by omega);clear hlen;go_enter Tryz.func116,Tryz.ntmps116;go_wp2_with fail
  go_loopw [3] (fun _ wr => CheckI l w.heap.size w wr) (fun _ wr => l.length - wr.iterPos (w.heap.size + 1))
  case atStart =>
   refine ⟨0,l.length,?_,?_,?_,rfl,by omega,Nat.zero_le _⟩
   ·have:=World.iter_heap (w.alloc (.cells #[.int .i64 0,.int .i64 0] 29)) ⟨l.toArray⟩ 0
    rwa [World.size_alloc] at this
   ·exact (Blk.new w 29 #[.int .i64 0,.int .i64 0]).alloc _
   ·exact ((Below.refl _ w).alloc (Nat.le_refl _) _).alloc (by simp) _
  case round =>
   obtain ⟨pos,f,hit,hB,hb,hbad,hf,hpl⟩:=hrel;obtain ⟨q1,q2,q3⟩:=hB.rules
   by_cases hp : pos < l.length
   ·have hne : l.drop pos ≠ []:=(by intro e; have:=congrArg List.length e; rw [List.length_drop,List.length_nil] at this; omega);obtain ⟨r,n,hd⟩ : ∃ r n,decodeL (l.drop pos) = (r,n):=⟨_,_,rfl⟩;have hnx : ∀ ty,(Instr.next (.pointer (some ⟨w.heap.size + 1,0,none⟩)) true ty).run Tryz.prog wr = _:=fun ty => run_next_any_at wr (w.heap.size + 1) ⟨l.toArray⟩ pos ty hit hp;rw [decode_drop,hd] at hnx;have hr:=decodeL_rune_le (l.drop pos);have hw1:=width_pos _ hne;have hw2:=decodeL_width_le _ hne;rw [hd] at hr hw1 hw2;rw [List.length_drop] at hw2;have HB:=hid hbad;have HD:=hid hd;have HI:=hid hit;clear hbad hd hit;go_wp2_with fail;rw [extract_from l pos l.length (Nat.le_refl _)];obtain ⟨W1,hW1⟩ : ∃ W1,wr.iterAt (w.heap.size + 1) ⟨l.toArray⟩ (pos + n) = W1:=⟨_,rfl⟩;have hB1 : Blk W1 w.heap.size 29 #[.int .i64 0,.int .i64 0]:=(by rw [← hW1]; exact (iterAt_other _ _ _ _ _ (by omega)).trans hB);have hb1 : Below w.heap.size w W1:=(by rw [← hW1]; exact below_iterAt hb (by omega) _ _);have hit1 : W1.heap[w.heap.size + 1]? = some (.stringIter ⟨l.toArray⟩ (pos + n)):=(by rw [← hW1]; exact iterAt_heap _ _ _ _ _ HI.out);rw [hW1];have HI1:=hid hit1;clear hW1 hnx hit1;refine (decode_any _ hne _ (hT.keepB hb1)).mono ?_;rintro e w2 ⟨rfl,hb2⟩;rw [HD.out];have hit2 : w2.heap[w.heap.size + 1]? = some (.stringIter ⟨l.toArray⟩ (pos + n)):=(hb2.block _ (Array.getElem?_eq_some_iff.1 HI1.out).1).trans HI1.out;have HI2:=hid hit2;have hB2:=hB1.belowS hb2;have hb3 : Below w.heap.size w w2:=below_then hb1 hb2 hb1.size;clear hit2 HI1 hB1 hb1 hb2 q1 q2 q3 hB hb;obtain ⟨q1,q2,q3⟩:=hB2.rules;have hbi:=badL_iff (l.drop pos) r n HD.out
    by_cases hbd : (r < 32∧r ≠ 10)∨(r = 65533∧n = 1)
    ·have HBD:=hid (badAt_bad f (l.drop pos) pos (by omega) hne (hbi.2 hbd));have HF : Hid (sfault l = (1,(pos:Int))):=hid (by unfold sfault; rw [if_neg (by omega),← HB.out,HBD.out]);clear hbi HBD;rcases hbd with ⟨b1,b2⟩ | ⟨b1,b2⟩
     ·have t2 : ((r:Int) != 10) = true:=(by rw [bne_iff_ne]; omega);clear b2;go_wp2;exact ret_blk rfl rfl ((hB2.set_ 0 (.int .i64 1)).set_ 1 (.int .i64 pos)) _ Tryz.underlying29 rfl (by kernel_rfl) rfl ⟨by rw [HF.out]; rfl,(hb3.setCell (p:=⟨_,0,none⟩) (by simp) _).setCell (p:=⟨_,1,none⟩) (by simp) _⟩
     ·subst b1 b2;go_wp2;exact ret_blk rfl rfl ((hB2.set_ 0 (.int .i64 1)).set_ 1 (.int .i64 pos)) _ Tryz.underlying29 rfl (by kernel_rfl) rfl ⟨by rw [HF.out]; rfl,(hb3.setCell (p:=⟨_,0,none⟩) (by simp) _).setCell (p:=⟨_,1,none⟩) (by simp) _⟩
    ·have hgd : badL (l.drop pos) = false:=(by rw [← Bool.not_eq_true,hbi]; exact hbd);obtain ⟨g,rfl⟩ : ∃ g,f = g + 1:=⟨f - 1,by omega⟩;have HG:=hid (badAt_good g (l.drop pos) pos hne hgd);have fin : CheckI l w.heap.size w w2:=by
      refine ⟨pos + n,g,HI2.out,hB2,hb3,?_,by omega,by omega⟩;rw [← HB.out,HG.out,HD.out,List.drop_drop]
     have hms : l.length - w2.iterPos (w.heap.size + 1) < l.length - wr.iterPos (w.heap.size + 1):=by
      unfold World.iterPos;rw [HI2.out,HI.out];simp only;omega
     have FIN:=hid fin;have HM:=hid hms;clear fin hms hbi hgd HG HB
     by_cases b1 : r < 32
     ·obtain rfl : r = 10:=(by omega);go_wp2;go_roundw
      case rel => exact FIN.out
      case measure => exact HM.out
     ·by_cases b2 : r = 65533
      ·have t4 : ((n:Int) == 1) = false:=(by rw [beq_eq_false_iff_ne]; omega);subst b2;clear hbd;go_wp2;go_roundw
       case rel => exact FIN.out
       case measure => exact HM.out
      ·have t3 : ((r:Int) == 65533) = false:=(by rw [beq_eq_false_iff_ne]; omega);clear hbd;go_wp2;go_roundw
       case rel => exact FIN.out
       case measure => exact HM.out
   ·have hnx : ∀ ty,(Instr.next (.pointer (some ⟨w.heap.size + 1,0,none⟩)) true ty).run Tryz.prog wr = _:=fun ty => run_next_end_at wr (w.heap.size + 1) ⟨l.toArray⟩ pos ty hit hp;obtain rfl : pos = l.length:=(by omega);have HF : Hid (sfault l = (0,0)):=hid (by unfold sfault; rw [if_neg (by omega),← hbad,List.drop_length,badAt_end]);clear hbad hit;go_wp2;exact ret_blk rfl rfl ((hB.set_ 0 (.int .i64 0)).set_ 1 (.int .i64 0)) _ Tryz.underlying29 rfl (by kernel_rfl) rfl ⟨by rw [HF.out]; rfl,(hb.setCell (p:=⟨_,0,none⟩) (by simp) _).setCell (p:=⟨_,1,none⟩) (by simp) _⟩
end
section
open Go.Lib
theorem rcl_le (l : List UInt8) : runeCountL l ≤ l.length:=by
 have:=runeCount_le ⟨l.toArray⟩;simpa [runeCountL,ByteArray.size] using this
def runeOff : Nat → List UInt8 → Nat
 | 0,_ => 0
 | k + 1,l => if l = [] then 0 else (decodeL l).2 + runeOff k (l.drop (decodeL l).2)
def tailNl (l : List UInt8) : List UInt8:=l.drop (lastIndexByte ⟨l.toArray⟩ 10 + 1).toNat
def nlc : List UInt8:=[10]
theorem Chr.shape {c : List UInt8} (h : Chr c) : (∃ x : UInt8,c = [x])∨∀ j,j < c.length → 128 ≤ bAt c j:=by
 by_cases h1 : c.length = 1
 ·exact .inl (List.length_eq_one_iff.1 h1)
 ·refine .inr fun j hj => ?_;rcases Nat.eq_zero_or_pos j with rfl | hp
  ·rcases Nat.lt_or_ge (bAt c 0) 128 with hlt | hge
   ·exfalso;have hd:=h.dec [];rw [List.append_nil,decodeL_eq] at hd;rcases decodeN_cases c.length (bAt c 0) (bAt c 1) (bAt c 2) (bAt c 3) with ⟨_,h2⟩ | h2 | ⟨_,h2,_⟩ | ⟨_,h2,_⟩ | ⟨_,h2,_⟩
    ·rw [h2] at hd;injection hd with _ hd;omega
    ·rw [h2] at hd;injection hd with _ hd;omega
    ·omega
    ·omega
    ·omega
   ·exact hge
  ·have:=h.tail j hp hj;omega
theorem Chr.drop {c : List UInt8} (h : Chr c) (t : List UInt8) : (c ++ t).drop (decodeL (c ++ t)).2 = t:=by
 rw [h.dec t];simp
theorem Chr.ne {c : List UInt8} (h : Chr c) (t : List UInt8) : c ++ t ≠ []:=by
 have:=h.pos;intro e;have:=congrArg List.length e;rw [List.length_append,List.length_nil] at this;omega
def step (p : Int × Int) (c : List UInt8) : Int × Int:=if c = nlc then (p.1 + 1,1) else (p.1,p.2 + 1)
def place (cs : List (List UInt8)) : Int × Int:=cs.foldl step (1,1)
theorem lastIndex_none (l : List UInt8) (h : (10 : UInt8) ∉ l) : lastIndexByte ⟨l.toArray⟩ 10 = -1:=by
 have e : (⟨l.toArray⟩ : ByteArray).size = l.length:=by simp [ByteArray.size]
 rcases lastIdx_spec ⟨l.toArray⟩ 10 (⟨l.toArray⟩ : ByteArray).size with ⟨h1,_⟩ | ⟨i,hi,h1,h2,_⟩
 ·exact h1
 ·exfalso;rw [e] at hi;apply h;have h3 : l[i] = 10:=by
   simp [hi] at h2;exact UInt8.toNat_inj.1 (by show l[i].toNat = 10; omega)
  rw [← h3];exact List.getElem_mem hi
theorem lastIndex_at (p q : List UInt8) (h : (10 : UInt8) ∉ q) : lastIndexByte ⟨(p ++ 10 :: q).toArray⟩ 10 = p.length:=by
 have e : (⟨(p ++ 10 :: q).toArray⟩ : ByteArray).size = p.length + q.length + 1:=by simp [ByteArray.size]; omega
 have hb : ∀ j,j < p.length + q.length + 1 → (((⟨(p ++ 10 :: q).toArray⟩ : ByteArray).data[j]!).toNat:Int) = ((p ++ 10 :: q)[j]?.getD 0).toNat:=by
  intro j hj;have hj' : j < (p ++ 10 :: q).length:=(by simp; omega);simp only [List.getElem!_toArray,List.getElem?_eq_getElem hj',Option.getD_some,getElem!_pos (p ++ 10 :: q) j hj']
 rcases lastIdx_spec ⟨(p ++ 10 :: q).toArray⟩ 10 (⟨(p ++ 10 :: q).toArray⟩ : ByteArray).size with ⟨_,h2⟩ | ⟨i,hi,h1,h2,h3⟩
 ·exfalso;have:=h2 p.length (by rw [e]; omega);rw [hb _ (by omega)] at this;simp at this
 ·unfold lastIndexByte;rw [h1];rcases Nat.lt_trichotomy i p.length with hlt | rfl | hgt
  ·exfalso;have:=h3 p.length hlt (by rw [e]; omega);rw [hb _ (by omega)] at this;simp at this
  ·rfl
  ·exfalso;rw [e] at hi;rw [hb _ hi] at h2;apply h;obtain ⟨d,rfl⟩ : ∃ d,i = p.length + 1 + d:=⟨i - p.length - 1,by omega⟩;have hd : d < q.length:=(by omega);have : (p ++ 10 :: q)[p.length + 1 + d]? = some q[d]:=by
    rw [List.getElem?_append_right (by omega),show p.length + 1 + d - p.length = d + 1 by omega,List.getElem?_cons_succ,List.getElem?_eq_getElem hd]
   rw [this] at h2;rw [Option.getD_some] at h2;have h4 : q[d] = 10:=UInt8.toNat_inj.1 (by show q[d].toNat = 10; omega);rw [← h4];exact List.getElem_mem hd
theorem tailNl_none (l : List UInt8) (h : (10 : UInt8) ∉ l) : tailNl l = l:=by
 unfold tailNl;rw [lastIndex_none l h];simp
theorem tailNl_at (p q : List UInt8) (h : (10 : UInt8) ∉ q) : tailNl (p ++ 10 :: q) = q:=by
 unfold tailNl;rw [lastIndex_at p q h,show ((p.length:Int) + 1).toNat = p.length + 1 by omega,List.drop_append];simp
theorem last_split (l : List UInt8) : (10 : UInt8) ∉ l∨∃ p q,l = p ++ 10 :: q∧(10 : UInt8) ∉ q:=by
 induction l with
 | nil => exact .inl (by simp)
 | cons x l ih =>
  rcases ih with h | ⟨p,q,rfl,hq⟩
  ·by_cases hx : x = 10
   ·exact .inr ⟨[],l,by simp [hx],h⟩
   ·exact .inl (by simp [h]; exact fun e => hx e.symm)
  ·exact .inr ⟨x :: p,q,rfl,hq⟩
theorem tailNl_more (l c : List UInt8) (h : (10 : UInt8) ∉ c) : tailNl (l ++ c) = tailNl l ++ c:=by
 rcases last_split l with hl | ⟨p,q,rfl,hq⟩
 ·rw [tailNl_none l hl,tailNl_none (l ++ c) (by simp [hl,h])]
 ·rw [tailNl_at p q hq,List.append_assoc,List.cons_append,tailNl_at p (q ++ c) (by simp [hq,h])]
theorem start_chars : ∀ (cs : List (List UInt8)) (n:Nat),(∀ c ∈ cs,Chr c) → n ≤ cs.flatten.length → (n < cs.flatten.length → bAt cs.flatten n / 64 ≠ 2) → ∃ k,k ≤ cs.length∧n = (cs.take k).flatten.length
 | [],n,_,h1,_ => ⟨0,Nat.le_refl _,by simp at h1; simp [h1]⟩
 | c :: cs,n,h,h1,h2 => by
  have hc:=h c (List.mem_cons_self ..);rcases Nat.eq_zero_or_pos n with rfl | hp
  ·exact ⟨0,Nat.zero_le _,by simp⟩
  ·rw [List.flatten_cons] at h1 h2;rcases Nat.lt_or_ge n c.length with hlt | hge
   ·exfalso;have hb : bAt (c ++ cs.flatten) n = bAt c n:=(by unfold bAt; rw [List.getD_eq_getElem?_getD,List.getD_eq_getElem?_getD,List.getElem?_append_left hlt]);apply h2 (by rw [List.length_append]; omega);rw [hb];exact hc.tail n hp hlt
   ·rw [List.length_append] at h1;obtain ⟨k,hk,e⟩:=start_chars cs (n - c.length) (fun x hx => h x (List.mem_cons_of_mem _ hx)) (by omega) (fun hlt => by
     have:=h2 (by rw [List.length_append]; omega);have hb : bAt (c ++ cs.flatten) n = bAt cs.flatten (n - c.length):=by unfold bAt; rw [List.getD_eq_getElem?_getD,List.getD_eq_getElem?_getD,List.getElem?_append_right hge]
     rwa [hb] at this)
    exact ⟨k + 1,by simp; omega,by rw [List.take_succ_cons,List.flatten_cons,List.length_append,← e]; omega⟩
theorem take_flatten : ∀ (cs : List (List UInt8)) (k:Nat),cs.flatten.take (cs.take k).flatten.length = (cs.take k).flatten
 | [],_ => by simp
 | _ :: _,0 => by simp
 | c :: cs,k + 1 => by
  rw [List.take_succ_cons,List.flatten_cons,List.flatten_cons,List.length_append,List.take_length_add_append,take_flatten cs k]
def isLet (c : UInt8) : Bool:=(decide (97 ≤ c) && decide (c ≤ 122)) || (decide (65 ≤ c) && decide (c ≤ 90)) || c == 95
def isDig (c : UInt8) : Bool:=decide (48 ≤ c) && decide (c ≤ 57)
def isWrd (c : UInt8) : Bool:=isLet c || isDig c
def isHex (c : UInt8) : Bool:=isDig c || (decide (97 ≤ c) && decide (c ≤ 102))
def isBin (c : UInt8) : Bool:=c == 48 || c == 49
def inLn (c : UInt8) : Bool:=c != 10
def isBlk (c : UInt8) : Bool:=c == 32
def span (p : UInt8 → Bool) (l : List UInt8) : Nat:=(l.takeWhile p).length
def kws : List (List UInt8) :=
 [[97,110,100],[97,115],[97,115,115,101,114,116],[97,115,121,110,99],[97,119,97,105,116],[98,114,101,97,107],[99,97,115,101],
  [99,97,116,99,104],[99,108,97,115,115],[99,111,110,116,105,110,117,101],[100,101,102],[100,101,108],[101,108,105,102],[101,108,115,101],
  [102,97,108,115,101],[102,105,110,97,108,108,121],[102,110],[102,111,114],[102,114,111,109],[103,108,111,98,97,108],[105,102],
  [105,109,112,111,114,116],[105,110],[105,115],[109,97,116,99,104],[110,105,108],[110,111,116],[111,114],[111,117,116,101,114],
  [112,97,115,115],[114,97,105,115,101],[114,101,116,117,114,110],[115,117,112,101,114],[116,114,117,101],[116,114,121],[119,104,105,108,101],
  [119,105,116,104],[121,105,101,108,100]]
def sgs : List (List UInt8) :=
 [[42,42,61],[47,47,61],[60,60,61],[62,62,61],[42,42],[47,47],[60,60],[62,62],[60,61],[62,61],[61,61],[33,61],[43,61],[45,61],[42,61],
  [47,61],[37,61],[38,61],[124,61],[94,61],[45,62],[43],[45],[42],[47],[37],[38],[124],[94],[126],[60],[62],[40],[41],[91],[93],[123],[125],
  [44],[58],[46],[61],[64]]
abbrev Lex:=Except (Int × Nat) (Int × Nat)
def at0 (r : List UInt8) (k:Nat) : UInt8:=r.getD k 0
def lexName (r : List UInt8) : Lex:=if 24 < span isWrd r then .error (7,0) else .ok (if kws.contains (r.take (span isWrd r)) then 5 else 4,span isWrd r)
def numTail (r : List UInt8) (n:Nat) : Lex:=if isWrd (at0 r n) then .error (1,n) else if 600 < n then .error (3,0) else .ok (6,n)
def radix (r : List UInt8) : UInt8 → Bool:=if at0 r 1 = 120 then isHex else isBin
def intLen (r : List UInt8) : Nat:=if at0 r 0 = 48 then 1 else 1 + span isDig (r.drop 1)
def numLen (r : List UInt8) : Nat:=if at0 r (intLen r) = 46∧isDig (at0 r (intLen r + 1)) = true then intLen r + 1 + span isDig (r.drop (intLen r + 1)) else intLen r
def lexNum (r : List UInt8) : Lex :=
 if at0 r 0 = 48∧(at0 r 1 = 120∨at0 r 1 = 98) then
  if span (radix r) (r.drop 2) = 0 then .error (1,2) else numTail r (2 + span (radix r) (r.drop 2))
 else numTail r (numLen r)
def strEnd (q : List UInt8) (raw : Bool) : List UInt8 → Bool → Nat → Except (Int × Nat) Nat
 | [],_,k => .error (15,k)
 | c :: r,esc,k =>
  if esc then strEnd q raw r false (k + 1)
  else if q.isPrefixOf (c :: r) then .ok (k + q.length)
  else if c = 10∧q.length = 1 then .error (1,k)
  else strEnd q raw r (c == 92 && !raw && decide (r ≠ []) && at0 r 0 != 10) (k + 1)
def quotes (r : List UInt8) : List UInt8:=if r.take 3 = [34,34,34] then [34,34,34] else r.take 1
def lexStr (p:Nat) (r : List UInt8) : Lex :=
 match strEnd (quotes (r.drop p)) (decide (0 < p) && at0 r 0 == 114) (r.drop (p + (quotes (r.drop p)).length)) false (p + (quotes (r.drop p)).length) with
 | .error e => .error e
 | .ok n => .ok (7,n)
def lexSign (r : List UInt8) : Lex:=match sgs.find? (·.isPrefixOf r) with
 | none => .error (1,0)
 | some s => .ok (8,s.length)
def isQuo (c : UInt8) : Bool:=c == 34 || c == 39
def isPre (c : UInt8) : Bool:=c == 114 || c == 98 || c == 102
def lexTok (r : List UInt8) : Lex :=
 if isQuo (at0 r 0) then lexStr 0 r
 else if isPre (at0 r 0) && isQuo (at0 r 1) then lexStr 1 r
 else if isLet (at0 r 0) then lexName r
 else if isDig (at0 r 0) then lexNum r
 else lexSign r
def skipLen (r : List UInt8) : Nat:=if at0 r (span isBlk r) = 35 then span isBlk r + span inLn (r.drop (span isBlk r)) else span isBlk r
structure Tok where
 kind : Int
 text : List UInt8
 line : Int
 col : Int
def lineAt (l : List UInt8) (i:Nat) : Int:=((l.take i).count 10:Nat) + 1
def colAt (l : List UInt8) (i:Nat) : Int:=(runeCountL (tailNl (l.take i)):Nat) + 1
def tokAt (l : List UInt8) (kind:Int) (text : List UInt8) (i:Nat) : Tok:=⟨kind,text,lineAt l i,colAt l i⟩
structure Scn where
 at_ : Nat
 ind : List Nat
 op : List UInt8
 toks : List Tok
 fresh : Bool
def dedent (n:Nat) : List Nat → List Nat × Nat
 | [] => ([],0)
 | x :: l => if n < x then ((dedent n l).1,(dedent n l).2 + 1) else (x :: l,0)
def indent (n:Nat) (ind : List Nat) : Option (List Nat × List Int) :=
 if ind.headD 0 < n then some (n :: ind,[2])
 else if ind.contains n then some ((dedent n ind).1,List.replicate (dedent n ind).2 3)
 else none
def bracket (op : List UInt8) (s : List UInt8) : Option (List UInt8) :=
 if s = [40]∨s = [91]∨s = [123] then some (at0 s 0 :: op)
 else if s = [41] then (if op.head? = some 40 then some op.tail else none)
 else if s = [93] then (if op.head? = some 91 then some op.tail else none)
 else if s = [125] then (if op.head? = some 123 then some op.tail else none)
 else some op
def width (l : List UInt8) (i:Nat) : Nat:=(tailNl (l.take i)).length
def closing (l : List UInt8) (s : Scn) (i:Nat) : List Tok :=
 s.toks ++ (if s.fresh then [] else [tokAt l 1 [] i]) ++ List.replicate (s.ind.length - 1) (tokAt l 3 [] i) ++ [tokAt l 0 [] i]
inductive Stp where
 | done (t : List Tok)
 | fault (c:Int) (i:Nat)
 | more (s : Scn)
def takeTok (l : List UInt8) (i:Nat) (s : Scn) : Stp:=match lexTok (l.drop i) with
 | .error (c,k) => .fault c (i + k)
 | .ok (kind,n) =>
  if kind = 8 then match bracket s.op ((l.drop i).take n) with
   | none => .fault 1 i
   | some op => .more { s with at_:=i + n,op:=op,toks:=s.toks ++ [tokAt l 8 ((l.drop i).take n) i] }
  else .more { s with at_:=i + n,toks:=s.toks ++ [tokAt l kind ((l.drop i).take n) i] }
def stepB (l : List UInt8) (s : Scn) (i:Nat) : Stp :=
 if l.length ≤ i then (if s.op ≠ [] then .fault 15 i else .done (closing l s i))
 else if at0 l i = 10 then
  (if s.fresh = false∧s.op = [] then .more { s with at_:=i + 1,toks:=s.toks ++ [tokAt l 1 [] i],fresh:=true } else .more { s with at_:=i + 1 })
 else if s.fresh then match indent (width l i) s.ind with
  | none => .fault 17 i
  | some (ind,ks) => takeTok l i { s with ind:=ind,toks:=s.toks ++ ks.map fun k => tokAt l k [] i,fresh:=false }
 else takeTok l i s
def stepS (l : List UInt8) (s : Scn) : Stp:=stepB l s (s.at_ + skipLen (l.drop s.at_))
def scanF (l : List UInt8) : Nat → Scn → Except (Int × Int) (List Tok)
 | 0,_ => .error (0,0)
 | f + 1,s => match stepS l s with
  | .done t => .ok t
  | .fault c i => .error (c,i)
  | .more s => scanF l f s
def scanT (l : List UInt8) : Except (Int × Int) (List Tok) :=
 if (sfault l).1 ≠ 0 then .error (sfault l) else scanF l (l.length + 1) ⟨0,[0],[],[],true⟩
theorem span_le (p : UInt8 → Bool) (l : List UInt8) : span p l ≤ l.length:=by
 have:=congrArg List.length (List.takeWhile_append_dropWhile (p:=p) (l:=l));rw [List.length_append] at this;unfold span;omega
theorem at0_cons (c : UInt8) (r : List UInt8) (k:Nat) : at0 (c :: r) (k + 1) = at0 r k:=rfl
theorem at0_drop (r : List UInt8) (i k:Nat) : at0 (r.drop i) k = at0 r (i + k):=by simp [at0,List.getD,List.getElem?_drop]
theorem at0_lt (r : List UInt8) (k:Nat) (h : k < r.length) : at0 r k = r[k]:=by simp [at0,h]
theorem at0_ge (r : List UInt8) (k:Nat) (h : r.length ≤ k) : at0 r k = 0:=by simp [at0,h]
end
end Go.Proofs.YtonehlkiackhcaaGreatDoor