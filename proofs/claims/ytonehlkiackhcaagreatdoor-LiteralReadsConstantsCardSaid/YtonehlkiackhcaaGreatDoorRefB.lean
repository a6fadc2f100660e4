/- The reference's At, SourceFault: what they compute. Nothing is claimed here. -/
import Derived.Test.YtonehlkiackhcaaGreatDoorSeqI
import Derived.Lib.OthersKept
import Derived.IntWalk
import Derived.Laws.MakeOwn
import Derived.Laws.Entries
set_option linter.unusedVariables false
set_option maxRecDepth 100000
set_option maxHeartbeats 16000000
namespace Go.Proofs.YtonehlkiackhcaaGreatDoor
open Go.RowKit Go.Shelf Go.Lib
def Tabs (w : World) : Prop:=Lib.Utf8Tabs 0 1 w
theorem lt_of_cell {w : World} {b o : Nat} {v : Value} (h : w.cell? ⟨b,o,none⟩ = some v) : b < w.heap.size:=by
 obtain ⟨ob,ho,_⟩:=cells_of_cell h;exact (Array.getElem?_eq_some_iff.1 ho).1
theorem Tabs.keepB {w w' : World} (h : Tabs w) (hb : Below w.heap.size w w') : Tabs w':=by
 have l1:=lt_of_cell (h.1 0 (by omega));have l2:=lt_of_cell (h.2 0 (by omega)).1;exact ⟨fun c hc => (hb.cell (p:=⟨_,c,none⟩) l1).trans (h.1 c hc),fun i hi => ⟨(hb.cell (p:=⟨_,2 * i,none⟩) l2).trans (h.2 i hi).1,(hb.cell (p:=⟨_,2 * i + 1,none⟩) l2).trans (h.2 i hi).2⟩⟩
def flt (c i : Int) : Value:=.agg #[.int .i64 c,.int .i64 i]
theorem decode_drop (l : List UInt8) (p : Nat) : Utf8.decode ⟨l.toArray⟩ p = decodeL (l.drop p):=by
 have h:=tail_decode ⟨l.toArray⟩ p 0;rw [Nat.add_zero] at h;rw [← h];unfold decodeL
 congr 1
 exact extract_from l p _ (Nat.le_refl _)
theorem decodeGo_ne (l : List UInt8) (hne : l ≠ []) : Lib.decodeGo ⟨l.toArray⟩ = decodeL l:=by
 unfold Lib.decodeGo;rw [if_neg (by have:=List.length_pos_iff.2 hne; simp [ByteArray.size]; omega)];rfl
theorem decodeL_rune_le (l : List UInt8) : (decodeL l).1 ≤ 2147483647:=decode_le _ _
theorem decodeL_width_le (l : List UInt8) (hne : l ≠ []) : (decodeL l).2 ≤ l.length:=by
 have:=List.length_pos_iff.2 hne;rw [decodeL_eq];rcases decodeN_cases l.length (bAt l 0) (bAt l 1) (bAt l 2) (bAt l 3) with ⟨_,h⟩ | h | ⟨hn,_,_,c,_,h⟩ | ⟨hn,_,_,_,c,_,h⟩ | ⟨hn,_,_,_,_,c,_,h⟩
 ·rw [h]; exact this
 ·rw [h]; exact this
 ·rw [h _ _ _ hn]; exact hn
 ·rw [h _ _ hn]; exact hn
 ·rw [h _ hn]; exact hn
theorem badL_iff (l : List UInt8) (r n : Nat) (h : decodeL l = (r,n)) : badL l = true ↔ (r < 32 ∧ r ≠ 10) ∨ (r = 65533 ∧ n = 1):=by
 unfold badL;rw [h];simp
theorem decode_any (l : List UInt8) (hne : l ≠ []) (w : World) (hT : Tabs w) :
  Calls Tryz.prog 84 #[.string ⟨l.toArray⟩] w fun e w' => e = .returned (.tuple #[.int .i32 (decodeL l).1,.int .i64 (decodeL l).2]) ∧ Below w.heap.size w w':=by
 refine (Tryz.utf8_DecodeRuneInString ⟨l.toArray⟩ w hT).mono ?_;rintro e w' ⟨rfl,hb⟩;rw [decodeGo_ne l hne];exact ⟨rfl,hb⟩
def CheckI (l : List UInt8) (B : Nat) (w wr : World) : Prop :=
 ∃ (pos f : Nat),wr.heap[B + 1]? = some (.stringIter ⟨l.toArray⟩ pos) ∧ Blk wr B 29 #[.int .i64 0,.int .i64 0] ∧ Below B w wr ∧ badAt f (l.drop pos) pos = badAt l.length l 0 ∧ l.length ≤ pos + f ∧ pos ≤ l.length
theorem badAt_end (f : Nat) (p : Nat) : badAt f [] p = none:=by cases f <;> simp [badAt]
theorem badAt_bad (f : Nat) (l : List UInt8) (p : Nat) (hf : 1 ≤ f) (hne : l ≠ []) (h : badL l = true) : badAt f l p = some p:=by
 obtain ⟨g,rfl⟩ : ∃ g,f = g + 1:=⟨f - 1,by omega⟩;unfold badAt;rw [if_neg hne,if_pos h]
theorem badAt_good (f : Nat) (l : List UInt8) (p : Nat) (hne : l ≠ []) (h : badL l = false) : badAt (f + 1) l p = badAt f (l.drop (decodeL l).2) (p + (decodeL l).2):=by
 conv => lhs; unfold badAt
 rw [if_neg hne,h,if_neg (by simp)]
theorem check_any (l : List UInt8) (w : World) (hl : l.length ≤ 9223372036854775807) (hT : Tabs w) :
  Calls Tryz.prog 116 #[.string ⟨l.toArray⟩] w fun e w' => e = .returned (flt (sfault l).1 (sfault l).2) ∧ Below w.heap.size w w':=by
 by_cases hlen : 16000 < l.length
 ·have hs : sfault l = (3,-1):=(by unfold sfault; rw [if_pos hlen]);rw [hs];clear hs;go_enter Tryz.func116,Tryz.ntmps116;go_wp2;exact ret_blk rfl rfl (Blk.new w 29 #[.int .i64 3,.int .i64 (-1)]) _ Tryz.underlying29 rfl (by kernel_rfl) rfl ⟨rfl,(Below.refl _ _).alloc (Nat.le_refl _) _⟩
 ·have hle : l.length ≤ 16000:=(by omega);clear hlen;go_enter Tryz.func116,Tryz.ntmps116;go_wp2_with fail
  go_loopw [3] (fun _ wr => CheckI l w.heap.size w wr) (fun _ wr => l.length - wr.iterPos (w.heap.size + 1))
  case atStart =>
   refine ⟨0,l.length,?_,?_,?_,rfl,by omega,Nat.zero_le _⟩
   ·have:=World.iter_heap (w.alloc (.cells #[.int .i64 0,.int .i64 0] 29)) ⟨l.toArray⟩ 0
    rwa [World.size_alloc] at this
   ·exact (Blk.new w 29 #[.int .i64 0,.int .i64 0]).alloc _
   ·exact ((Below.refl _ w).alloc (Nat.le_refl _) _).alloc (by simp) _
  case round =>
   obtain ⟨pos,f,hit,hB,hb,hbad,hf,hpl⟩:=hrel;obtain ⟨q1,q2,q3⟩:=hB.rules
   by_cases hp : pos < l.length
   ·have hne : l.drop pos ≠ []:=(by intro e; have:=congrArg List.length e; rw [List.length_drop,List.length_nil] at this; omega);obtain ⟨r,n,hd⟩ : ∃ r n,decodeL (l.drop pos) = (r,n):=⟨_,_,rfl⟩;have hnx : ∀ ty,(Instr.next (.pointer (some ⟨w.heap.size + 1,0,none⟩)) true ty).run Tryz.prog wr = _:=fun ty => run_next_any_at wr (w.heap.size + 1) ⟨l.toArray⟩ pos ty hit hp;rw [decode_drop,hd] at hnx;have hr:=decodeL_rune_le (l.drop pos);have hw1:=width_pos _ hne;have hw2:=decodeL_width_le _ hne;rw [hd] at hr hw1 hw2;rw [List.length_drop] at hw2;have HB:=Lib.hid hbad;have HD:=Lib.hid hd;have HI:=Lib.hid hit;clear hbad hd hit;go_wp2_with fail;rw [extract_from l pos l.length (Nat.le_refl _)];obtain ⟨W1,hW1⟩ : ∃ W1,wr.iterAt (w.heap.size + 1) ⟨l.toArray⟩ (pos + n) = W1:=⟨_,rfl⟩;have hB1 : Blk W1 w.heap.size 29 #[.int .i64 0,.int .i64 0]:=(by rw [← hW1]; exact (iterAt_other _ _ _ _ _ (by omega)).trans hB);have hb1 : Below w.heap.size w W1:=(by rw [← hW1]; exact below_iterAt hb (by omega) _ _);have hit1 : W1.heap[w.heap.size + 1]? = some (.stringIter ⟨l.toArray⟩ (pos + n)):=(by rw [← hW1]; exact iterAt_heap _ _ _ _ _ HI.out);rw [hW1];have HI1:=Lib.hid hit1;clear hW1 hnx hit1;refine (decode_any _ hne _ (hT.keepB hb1)).mono ?_;rintro e w2 ⟨rfl,hb2⟩;rw [HD.out];have hit2 : w2.heap[w.heap.size + 1]? = some (.stringIter ⟨l.toArray⟩ (pos + n)):=(hb2.block _ (Array.getElem?_eq_some_iff.1 HI1.out).1).trans HI1.out;have HI2:=Lib.hid hit2;have hB2:=hB1.belowS hb2;have hb3 : Below w.heap.size w w2:=below_then hb1 hb2 hb1.size;clear hit2 HI1 hB1 hb1 hb2 q1 q2 q3 hB hb;obtain ⟨q1,q2,q3⟩:=hB2.rules;have hbi:=badL_iff (l.drop pos) r n HD.out
    by_cases hbd : (r < 32 ∧ r ≠ 10) ∨ (r = 65533 ∧ n = 1)
    ·have HBD:=Lib.hid (badAt_bad f (l.drop pos) pos (by omega) hne (hbi.2 hbd));have HF : Hid (sfault l = (1,(pos : Int))):=Lib.hid (by unfold sfault; rw [if_neg (by omega),← HB.out,HBD.out]);clear hbi HBD;rcases hbd with ⟨b1,b2⟩ | ⟨b1,b2⟩
     ·have t2 : ((r : Int) != 10) = true:=(by rw [bne_iff_ne]; omega);clear b2;go_wp2;exact ret_blk rfl rfl ((hB2.set_ 0 (.int .i64 1)).set_ 1 (.int .i64 pos)) _ Tryz.underlying29 rfl (by kernel_rfl) rfl ⟨by rw [HF.out]; rfl,(hb3.setCell (p:=⟨_,0,none⟩) (by simp) _).setCell (p:=⟨_,1,none⟩) (by simp) _⟩
     ·subst b1 b2;go_wp2;exact ret_blk rfl rfl ((hB2.set_ 0 (.int .i64 1)).set_ 1 (.int .i64 pos)) _ Tryz.underlying29 rfl (by kernel_rfl) rfl ⟨by rw [HF.out]; rfl,(hb3.setCell (p:=⟨_,0,none⟩) (by simp) _).setCell (p:=⟨_,1,none⟩) (by simp) _⟩
    ·have hgd : badL (l.drop pos) = false:=(by rw [← Bool.not_eq_true,hbi]; exact hbd);obtain ⟨g,rfl⟩ : ∃ g,f = g + 1:=⟨f - 1,by omega⟩;have HG:=Lib.hid (badAt_good g (l.drop pos) pos hne hgd);have fin : CheckI l w.heap.size w w2:=by
      refine ⟨pos + n,g,HI2.out,hB2,hb3,?_,by omega,by omega⟩;rw [← HB.out,HG.out,HD.out,List.drop_drop]
     have hms : l.length - w2.iterPos (w.heap.size + 1) < l.length - wr.iterPos (w.heap.size + 1):=by
      unfold World.iterPos;rw [HI2.out,HI.out];simp only;omega
     have FIN:=Lib.hid fin;have HM:=Lib.hid hms;clear fin hms hbi hgd HG HB
     by_cases b1 : r < 32
     ·obtain rfl : r = 10:=(by omega);go_wp2;go_roundw
      case rel => exact FIN.out
      case measure => exact HM.out
     ·by_cases b2 : r = 65533
      ·have t4 : ((n : Int) == 1) = false:=(by rw [beq_eq_false_iff_ne]; omega);subst b2;clear hbd;go_wp2;go_roundw
       case rel => exact FIN.out
       case measure => exact HM.out
      ·have t3 : ((r : Int) == 65533) = false:=(by rw [beq_eq_false_iff_ne]; omega);clear hbd;go_wp2;go_roundw
       case rel => exact FIN.out
       case measure => exact HM.out
   ·have hnx : ∀ ty,(Instr.next (.pointer (some ⟨w.heap.size + 1,0,none⟩)) true ty).run Tryz.prog wr = _:=fun ty => run_next_end_at wr (w.heap.size + 1) ⟨l.toArray⟩ pos ty hit hp;obtain rfl : pos = l.length:=(by omega);have HF : Hid (sfault l = (0,0)):=Lib.hid (by unfold sfault; rw [if_neg (by omega),← hbad,List.drop_length,badAt_end]);clear hbad hit;go_wp2;exact ret_blk rfl rfl ((hB.set_ 0 (.int .i64 0)).set_ 1 (.int .i64 0)) _ Tryz.underlying29 rfl (by kernel_rfl) rfl ⟨by rw [HF.out]; rfl,(hb.setCell (p:=⟨_,0,none⟩) (by simp) _).setCell (p:=⟨_,1,none⟩) (by simp) _⟩
end Go.Proofs.YtonehlkiackhcaaGreatDoor

namespace Go.Proofs.YtonehlkiackhcaaGreatDoor
open Go.Lib
theorem rcl_cons (l : List UInt8) (hne : l ≠ []) : runeCountL l = 1 + runeCountL (l.drop (decodeL l).2):=by
 have hp:=List.length_pos_iff.2 hne;have hw:=width_pos l hne;unfold runeCountL runeCount;have e : (⟨l.toArray⟩ : ByteArray).size = l.length:=by simp [ByteArray.size]
 have e2 : (⟨(l.drop (decodeL l).2).toArray⟩ : ByteArray).size = l.length - (decodeL l).2:=by simp [ByteArray.size]
 obtain ⟨n,hn⟩ : ∃ n,l.length = n + 1:=⟨l.length - 1,by omega⟩;rw [e,hn]
 conv => lhs; unfold runeCountFrom
 rw [if_pos (by rw [e]; exact hp),decode_drop,List.drop_zero,Nat.zero_add,e2,hn,← hn]
 congr 1
 have h:=tail_count ⟨l.toArray⟩ (decodeL l).2 (l.length - (decodeL l).2) 0;rw [e,extract_from l _ _ (Nat.le_refl _),Nat.add_zero] at h;rw [h];exact fuel_enough _ _ _ _ (by rw [e]; omega) (by rw [e]; omega)
theorem rcl_le (l : List UInt8) : runeCountL l ≤ l.length:=by
 have:=runeCount_le ⟨l.toArray⟩;simpa [runeCountL,ByteArray.size] using this
def runeOff : Nat → List UInt8 → Nat
 | 0,_ => 0
 | k + 1,l => if l = [] then 0 else (decodeL l).2 + runeOff k (l.drop (decodeL l).2)
def tailNl (l : List UInt8) : List UInt8:=l.drop (lastIndexByte ⟨l.toArray⟩ 10 + 1).toNat
def nlc : List UInt8:=[10]
theorem Chr.shape {c : List UInt8} (h : Chr c) : (∃ x : UInt8,c = [x]) ∨ ∀ j,j < c.length → 128 ≤ bAt c j:=by
 by_cases h1 : c.length = 1
 ·exact .inl (List.length_eq_one_iff.1 h1)
 ·refine .inr fun j hj => ?_;rcases Nat.eq_zero_or_pos j with rfl | hp
  ·rcases Nat.lt_or_ge (bAt c 0) 128 with hlt | hge
   ·exfalso;have hd:=h.dec [];rw [List.append_nil,decodeL_eq] at hd;rcases decodeN_cases c.length (bAt c 0) (bAt c 1) (bAt c 2) (bAt c 3) with ⟨_,h2⟩ | h2 | ⟨_,h2,_⟩ | ⟨_,h2,_⟩ | ⟨_,h2,_⟩
    ·rw [h2] at hd;injection hd with _ hd;omega
    ·rw [h2] at hd;injection hd with _ hd;omega
    ·omega
    ·omega
    ·omega
   ·exact hge
  ·have:=h.tail j hp hj;omega
theorem Chr.no_nl {c : List UInt8} (h : Chr c) (hne : c ≠ nlc) : (10 : UInt8) ∉ c:=by
 intro hm;rcases h.shape with ⟨x,rfl⟩ | h2
 ·simp at hm;subst hm;exact hne rfl
 ·obtain ⟨j,hj,hx⟩:=List.getElem_of_mem hm;have:=h2 j hj;simp [bAt,hj,hx] at this
theorem Chr.drop {c : List UInt8} (h : Chr c) (t : List UInt8) : (c ++ t).drop (decodeL (c ++ t)).2 = t:=by
 rw [h.dec t];simp
theorem Chr.ne {c : List UInt8} (h : Chr c) (t : List UInt8) : c ++ t ≠ []:=by
 have:=h.pos;intro e;have:=congrArg List.length e;rw [List.length_append,List.length_nil] at this;omega
theorem rcl_chars : ∀ cs : List (List UInt8),(∀ c ∈ cs,Chr c) → runeCountL cs.flatten = cs.length
 | [],_ => rfl
 | c :: cs,h => by
  have hc:=h c (List.mem_cons_self ..);rw [List.flatten_cons,rcl_cons _ (hc.ne _),hc.drop,rcl_chars cs (fun x hx => h x (List.mem_cons_of_mem _ hx)),List.length_cons];omega
def step (p : Int × Int) (c : List UInt8) : Int × Int:=if c = nlc then (p.1 + 1,1) else (p.1,p.2 + 1)
def place (cs : List (List UInt8)) : Int × Int:=cs.foldl step (1,1)
theorem lastIndex_none (l : List UInt8) (h : (10 : UInt8) ∉ l) : lastIndexByte ⟨l.toArray⟩ 10 = -1:=by
 have e : (⟨l.toArray⟩ : ByteArray).size = l.length:=by simp [ByteArray.size]
 rcases lastIdx_spec ⟨l.toArray⟩ 10 (⟨l.toArray⟩ : ByteArray).size with ⟨h1,_⟩ | ⟨i,hi,h1,h2,_⟩
 ·exact h1
 ·exfalso;rw [e] at hi;apply h;have h3 : l[i] = 10:=by
   simp [hi] at h2;exact UInt8.toNat_inj.1 (by show l[i].toNat = 10; omega)
  rw [← h3];exact List.getElem_mem hi
theorem lastIndex_at (p q : List UInt8) (h : (10 : UInt8) ∉ q) : lastIndexByte ⟨(p ++ 10 :: q).toArray⟩ 10 = p.length:=by
 have e : (⟨(p ++ 10 :: q).toArray⟩ : ByteArray).size = p.length + q.length + 1:=by simp [ByteArray.size]; omega
 have hb : ∀ j,j < p.length + q.length + 1 → (((⟨(p ++ 10 :: q).toArray⟩ : ByteArray).data[j]!).toNat : Int) = ((p ++ 10 :: q)[j]?.getD 0).toNat:=by
  intro j hj;have hj' : j < (p ++ 10 :: q).length:=(by simp; omega);simp only [List.getElem!_toArray,List.getElem?_eq_getElem hj',Option.getD_some,getElem!_pos (p ++ 10 :: q) j hj']
 rcases lastIdx_spec ⟨(p ++ 10 :: q).toArray⟩ 10 (⟨(p ++ 10 :: q).toArray⟩ : ByteArray).size with ⟨_,h2⟩ | ⟨i,hi,h1,h2,h3⟩
 ·exfalso;have:=h2 p.length (by rw [e]; omega);rw [hb _ (by omega)] at this;simp at this
 ·unfold lastIndexByte;rw [h1];rcases Nat.lt_trichotomy i p.length with hlt | rfl | hgt
  ·exfalso;have:=h3 p.length hlt (by rw [e]; omega);rw [hb _ (by omega)] at this;simp at this
  ·rfl
  ·exfalso;rw [e] at hi;rw [hb _ hi] at h2;apply h;obtain ⟨d,rfl⟩ : ∃ d,i = p.length + 1 + d:=⟨i - p.length - 1,by omega⟩;have hd : d < q.length:=(by omega);have : (p ++ 10 :: q)[p.length + 1 + d]? = some q[d]:=by
    rw [List.getElem?_append_right (by omega),show p.length + 1 + d - p.length = d + 1 by omega,List.getElem?_cons_succ,List.getElem?_eq_getElem hd]
   rw [this] at h2;rw [Option.getD_some] at h2;have h4 : q[d] = 10:=UInt8.toNat_inj.1 (by show q[d].toNat = 10; omega);rw [← h4];exact List.getElem_mem hd
theorem tailNl_none (l : List UInt8) (h : (10 : UInt8) ∉ l) : tailNl l = l:=by
 unfold tailNl;rw [lastIndex_none l h];simp
theorem tailNl_at (p q : List UInt8) (h : (10 : UInt8) ∉ q) : tailNl (p ++ 10 :: q) = q:=by
 unfold tailNl;rw [lastIndex_at p q h,show ((p.length : Int) + 1).toNat = p.length + 1 by omega,List.drop_append];simp
theorem last_split (l : List UInt8) : (10 : UInt8) ∉ l ∨ ∃ p q,l = p ++ 10 :: q ∧ (10 : UInt8) ∉ q:=by
 induction l with
 | nil => exact .inl (by simp)
 | cons x l ih =>
  rcases ih with h | ⟨p,q,rfl,hq⟩
  ·by_cases hx : x = 10
   ·exact .inr ⟨[],l,by simp [hx],h⟩
   ·exact .inl (by simp [h]; exact fun e => hx e.symm)
  ·exact .inr ⟨x :: p,q,rfl,hq⟩
theorem tailNl_more (l c : List UInt8) (h : (10 : UInt8) ∉ c) : tailNl (l ++ c) = tailNl l ++ c:=by
 rcases last_split l with hl | ⟨p,q,rfl,hq⟩
 ·rw [tailNl_none l hl,tailNl_none (l ++ c) (by simp [hl,h])]
 ·rw [tailNl_at p q hq,List.append_assoc,List.cons_append,tailNl_at p (q ++ c) (by simp [hq,h])]
theorem place_bytes (cs : List (List UInt8)) (h : ∀ c ∈ cs,Chr c) : ((cs.flatten.count 10 : Nat) : Int) + 1 = (place cs).1 ∧ ((runeCountL (tailNl cs.flatten) : Nat) : Int) + 1 = (place cs).2:=by
 have key : ∀ (n : Nat),n ≤ cs.length → (((cs.take n).flatten.count 10 : Nat) : Int) + 1 = (place (cs.take n)).1 ∧ ∃ post : List (List UInt8),tailNl (cs.take n).flatten = post.flatten ∧ (∀ c ∈ post,Chr c) ∧ ((post.length : Nat) : Int) + 1 = (place (cs.take n)).2:=by
  intro n
  induction n with
  | zero => intro _; exact ⟨rfl,[],by simp [tailNl_none],by simp,rfl⟩
  | succ n ih =>
   intro hn;obtain ⟨h1,post,h2,h3,h4⟩:=ih (by omega);have hlt : n < cs.length:=(by omega);have hc:=h cs[n] (List.getElem_mem hlt);have e : cs.take (n + 1) = cs.take n ++ [cs[n]]:=List.take_succ_eq_append_getElem hlt;have ep : place (cs.take (n + 1)) = step (place (cs.take n)) cs[n]:=(by unfold place; rw [e,List.foldl_append]; rfl);rw [ep,e];simp only [List.flatten_append,List.flatten_cons,List.flatten_nil,List.append_nil];unfold step
   by_cases hnl : cs[n] = nlc
   ·rw [if_pos hnl,hnl];refine ⟨?_,[],?_,by simp,rfl⟩
    ·rw [← h1];simp [nlc]
    ·exact tailNl_at _ [] (by simp)
   ·rw [if_neg hnl];have hno:=hc.no_nl hnl;refine ⟨?_,post ++ [cs[n]],?_,?_,?_⟩
    ·rw [← h1,List.count_append,List.count_eq_zero.2 hno,Nat.add_zero]
    ·rw [tailNl_more _ _ hno,h2];simp
    ·intro c hcm;rcases List.mem_append.1 hcm with hcm | hcm
     ·exact h3 c hcm
     ·rw [List.mem_singleton.1 hcm]; exact hc
    ·simp only [← h4,List.length_append,List.length_singleton];omega
 obtain ⟨h1,post,h2,h3,h4⟩:=key cs.length (Nat.le_refl _);rw [List.take_length] at h1 h2 h4;exact ⟨h1,by rw [h2,rcl_chars post h3]; exact h4⟩
theorem start_chars : ∀ (cs : List (List UInt8)) (n : Nat),(∀ c ∈ cs,Chr c) → n ≤ cs.flatten.length → (n < cs.flatten.length → bAt cs.flatten n / 64 ≠ 2) → ∃ k,k ≤ cs.length ∧ n = (cs.take k).flatten.length
 | [],n,_,h1,_ => ⟨0,Nat.le_refl _,by simp at h1; simp [h1]⟩
 | c :: cs,n,h,h1,h2 => by
  have hc:=h c (List.mem_cons_self ..);rcases Nat.eq_zero_or_pos n with rfl | hp
  ·exact ⟨0,Nat.zero_le _,by simp⟩
  ·rw [List.flatten_cons] at h1 h2;rcases Nat.lt_or_ge n c.length with hlt | hge
   ·exfalso;have hb : bAt (c ++ cs.flatten) n = bAt c n:=(by unfold bAt; rw [List.getD_eq_getElem?_getD,List.getD_eq_getElem?_getD,List.getElem?_append_left hlt]);apply h2 (by rw [List.length_append]; omega);rw [hb];exact hc.tail n hp hlt
   ·rw [List.length_append] at h1;obtain ⟨k,hk,e⟩:=start_chars cs (n - c.length) (fun x hx => h x (List.mem_cons_of_mem _ hx)) (by omega) (fun hlt => by
     have:=h2 (by rw [List.length_append]; omega);have hb : bAt (c ++ cs.flatten) n = bAt cs.flatten (n - c.length):=by unfold bAt; rw [List.getD_eq_getElem?_getD,List.getD_eq_getElem?_getD,List.getElem?_append_right hge]
     rwa [hb] at this)
    exact ⟨k + 1,by simp; omega,by rw [List.take_succ_cons,List.flatten_cons,List.length_append,← e]; omega⟩
theorem take_flatten : ∀ (cs : List (List UInt8)) (k : Nat),cs.flatten.take (cs.take k).flatten.length = (cs.take k).flatten
 | [],_ => by simp
 | _ :: _,0 => by simp
 | c :: cs,k + 1 => by
  rw [List.take_succ_cons,List.flatten_cons,List.flatten_cons,List.length_append,List.take_length_add_append,take_flatten cs k]
end Go.Proofs.YtonehlkiackhcaaGreatDoor


namespace Go.Proofs.YtonehlkiackhcaaGreatDoor
open Go.RowKit Go.Shelf Go.Lib
def widthsF : Nat → List UInt8 → List Int
 | 0,_ => []
 | f + 1,l => if l = [] then [] else if badL l then -1 :: widthsF f (l.drop 1) else ((decodeL l).2 : Int) :: (List.replicate ((decodeL l).2 - 1) 0 ++ widthsF f (l.drop (decodeL l).2))
def widths (l : List UInt8) : List Int:=widthsF l.length l
theorem widthsF_len : ∀ (f : Nat) (l : List UInt8),l.length ≤ f → (widthsF f l).length = l.length
 | 0,l,h => by
  have : l = []:=List.eq_nil_of_length_eq_zero (by omega);subst this;rfl
 | f + 1,l,h => by
  unfold widthsF;split
  ·rename_i e; subst e; rfl
  ·rename_i hne;have hp:=List.length_pos_iff.2 hne;have hw:=width_pos l hne;have hw2:=decodeL_width_le l hne;split
   ·rw [List.length_cons,widthsF_len f _ (by rw [List.length_drop]; omega),List.length_drop]; omega
   ·rw [List.length_cons,List.length_append,List.length_replicate,widthsF_len f _ (by rw [List.length_drop]; omega),List.length_drop]; omega
theorem widths_len (l : List UInt8) : (widths l).length = l.length:=widthsF_len _ _ (Nat.le_refl _)
def ics (l : List Int) : List Value:=l.map (Value.int .i64)
theorem run_make_ints (n : Nat) (hn : n ≤ 140737488355328 / 8) (w : World) :
  (Instr.makeSlice 51 (.int .i64 (n : Int)) (.int .i64 (n : Int))).run Tryz.prog w = .ok (.slice (some ⟨w.heap.size,0,none⟩) n n) (w.alloc (.cells (ics (List.replicate n 0)).toArray 3)):=by
 have hinfo : (Tryz.prog.info? 3).map (fun i => (i.zero,i.size,i.bytes)) = some (some (.int .i64 0),1,8):=by kernel_rfl
 obtain ⟨i0,hi,hz0,hz1,hz2⟩:=info_parts hinfo;have hr:=run_make (P:=Tryz.prog) w 51 3 i0 (.int .i64 0) Tryz.underlying51 hi hz0 .i64 .i64 n n (by omega) (by omega) (by rw [hz2]; omega) (by omega);simp only [Int.toNat_natCast,hz1,Nat.mul_one] at hr;rw [hr];have e : madeCells (Value.int .i64 0).cells n = (ics (List.replicate n 0)).toArray:=by
  apply Array.toList_inj.1;have:=toList_madeCells_one (.int .i64 0) n;simpa [ics,Value.cells] using this
 rw [e]
theorem ics_set (d : List Int) (m : Nat) (u : Int) (hm : 0 < m) : (ics (d ++ List.replicate m 0)).toArray.setIfInBounds d.length (.int .i64 u) = (ics (d ++ u :: List.replicate (m - 1) 0)).toArray:=by
 obtain ⟨k,rfl⟩ : ∃ k,m = k + 1:=⟨m - 1,by omega⟩;simp [ics,List.replicate_succ]
theorem ics_at (d : List Int) (m p : Nat) (hd : d.length = p) (hm : 0 < m) : (ics (d ++ List.replicate m 0)).toArray[p]? = some (.int .i64 0):=by
 obtain ⟨k,rfl⟩ : ∃ k,m = k + 1:=⟨m - 1,by omega⟩;subst hd;simp [ics,List.replicate_succ]
def WidI (l : List UInt8) (B : Nat) (w : World) (i : Value) (wr : World) : Prop :=
 ∃ (p f : Nat) (d : List Int),i = .int .i64 p ∧ p ≤ l.length ∧ l.length ≤ p + f ∧ d.length = p ∧ widths l = d ++ widthsF f (l.drop p) ∧ Blk wr B 3 (ics (d ++ List.replicate (l.length - p) 0)).toArray ∧ Below B w wr
theorem widths_any (l : List UInt8) (w : World) (hl : l.length ≤ 16000) (hT : Tabs w) :
  Calls Tryz.prog 161 #[.string ⟨l.toArray⟩] w fun e w' => e = .returned (.slice (some ⟨w.heap.size,0,none⟩) l.length l.length) ∧ Blk w' w.heap.size 3 (ics (widths l)).toArray ∧ Below w.heap.size w w':=by
 have hmk:=fun W => run_make_ints l.length (by omega) W;go_enter Tryz.func161,Tryz.ntmps161;go_wp2_with fail;clear hmk
 go_loopw [4] (fun i wr => WidI l w.heap.size w i wr) (fun i _ => l.length - (RowKit.intOf i).toNat)
 case atStart =>
  exact ⟨0,l.length,[],rfl,Nat.zero_le _,by omega,rfl,rfl,by simpa using Blk.new w 3 (ics (List.replicate l.length 0)).toArray,(Below.refl _ _).alloc (Nat.le_refl _) _⟩
 case round =>
  obtain ⟨p,f,d,rfl,hp,hf,hd,hwd,hB,hb⟩:=hrel
  by_cases hlt : p < l.length
  ·have hne : l.drop p ≠ []:=(by intro e; have:=congrArg List.length e; rw [List.length_drop,List.length_nil] at this; omega);obtain ⟨r,n,hdc⟩ : ∃ r n,decodeL (l.drop p) = (r,n):=⟨_,_,rfl⟩;have hr:=decodeL_rune_le (l.drop p);have hw1:=width_pos _ hne;have hw2:=decodeL_width_le _ hne;rw [hdc] at hr hw1 hw2;rw [List.length_drop] at hw2;obtain ⟨g,rfl⟩ : ∃ g,f = g + 1:=⟨f - 1,by omega⟩;have HD:=Lib.hid hdc;have HWD:=Lib.hid hwd;have HDL:=Lib.hid hd;clear hdc hwd hd;go_wp2_with fail;rw [extract_from l p l.length (Nat.le_refl _)];refine (decode_any _ hne _ (hT.keepB hb)).mono ?_;rintro e w2 ⟨rfl,hb2⟩;rw [HD.out];have hB2:=hB.belowS hb2;have hb3:=below_then hb hb2 hb.size;have hc:=hB2.cell p;have hfz:=hB2.frozen p;have hlB:=hB2.lt;rw [ics_at d (l.length - p) p HDL.out (by omega)] at hc;clear hB hb hb2;have hbi:=badL_iff (l.drop p) r n HD.out
   by_cases hbd : (r < 32 ∧ r ≠ 10) ∨ (r = 65533 ∧ n = 1)
   ·have hbt:=hbi.2 hbd;have HX:=Lib.hid (show widths l = (d ++ [-1]) ++ widthsF g (l.drop (p + 1)) by
     rw [HWD.out]
     conv => lhs; unfold widthsF
     rw [if_neg hne,if_pos hbt,List.drop_drop];simp)
    have HBK:=Lib.hid (show Blk (w2.setCell ⟨w.heap.size,p,none⟩ (.int .i64 (-1))) w.heap.size 3 (ics ((d ++ [-1]) ++ List.replicate (l.length - (p + 1)) 0)).toArray by
     have h:=hB2.set_ p (.int .i64 (-1));rw [← HDL.out,ics_set d (l.length - d.length) (-1) (by have:=HDL.out; omega),show l.length - d.length - 1 = l.length - (d.length + 1) by omega] at h;rw [← HDL.out];simpa using h)
    clear hbi hbt HWD hB2;rcases hbd with ⟨b1,b2⟩ | ⟨b1,b2⟩
    ·have t1 : ((r : Int) == 65533) = false:=(by rw [beq_eq_false_iff_ne]; omega);have t2 : ((r : Int) != 10) = true:=(by rw [bne_iff_ne]; omega);have t5 : decide ((r : Int) < 32) = true:=decide_eq_true (by omega);clear b2;go_wp2_with fail
     all_goals
      go_roundw
      case rel => exact ⟨p + 1,g,d ++ [-1],by go_num,by omega,by omega,by simp [HDL.out],HX.out,HBK.out,hb3.setCell (p:=⟨_,_,none⟩) (by simp) _⟩
      case measure => simp [RowKit.intOf]; omega
    ·subst b1 b2;go_wp2_with fail;go_roundw
     case rel => exact ⟨p + 1,g,d ++ [-1],by go_num,by omega,by omega,by simp [HDL.out],HX.out,HBK.out,hb3.setCell (p:=⟨_,_,none⟩) (by simp) _⟩
     case measure => simp [RowKit.intOf]; omega
   ·have hbf : badL (l.drop p) = false:=(by rw [← Bool.not_eq_true,hbi]; exact hbd);have HX:=Lib.hid (show widths l = (d ++ (n : Int) :: List.replicate (n - 1) 0) ++ widthsF g (l.drop (p + n)) by
     rw [HWD.out]
     conv => lhs; unfold widthsF
     rw [if_neg hne,if_neg (by rw [hbf]; simp),HD.out,List.drop_drop];simp)
    have HBK:=Lib.hid (show Blk (w2.setCell ⟨w.heap.size,p,none⟩ (.int .i64 n)) w.heap.size 3 (ics ((d ++ (n : Int) :: List.replicate (n - 1) 0) ++ List.replicate (l.length - (p + n)) 0)).toArray by
     have h:=hB2.set_ p (.int .i64 n);rw [← HDL.out,ics_set d (l.length - d.length) n (by have:=HDL.out; omega)] at h;rw [← HDL.out,List.append_assoc,List.cons_append,List.replicate_append_replicate,show n - 1 + (l.length - (d.length + n)) = l.length - d.length - 1 by have:=HDL.out; omega];exact h)
    have hdl : (d ++ (n : Int) :: List.replicate (n - 1) 0).length = p + n:=(by simp [HDL.out]; omega);have HDN:=Lib.hid hdl;clear hbi hbf HWD hB2 hdl
    by_cases b1 : r < 32
    ·obtain rfl : r = 10:=(by omega);go_wp2_with fail;go_roundw
     case rel => exact ⟨p + n,g,_,by go_num,by omega,by omega,HDN.out,HX.out,HBK.out,hb3.setCell (p:=⟨_,_,none⟩) (by simp) _⟩
     case measure => simp [RowKit.intOf]; omega
    ·by_cases b2 : r = 65533
     ·subst b2;have b3 : ¬ n ≤ 1:=(by omega);have t5 : decide ((n : Int) ≤ 1) = false:=decide_eq_false (by omega);clear hbd;go_wp2_with fail;go_roundw
      case rel => exact ⟨p + n,g,_,by go_num,by omega,by omega,HDN.out,HX.out,HBK.out,hb3.setCell (p:=⟨_,_,none⟩) (by simp) _⟩
      case measure => simp [RowKit.intOf]; omega
     ·have t3 : ((r : Int) == 65533) = false:=(by rw [beq_eq_false_iff_ne]; omega);have t5 : decide ((r : Int) < 32) = false:=decide_eq_false (by omega);clear hbd;go_wp2_with fail;go_roundw
      case rel => exact ⟨p + n,g,_,by go_num,by omega,by omega,HDN.out,HX.out,HBK.out,hb3.setCell (p:=⟨_,_,none⟩) (by simp) _⟩
      case measure => simp [RowKit.intOf]; omega
  ·obtain rfl : p = l.length:=(by omega);have HWD:=Lib.hid hwd;have HDL:=Lib.hid hd;clear hwd hd;go_wp2_with fail;go_ret;refine ⟨rfl,?_,hb⟩;have : widths l = d:=by
    rw [HWD.out,List.drop_length];cases f <;> simp [widthsF]
   rw [this];simpa using hB
end Go.Proofs.YtonehlkiackhcaaGreatDoor

namespace Go.Proofs.YtonehlkiackhcaaGreatDoor
open Go.RowKit Go.Shelf Go.Lib
theorem atR_any (c i : Int) (w : World) : Calls Tryz.prog 36 #[.int .i64 c,.int .i64 i] w fun e w' => e = .returned (flt c i) ∧ Below w.heap.size w w':=by
 go_enter Tryz.func36,Tryz.ntmps36;go_wp2;exact ret_blk rfl rfl (Blk.new w 29 #[.int .i64 c,.int .i64 i]) _ Tryz.underlying29 rfl (by kernel_rfl) rfl ⟨rfl,(Below.refl _ _).alloc (Nat.le_refl _) _⟩
def firstNeg : List Int → Nat → Option Nat
 | [],_ => none
 | n :: l,p => if n < 0 then some p else firstNeg l (p + 1)
theorem firstNeg_zeros : ∀ (k : Nat) (l : List Int) (p : Nat),firstNeg (List.replicate k 0 ++ l) p = firstNeg l (p + k)
 | 0,l,p => by simp
 | k + 1,l,p => by
  rw [List.replicate_succ,List.cons_append];have e : firstNeg (0 :: (List.replicate k 0 ++ l)) p = firstNeg (List.replicate k 0 ++ l) (p + 1):=(by simp [firstNeg]);rw [e,firstNeg_zeros k l (p + 1),show p + 1 + k = p + (k + 1) by omega]
theorem firstNeg_widths : ∀ (f : Nat) (l : List UInt8) (p : Nat),firstNeg (widthsF f l) p = badAt f l p
 | 0,_,_ => rfl
 | f + 1,l,p => by
  unfold widthsF badAt;split
  ·rfl
  ·rename_i hne;have hw:=width_pos l hne;split
   ·simp [firstNeg]
   ·unfold firstNeg;rw [if_neg (by omega),firstNeg_zeros,firstNeg_widths f]
    congr 1
    omega
theorem firstNeg_fault (l : List UInt8) (h : l.length ≤ 16000) : sfault l = match firstNeg (widths l) 0 with
  | none => (0,0)
  | some p => (1,(p : Int)):=by
 unfold sfault widths;rw [if_neg (by omega),firstNeg_widths];cases badAt l.length l 0 <;> rfl
theorem sourceFault_any (l : List UInt8) (w : World) (hl : l.length ≤ 9223372036854775807) (hT : Tabs w) :
  Calls Tryz.prog 125 #[.string ⟨l.toArray⟩] w fun e w' => e = .returned (flt (sfault l).1 (sfault l).2) ∧ Below w.heap.size w w':=by
 have hT1 : Tabs (w.alloc (.cells #[.int .i64 0,.int .i64 0] 29)):=hT.keepB ((Below.refl _ _).alloc (Nat.le_refl _) _)
 by_cases hlen : 16000 < l.length
 ·have HZ:=Lib.hid (show sfault l = (3,-1) by unfold sfault; rw [if_pos hlen]);go_enter Tryz.func125,Tryz.ntmps125;go_wp2_with fail;refine (atR_any _ _ _).mono ?_;rintro e w1 ⟨rfl,hb1⟩;have hB1:=(Blk.new w 29 #[.int .i64 0,.int .i64 0]).belowS hb1;have hb:=below_then ((Below.refl _ w).alloc (Nat.le_refl _) _) hb1 (by simp);obtain ⟨q1,q2,q3⟩:=hB1.rules;unfold flt;go_wp2_with fail;exact ret_blk rfl rfl ((hB1.set_ 0 (.int .i64 3)).set_ 1 (.int .i64 (-1))) _ Tryz.underlying29 rfl (by kernel_rfl) rfl  ⟨(by rw [HZ.out]; rfl),(hb.setCell (p:=⟨_,0,none⟩) (by simp) _).setCell (p:=⟨_,1,none⟩) (by simp) _⟩
 ·have hle : l.length ≤ 16000:=(by omega);have hwl:=widths_len l;have HF:=Lib.hid (firstNeg_fault l hle);have hn1 : (widths l).length ≤ l.length:=(by omega);have hn2 : l.length ≤ (widths l).length:=(by omega);clear hlen hwl;go_enter Tryz.func125,Tryz.ntmps125;go_wp2_with fail;refine (widths_any l _ hle hT1).mono ?_;rintro e w1 ⟨rfl,hBW,hb1⟩;have hB1:=(Blk.new w 29 #[.int .i64 0,.int .i64 0]).belowS hb1;have hb:=below_then ((Below.refl _ w).alloc (Nat.le_refl _) _) hb1 (by simp);simp only [World.size_alloc] at hBW;obtain ⟨q1,q2,q3⟩:=hB1.rules;generalize hws : widths l = ws at *
  have HWS:=Lib.hid hws;clear hws hb1 hT1;go_wp2_with fail
  go_loop [12] (fun i => ∃ k : Nat,i = .int .i64 k ∧ k ≤ ws.length ∧ firstNeg (ws.drop k) k = firstNeg ws 0) (fun i => l.length - (RowKit.intOf i).toNat)
  case atStart => exact ⟨0,rfl,Nat.zero_le _,by simp⟩
  case round =>
   obtain ⟨k,rfl,hk,hfn⟩:=hrel;have HFN:=Lib.hid hfn;clear hfn
   by_cases hlt : k < l.length
   ·have hk' : k < ws.length:=(by omega);have hc:=hBW.cell k;rw [show (ics ws).toArray[k]? = some (.int .i64 ws[k]) by simp [ics,hk']] at hc;have hdr:=List.drop_eq_getElem_cons hk';have HDR:=Lib.hid hdr;clear hdr;generalize ws[k] = n at *
    by_cases hneg : n < 0
    ·have HZ:=Lib.hid (show sfault l = (1,(k : Int)) by
      rw [HF.out,← HFN.out,HDR.out];simp [firstNeg,hneg])
     go_wp2_with fail;refine (atR_any _ _ _).mono ?_;rintro e w2 ⟨rfl,hb2⟩;have hB2:=hB1.belowS hb2;have hb3:=below_then hb hb2 hb.size;clear q1 q2 q3;obtain ⟨q1,q2,q3⟩:=hB2.rules;unfold flt;go_wp2_with fail;exact ret_blk rfl rfl ((hB2.set_ 0 (.int .i64 1)).set_ 1 (.int .i64 k)) _ Tryz.underlying29 rfl (by kernel_rfl) rfl  ⟨(by rw [HZ.out]; rfl),(hb3.setCell (p:=⟨_,0,none⟩) (by simp) _).setCell (p:=⟨_,1,none⟩) (by simp) _⟩
    ·go_wp2_with fail
     go_round
     case rel =>
      refine ⟨k + 1,by go_num,by omega,?_⟩;rw [← HFN.out,HDR.out];simp [firstNeg,hneg]
     case measure => simp [RowKit.intOf]; omega
   ·have HZ:=Lib.hid (show sfault l = (0,0) by
     rw [HF.out,← HFN.out,List.drop_eq_nil_of_le (by omega)];rfl)
    go_wp2_with fail;exact ret_blk rfl rfl ((hB1.set_ 0 (.int .i64 0)).set_ 1 (.int .i64 0)) _ Tryz.underlying29 rfl (by kernel_rfl) rfl  ⟨(by rw [HZ.out]; rfl),(hb.setCell (p:=⟨_,0,none⟩) (by simp) _).setCell (p:=⟨_,1,none⟩) (by simp) _⟩
end Go.Proofs.YtonehlkiackhcaaGreatDoor
