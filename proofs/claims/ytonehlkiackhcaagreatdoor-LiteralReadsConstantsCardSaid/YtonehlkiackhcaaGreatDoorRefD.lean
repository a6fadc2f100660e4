/- The reference's Characters and Place: what they compute. Nothing is claimed here. -/
import Derived.Test.YtonehlkiackhcaaGreatDoorRefZ
import Derived.Test.YtonehlkiackhcaaGreatDoorLitM
import Derived.Test.YtonehlkiackhcaaGreatDoorLitY
import Derived.Test.YtonehlkiackhcaaGreatDoorRefB
set_option linter.unusedVariables false
set_option maxRecDepth 100000
set_option maxHeartbeats 16000000
namespace Go.Proofs.YtonehlkiackhcaaGreatDoor
open Go.RowKit Go.Shelf Go.Lib Go.Maps
def opStr (op : List UInt8) : Value:=.string ⟨op.reverse.toArray⟩
theorem cat_any (a b : List UInt8) : (⟨a.toArray⟩ : ByteArray) ++ (⟨b.toArray⟩ : ByteArray) = ⟨(a ++ b).toArray⟩:=by
 apply ByteArray.ext;rw [ByteArray.data_append];simp
theorem bracket_open (c : UInt8) (hc : c = 40 ∨ c = 91 ∨ c = 123) (op : List UInt8) (hop : op.length ≤ 16000) (w : World) :
  Calls Tryz.prog 129 #[.string ⟨op.reverse.toArray⟩,.string ⟨#[c]⟩] w fun e w' => e = .returned (.tuple #[.string ⟨((c :: op).reverse).toArray⟩,.bool true]) ∧ w = w':=by
 rcases hc with rfl | rfl | rfl
 all_goals
  go_enter Tryz.func129,Tryz.ntmps129;go_wp2_with fail;rw [cat_any,List.reverse_cons];go_ret2;exact ⟨rfl,rfl⟩
theorem bracket_other (t : List UInt8) (h1 : t ≠ [40]) (h2 : t ≠ [91]) (h3 : t ≠ [123]) (h4 : t ≠ [41]) (h5 : t ≠ [93]) (h6 : t ≠ [125]) (x : ByteArray) (w : World) :
  Calls Tryz.prog 129 #[.string x,.string ⟨t.toArray⟩] w fun e w' => e = .returned (.tuple #[.string x,.bool true]) ∧ w = w':=by
 have e1 : (t == [40]) = false:=by rw [beq_eq_false_iff_ne]; exact h1
 have e2 : (t == [91]) = false:=by rw [beq_eq_false_iff_ne]; exact h2
 have e3 : (t == [123]) = false:=by rw [beq_eq_false_iff_ne]; exact h3
 have e4 : (t == [41]) = false:=by rw [beq_eq_false_iff_ne]; exact h4
 have e5 : (t == [93]) = false:=by rw [beq_eq_false_iff_ne]; exact h5
 have e6 : (t == [125]) = false:=by rw [beq_eq_false_iff_ne]; exact h6
 clear h1 h2 h3 h4 h5 h6;go_enter Tryz.func129,Tryz.ntmps129;go_wp2_with fail;go_ret2;exact ⟨rfl,rfl⟩
def pairsD : DataW Unit:=((((((DataW.map []).put (.string [40]) (.lit (.int .i64 1))).put (.string [41]) (.lit (.int .i64 1))).put (.string [91]) (.lit (.int .i64 2))).put (.string [93]) (.lit (.int .i64 2))).put (.string [123]) (.lit (.int .i64 3))).put (.string [125]) (.lit (.int .i64 3))
theorem pair_look {W : World} {m : Nat} (h : W.ownsMap Tryz.prog 9 (plainElem (H:=Unit) Tryz.prog 3) m 6 pairsD) (c : UInt8) (n : Int) (hn : pairsD.atKey (.string [c]) (.lit (.int .i64 0)) = .lit (.int .i64 n)) :
  ∀ d,(Instr.lookup 75 (.map (some m)) (.string ⟨#[c]⟩) false).run Tryz.prog (W.drewN d) = .ok (.int .i64 n) (W.drewN d):=by
 intro d;obtain ⟨x,hrun,hat,hwf⟩:=(show (W.drewN d).ownsMap Tryz.prog 9 (plainElem (H:=Unit) Tryz.prog 3) m 6 pairsD from h).lookup_int law Tryz.underlying75 Tryz.underlying3 (zeroInt _) (key:=.string ⟨#[c]⟩) (kl:=.string [c]) (by kernel_rfl);have e : DataW.lit (H:=Unit) (Lit.int .i64 n) = .lit (.int .i64 x):=hn.symm.trans hat;clear hn hat hwf h;simp only [DataW.lit.injEq,Lit.int.injEq,true_and] at e;rw [e];exact hrun
theorem plain_int (n : Int) (hw : (Lit.int .i64 n).wf = true) : plainElem (H:=Unit) Tryz.prog 3 (.int .i64 n) = some (.lit (.int .i64 n),[]):=plainElem_int Tryz.underlying3 hw
theorem pairs_laid (w : World) : ∃ w1 w2 w3 w4 w5 w6,((Instr.mapUpdate 75 (.map (some w.heap.size)) (.string ⟨#[40]⟩) (.int .i64 1)).run Tryz.prog (w.alloc (.map #[] 0)) = .ok () w1 ∧
  (Instr.mapUpdate 75 (.map (some w.heap.size)) (.string ⟨#[41]⟩) (.int .i64 1)).run Tryz.prog w1 = .ok () w2 ∧
  (Instr.mapUpdate 75 (.map (some w.heap.size)) (.string ⟨#[91]⟩) (.int .i64 2)).run Tryz.prog w2 = .ok () w3 ∧
  (Instr.mapUpdate 75 (.map (some w.heap.size)) (.string ⟨#[93]⟩) (.int .i64 2)).run Tryz.prog w3 = .ok () w4 ∧
  (Instr.mapUpdate 75 (.map (some w.heap.size)) (.string ⟨#[123]⟩) (.int .i64 3)).run Tryz.prog w4 = .ok () w5 ∧
  (Instr.mapUpdate 75 (.map (some w.heap.size)) (.string ⟨#[125]⟩) (.int .i64 3)).run Tryz.prog w5 = .ok () w6) ∧
  w6.ownsMap Tryz.prog 9 (plainElem (H:=Unit) Tryz.prog 3) w.heap.size 6 pairsD ∧ Below w.heap.size w w6:=by
 have hM:=World.ownsMap_made w Tryz.prog 9 (plainElem (H:=Unit) Tryz.prog 3);have hb:=(Below.refl w.heap.size w).alloc (Nat.le_refl _) (.map #[] 0);obtain ⟨w1,r1,o1,g1⟩:=hM.update law Tryz.underlying75 (by decide) (key:=.string ⟨#[40]⟩) (val:=.int .i64 1) (kl:=.string [40]) (by kernel_rfl) (plain_int 1 (by decide));obtain ⟨w2,r2,o2,g2⟩:=o1.update law Tryz.underlying75 (by decide) (key:=.string ⟨#[41]⟩) (val:=.int .i64 1) (kl:=.string [41]) (by kernel_rfl) (plain_int 1 (by decide));obtain ⟨w3,r3,o3,g3⟩:=o2.update law Tryz.underlying75 (by decide) (key:=.string ⟨#[91]⟩) (val:=.int .i64 2) (kl:=.string [91]) (by kernel_rfl) (plain_int 2 (by decide));obtain ⟨w4,r4,o4,g4⟩:=o3.update law Tryz.underlying75 (by decide) (key:=.string ⟨#[93]⟩) (val:=.int .i64 2) (kl:=.string [93]) (by kernel_rfl) (plain_int 2 (by decide));obtain ⟨w5,r5,o5,g5⟩:=o4.update law Tryz.underlying75 (by decide) (key:=.string ⟨#[123]⟩) (val:=.int .i64 3) (kl:=.string [123]) (by kernel_rfl) (plain_int 3 (by decide));obtain ⟨w6,r6,o6,g6⟩:=o5.update law Tryz.underlying75 (by decide) (key:=.string ⟨#[125]⟩) (val:=.int .i64 3) (kl:=.string [125]) (by kernel_rfl) (plain_int 3 (by decide));have b1:=hb.grown g1 hb.size (fun g e => by injection e with e; omega);have b2:=b1.grown g2 b1.size (fun g e => by injection e with e; omega);have b3:=b2.grown g3 b2.size (fun g e => by injection e with e; omega);have b4:=b3.grown g4 b3.size (fun g e => by injection e with e; omega);have b5:=b4.grown g5 b4.size (fun g e => by injection e with e; omega);have b6:=b5.grown g6 b5.size (fun g e => by injection e with e; omega);exact ⟨w1,w2,w3,w4,w5,w6,⟨r1,r2,r3,r4,r5,r6⟩,o6,b6⟩
theorem bracket_none (c : UInt8) (hc : c = 41 ∨ c = 93 ∨ c = 125) (w : World) :
  Calls Tryz.prog 129 #[.string ⟨#[]⟩,.string ⟨#[c]⟩] w fun e w' => e = .returned (.tuple #[.string ⟨#[]⟩,.bool false]) ∧ Below w.heap.size w w':=by
 have hmm:=@run_makeMap Tryz.prog;obtain ⟨w1,w2,w3,w4,w5,w6,⟨r1,r2,r3,r4,r5,r6⟩,hown,hb⟩:=pairs_laid w;rcases hc with rfl | rfl | rfl
 all_goals
  go_enter Tryz.func129,Tryz.ntmps129;go_wp2_with fail;go_quiet (fail);go_wp2_with fail;go_ret2;exact ⟨rfl,below_drewN hb _⟩
theorem run_to (l : List UInt8) (i : Nat) (h2 : i ≤ l.length) (x : Int) (hx : x = (i : Int)) (W : World) :
  (Instr.slice 9 (.string ⟨l.toArray⟩) none (some (.int .i64 x)) none).run Tryz.prog W = .ok (.string ⟨(l.take i).toArray⟩) W:=by
 subst hx;rw [run_slice_string_to_if W 9 ⟨l.toArray⟩ .i64 _ Tryz.underlying9,if_pos ⟨by omega,by simp [ByteArray.size]; omega⟩,Int.toNat_natCast,extract_sub];simp
def clB (x c : UInt8) : Bool:=(x == 40 && c == 41) || (x == 91 && c == 93) || (x == 123 && c == 125)
theorem bracket_close (q r : List UInt8) (x c : UInt8) (hc : c = 41 ∨ c = 93 ∨ c = 125) (hx : x = 40 ∨ x = 91 ∨ x = 123) (hq : q = r ++ [x]) (hr : r.length ≤ 16000) (w : World) :
  Calls Tryz.prog 129 #[.string ⟨q.toArray⟩,.string ⟨#[c]⟩] w fun e w' => e = .returned (if clB x c then .tuple #[.string ⟨r.toArray⟩,.bool true] else .tuple #[.string ⟨q.toArray⟩,.bool false]) ∧ Below w.heap.size w w':=by
 have hmm:=@run_makeMap Tryz.prog;obtain ⟨w1,w2,w3,w4,w5,w6,⟨r1,r2,r3,r4,r5,r6⟩,hown,hb⟩:=pairs_laid w;have t1:=run_tail q r.length (by rw [hq]; simp) (r.length : Int) rfl;have t2:=run_to q r.length (by rw [hq]; simp) (r.length : Int) rfl;rw [show q.drop r.length = [x] by rw [hq]; simp] at t1;rw [show q.take r.length = r by rw [hq]; simp] at t2;have e0 : (q == []) = false:=by rw [hq]; simp
 have e1 : IntKind.i64.wrap ((q.length : Int) - 1) = (r.length : Int):=by
  rw [show (q.length : Int) - 1 = (r.length : Int) by rw [hq]; simp];exact IntWalk.i64_in _ (by omega)
 have l1:=pair_look hown 40 1 (by kernel_rfl);have l2:=pair_look hown 41 1 (by kernel_rfl);have l3:=pair_look hown 91 2 (by kernel_rfl);have l4:=pair_look hown 93 2 (by kernel_rfl);have l5:=pair_look hown 123 3 (by kernel_rfl);have l6:=pair_look hown 125 3 (by kernel_rfl);clear hq hr hown;rcases hx with rfl | rfl | rfl
 all_goals rcases hc with rfl | rfl | rfl
 all_goals
  go_enter Tryz.func129,Tryz.ntmps129;go_wp2_with fail;go_quiet (fail);go_wp2_with fail;go_ret2;exact ⟨rfl,below_drewN hb _⟩
def OpOk (op : List UInt8) : Prop:=∀ x ∈ op,x = 40 ∨ x = 91 ∨ x = 123
theorem OpOk.step {op op' t : List UInt8} (h : OpOk op) (hb : bracket op t = some op') : OpOk op':=by
 have ht : ∀ x ∈ op.tail,x = 40 ∨ x = 91 ∨ x = 123:=fun x hx => h x (List.mem_of_mem_tail hx);unfold bracket at hb;split at hb
 ·rename_i h1;injection hb with hb;subst hb;intro x hx;rcases List.mem_cons.1 hx with e | e
  ·rcases h1 with rfl | rfl | rfl
   ·exact .inl e
   ·exact .inr (.inl e)
   ·exact .inr (.inr e)
  ·exact h x e
 ·split at hb
  ·split at hb
   ·injection hb with hb;subst hb;exact ht
   ·simp at hb
  ·split at hb
   ·split at hb
    ·injection hb with hb;subst hb;exact ht
    ·simp at hb
   ·split at hb
    ·split at hb
     ·injection hb with hb;subst hb;exact ht
     ·simp at hb
    ·injection hb with hb;subst hb;exact h
def brV (op : List UInt8) : Option (List UInt8) → Value
 | some op' => .tuple #[opStr op',.bool true]
 | none => .tuple #[opStr op,.bool false]
theorem bracket_any (op t : List UInt8) (hop : OpOk op) (hl : op.length ≤ 16000) (w : World) :
  Calls Tryz.prog 129 #[opStr op,.string ⟨t.toArray⟩] w fun e w' => e = .returned (brV op (bracket op t)) ∧ Below w.heap.size w w':=by
 have hopen : ∀ c : UInt8,(c = 40 ∨ c = 91 ∨ c = 123) → t = [c] → Calls Tryz.prog 129 #[opStr op,.string ⟨t.toArray⟩] w fun e w' => e = .returned (brV op (bracket op t)) ∧ Below w.heap.size w w':=by
  intro c hc ht;have e : bracket op t = some (c :: op):=by
   subst ht;rcases hc with rfl | rfl | rfl <;> simp [bracket,at0]
  rw [e,ht];refine (bracket_open c hc op hl w).mono ?_;rintro e w' ⟨rfl,rfl⟩;exact ⟨rfl,Below.refl _ _⟩
 have hclose : ∀ c : UInt8,(c = 41 ∨ c = 93 ∨ c = 125) → t = [c] → Calls Tryz.prog 129 #[opStr op,.string ⟨t.toArray⟩] w fun e w' => e = .returned (brV op (bracket op t)) ∧ Below w.heap.size w w':=by
  intro c hc ht;cases op with
  | nil =>
   have e : bracket [] t = none:=by
    subst ht;rcases hc with rfl | rfl | rfl <;> decide
   rw [e,ht];refine (bracket_none c hc w).mono ?_;rintro e w' ⟨rfl,hb⟩;exact ⟨rfl,hb⟩
  | cons x r =>
   have hx:=hop x (by simp);have hq : (x :: r).reverse = r.reverse ++ [x]:=(by simp);have e : bracket (x :: r) t = if clB x c then some r else none:=by
    subst ht;rcases hc with rfl | rfl | rfl <;> rcases hx with rfl | rfl | rfl <;> simp [bracket,clB]
   rw [e,ht];refine (bracket_close (x :: r).reverse r.reverse x c hc hx hq (by simp at hl ⊢; omega) w).mono ?_;rintro e w' ⟨rfl,hb⟩;refine ⟨?_,hb⟩;cases clB x c <;> rfl
 by_cases h1 : t = [40]
 ·exact hopen 40 (.inl rfl) h1
 by_cases h2 : t = [91]
 ·exact hopen 91 (.inr (.inl rfl)) h2
 by_cases h3 : t = [123]
 ·exact hopen 123 (.inr (.inr rfl)) h3
 by_cases h4 : t = [41]
 ·exact hclose 41 (.inl rfl) h4
 by_cases h5 : t = [93]
 ·exact hclose 93 (.inr (.inl rfl)) h5
 by_cases h6 : t = [125]
 ·exact hclose 125 (.inr (.inr rfl)) h6
 have e : bracket op t = some op:=by
  unfold bracket;rw [if_neg (fun h => h.elim h1 (fun h => h.elim h2 h3)),if_neg h4,if_neg h5,if_neg h6]
 rw [e];refine (bracket_other t h1 h2 h3 h4 h5 h6 _ w).mono ?_;rintro e w' ⟨rfl,rfl⟩;exact ⟨rfl,Below.refl _ _⟩
end Go.Proofs.YtonehlkiackhcaaGreatDoor

namespace Go.Proofs.YtonehlkiackhcaaGreatDoor
open Go.RowKit Go.Lib Go.Sort
def EndPost (w : World) (lim frm : Nat) (R : Except Nat Nat) (e : Ending) (w' : World) : Prop :=
 Below w.heap.size w w' ∧ match R with
 | .ok j => e = .returned (.tuple #[.int .i64 (j : Int),.bool true]) ∧ j < lim
 | .error k => ∃ j : Nat,e = .returned (.tuple #[.int .i64 (j : Int),.bool false]) ∧ (if lim ≤ j then frm else j) = k ∧ j ≤ 20000
theorem ib_not (s : List UInt8) (c : UInt8) (h : c ∉ s) : Lib.indexByte s c = -1:=by
 induction s with
 | nil => rfl
 | cons b s ih =>
  unfold Lib.indexByte;rw [if_neg (by rw [beq_iff_eq]; rintro rfl; exact h (by simp)),ih (fun e => h (by simp [e]))];rfl
def FeS (l : List UInt8) (x : Sht) (frm : Nat) (R : Except Nat Nat) (k : Nat) (op : List UInt8) (ins : UInt8) : Prop:=exprS l x frm (l.length + 1 - k) k op ins = R
end Go.Proofs.YtonehlkiackhcaaGreatDoor

namespace Go.Proofs.YtonehlkiackhcaaGreatDoor
open Go.RowKit Go.Shelf Go.Lib
def escL : List UInt8:=[10,110,9,116,92,92,34,34,39,39]
def hexC (n : Nat) : UInt8:=[48,49,50,51,52,53,54,55,56,57,97,98,99,100,101,102].getD n 0
def charQ (Q : Nat) (hid : Nat → Bool) (r : Nat) : List UInt8 :=
 if (r = 34 ∧ Q ≠ 34) ∨ (r = 39 ∧ Q ≠ 39) then runeB r
 else if r = 10 then [92,110] else if r = 9 then [92,116] else if r = 92 then [92,92] else if r = 34 then [92,34] else if r = 39 then [92,39]
 else if hid r then [92,120,hexC (r / 16),hexC (r % 16)] else runeB r
def quotedS (Q : Nat) (hid : Nat → Bool) (rs : List Nat) : List UInt8:=(UInt8.ofNat Q :: rs.flatMap (charQ Q hid)) ++ [UInt8.ofNat Q]
def IrOk (r : Nat) : Prop:=∀ W : World,Calls Tryz.prog 78 #[.string ⟨#[10,110,9,116,92,92,34,34,39,39]⟩,.int .i32 (r : Int)] W fun e w' => ∃ k : Int,e = .returned (.int .i64 k) ∧ Below W.heap.size W w' ∧ (r < 128 → k = Lib.indexByte escL (UInt8.ofNat r))
theorem ir_ascii (r : Nat) (h : r < 128) : IrOk r:=fun W =>
 (Tryz.strings_IndexRune_ascii ⟨#[10,110,9,116,92,92,34,34,39,39]⟩ (r : Int) W (by omega) (by omega)).mono fun e w' ⟨h1,h2⟩ => ⟨_,h1,by rw [h2]; exact Below.refl _ _,fun _ => by rw [Int.toNat_natCast]; rfl⟩
theorem charQ_len (Q : Nat) (hid : Nat → Bool) (r : Nat) : (charQ Q hid r).length ≤ 4:=by
 have:=(runeB_len r).2;unfold charQ
 repeat' split
 all_goals first | exact this | simp
theorem charQ_other {Q r : Nat} {hid : Nat → Bool} (h10 : ¬ r = 10) (h9 : ¬ r = 9) (h92 : ¬ r = 92) (h34 : ¬ r = 34) (h39 : ¬ r = 39) : charQ Q hid r = if hid r then [92,120,hexC (r / 16),hexC (r % 16)] else runeB r:=by
 unfold charQ;rw [if_neg (by rintro (h | h); exact h34 h.1; exact h39 h.1),if_neg h10,if_neg h9,if_neg h92,if_neg h34,if_neg h39]
theorem ctlB_lt (r : Nat) (h : ctlB r = true) : r < 160:=by
 unfold ctlB at h;rw [Bool.or_eq_true,Bool.and_eq_true,decide_eq_true_eq,decide_eq_true_eq,decide_eq_true_eq] at h;omega
theorem ir_none {r : Nat} (h : r < 128) (h1 : ¬ r = 10) (h2 : ¬ r = 110) (h3 : ¬ r = 9) (h4 : ¬ r = 116) (h5 : ¬ r = 92) (h6 : ¬ r = 34) (h7 : ¬ r = 39) : Lib.indexByte escL (UInt8.ofNat r) = -1:=by
 refine ib_not _ _ ?_;unfold escL;have e : (UInt8.ofNat r).toNat = r:=by simp; omega
 intro hm;simp only [List.mem_cons,List.not_mem_nil,or_false] at hm;rcases hm with hm | hm | hm | hm | hm | hm | hm | hm | hm | hm <;> rw [hm] at e <;> simp at e <;> omega
theorem and15_all : ∀ a : Fin 160,bits .and .i32 (a.val : Int) 15 = ((a.val % 16 : Nat) : Int):=by decide +kernel
theorem and15 (a : Nat) (h : a < 160) : bits .and .i32 (a : Int) 15 = ((a % 16 : Nat) : Int):=and15_all ⟨a,h⟩
theorem run_hex (n : Nat) (h : n < 16) (W : World) : (Instr.index 9 (.string ⟨#[48,49,50,51,52,53,54,55,56,57,97,98,99,100,101,102]⟩) (.int .i32 ((n : Nat) : Int))).run Tryz.prog W = .ok (.int .u8 ((hexC n).toNat : Int)) W:=by
 rw [run_index_string W 9 ⟨#[48,49,50,51,52,53,54,55,56,57,97,98,99,100,101,102]⟩ .i32 _ Tryz.underlying9,dif_pos ⟨by omega,by show (n : Int) < 16; omega⟩];have : ∀ m : Fin 16,(Value.int .u8 (((⟨#[48,49,50,51,52,53,54,55,56,57,97,98,99,100,101,102]⟩ : ByteArray)[m.val]'m.isLt).toNat : Int)) = .int .u8 ((hexC m.val).toNat : Int):=by
  intro m
  match m with
  | ⟨0,_⟩ => rfl
  | ⟨1,_⟩ => rfl
  | ⟨2,_⟩ => rfl
  | ⟨3,_⟩ => rfl
  | ⟨4,_⟩ => rfl
  | ⟨5,_⟩ => rfl
  | ⟨6,_⟩ => rfl
  | ⟨7,_⟩ => rfl
  | ⟨8,_⟩ => rfl
  | ⟨9,_⟩ => rfl
  | ⟨10,_⟩ => rfl
  | ⟨11,_⟩ => rfl
  | ⟨12,_⟩ => rfl
  | ⟨13,_⟩ => rfl
  | ⟨14,_⟩ => rfl
  | ⟨15,_⟩ => rfl
  | ⟨k + 16,h⟩ => omega
 have h2:=this ⟨n,h⟩;simp only [Int.toNat_natCast];rw [← h2]
def QL (Q : Nat) (hid : Nat → Bool) (rs : List Nat) (k : Nat) : List UInt8:=UInt8.ofNat Q :: (rs.take k).flatMap (charQ Q hid)
theorem QL_next (Q : Nat) (hid : Nat → Bool) (rs : List Nat) (k : Nat) (h : k < rs.length) : QL Q hid rs (k + 1) = QL Q hid rs k ++ charQ Q hid rs[k]:=by
 unfold QL;rw [List.take_add_one,List.getElem?_eq_getElem h,Option.toList_some,List.flatMap_append,List.flatMap_singleton];rfl
theorem quoted39_any (s : List UInt8) (w : World) (hl : s.length ≤ 2097152) (hir : ∀ r ∈ runesL s,IrOk r) :
  Calls Tryz.prog 25 #[.string ⟨s.toArray⟩,.int .u8 39,.func (.func 26) #[] #[],.func (.func 27) #[] #[]] w fun e w' => e = .returned (.string ⟨(quotedS 39 ctlB (runesL s)).toArray⟩) ∧ Below w.heap.size w w':=by
 have hrl:=runesF_len s.length s;have hrt:=fun r (h : r ∈ runesL s) => runesF_lt s.length s r h;have HRU:=Lib.hid (fun W => runes_any s W (by omega));rw [show runesF s.length s = runesL s from rfl] at hrl;have HQS:=Lib.hid (show quotedS 39 ctlB (runesL s) = QL 39 ctlB (runesL s) (runesL s).length ++ [39] from by unfold quotedS QL; rw [List.take_length]; rfl);obtain ⟨rs,hrs⟩ : ∃ rs,runesL s = rs:=⟨_,rfl⟩;rw [hrs] at hrl hrt hir HRU HQS ⊢;have HRT:=Lib.hid hrt;have HI:=Lib.hid hir;have HN0:=Lib.hid (fun k h => QL_next 39 ctlB rs k h);clear hrs hrt hir;have hBl:=Bld.new w;have hb:=(Below.refl w.heap.size w).alloc (Nat.le_refl _) (.cells #[.pointer none,.slice none 0 0] 99);go_enter Tryz.func25,Tryz.ntmps25;go_wp2_with fail;refine (bld_byte hBl (by simp) 39 39 rfl).mono ?_;rintro e w1 ⟨rfl,h1,h2,h3⟩;have hb1:=hb.trans h2;clear hBl hb h2 h3;go_wp2_with fail;refine (HRU.out w1).mono ?_;rintro e w2 ⟨A,cap,rfl,hRow,hb2⟩;have hBl:=h1.belowS hb2;have hb:=below_then hb1 hb2 hb1.size;obtain ⟨b,hbb⟩ : ∃ b,w.heap.size = b:=⟨_,rfl⟩;have HBB:=Lib.hid hbb;rw [hbb] at hBl hb ⊢;clear h1 hb1 hb2 HRU hbb;go_wp2_with fail
 go_loopw [19] (fun i wr => ∃ (k : Nat) (L : List UInt8),k ≤ rs.length ∧ i = .int .i64 (k : Int) ∧ Hid (L = QL 39 ctlB rs k) ∧ L.length ≤ 1 + 4 * k ∧ Bld wr b L ∧ RRow wr A rs ∧ Below b w wr) (fun i _ => rs.length - (RowKit.intOf i).toNat)
 case atStart => exact ⟨0,[39],Nat.zero_le _,rfl,Lib.hid rfl,by simp,hBl,hRow,hb⟩
 case round =>
  clear hBl hRow hb;obtain ⟨k,L,hk,rfl,HL,hLl,hBl,hRow,hb⟩:=hrel
  by_cases hlt : k < rs.length
  ·obtain ⟨g,rfl,hcell⟩:=hRow.at_ hlt;have HNX:=Lib.hid (fun X (h : charQ 39 ctlB rs[k] = X) => show L ++ X = QL 39 ctlB rs (k + 1) from by rw [HN0.out k hlt,h,HL.out]);have hrt:=HRT.out rs[k] (List.getElem_mem hlt);have HIR:=Lib.hid (HI.out rs[k] (List.getElem_mem hlt));obtain ⟨r,hr⟩ : ∃ r,rs[k] = r:=⟨_,rfl⟩;rw [hr] at HNX hrt HIR hcell;clear hr HL
   by_cases h10 : r = 10
   ·subst h10
    -- a character that has an escape of two characters
    have HCQ:=Lib.hid (show charQ 39 ctlB 10 = [92,110] from by decide);go_wp2_with fail;refine (HIR.out wr).mono ?_;rintro e w8 ⟨kx,rfl,hb8,hkx⟩
    replace hRow:=hRow.belowS hb8
    replace hb:=below_then hb hb8 (by have:=hb.size; rw [HBB.out] at this; exact this)
    replace hBl:=hBl.belowS hb8
    clear hb8;obtain rfl : kx = 0:=hkx (by decide);clear hkx;go_wp2_with fail;refine (bld_byte hBl (by first | omega | (simp; omega)) 92 92 rfl).mono ?_;rintro e w9 ⟨rfl,h1,h2,h3⟩;obtain ⟨T9,hT9⟩:=hBl.blk
    replace hRow:=hRow.others hT9 h3
    replace hb:=hb.trans h2
    replace hBl:=h1
    clear h1 h2 h3 hT9;have hx9 : ((⟨#[10,110,9,116,92,92,34,34,39,39]⟩ : ByteArray)[0 + 1]'(by decide)).toNat = 110:=rfl;go_wp2_with fail;refine (bld_byte hBl (by first | omega | (simp; omega)) 110 110 rfl).mono ?_;rintro e w9 ⟨rfl,h1,h2,h3⟩;obtain ⟨T9,hT9⟩:=hBl.blk
    replace hRow:=hRow.others hT9 h3
    replace hb:=hb.trans h2
    replace hBl:=h1
    clear h1 h2 h3 hT9;go_wp2_with fail;go_roundw
    case rel => exact ⟨k + 1,_,by omega,by go_num,Lib.hid (by rw [← HNX.out ([92,110]) HCQ.out] <;> simp),(by first | omega | (simp; omega) | simp),hBl,hRow,hb⟩
    case measure => simp [RowKit.intOf]; omega
   by_cases h9 : r = 9
   ·subst h9
    -- a character that has an escape of two characters
    have HCQ:=Lib.hid (show charQ 39 ctlB 9 = [92,116] from by decide);go_wp2_with fail;refine (HIR.out wr).mono ?_;rintro e w8 ⟨kx,rfl,hb8,hkx⟩
    replace hRow:=hRow.belowS hb8
    replace hb:=below_then hb hb8 (by have:=hb.size; rw [HBB.out] at this; exact this)
    replace hBl:=hBl.belowS hb8
    clear hb8;obtain rfl : kx = 2:=hkx (by decide);clear hkx;go_wp2_with fail;refine (bld_byte hBl (by first | omega | (simp; omega)) 92 92 rfl).mono ?_;rintro e w9 ⟨rfl,h1,h2,h3⟩;obtain ⟨T9,hT9⟩:=hBl.blk
    replace hRow:=hRow.others hT9 h3
    replace hb:=hb.trans h2
    replace hBl:=h1
    clear h1 h2 h3 hT9;have hx9 : ((⟨#[10,110,9,116,92,92,34,34,39,39]⟩ : ByteArray)[2 + 1]'(by decide)).toNat = 116:=rfl;go_wp2_with fail;refine (bld_byte hBl (by first | omega | (simp; omega)) 116 116 rfl).mono ?_;rintro e w9 ⟨rfl,h1,h2,h3⟩;obtain ⟨T9,hT9⟩:=hBl.blk
    replace hRow:=hRow.others hT9 h3
    replace hb:=hb.trans h2
    replace hBl:=h1
    clear h1 h2 h3 hT9;go_wp2_with fail;go_roundw
    case rel => exact ⟨k + 1,_,by omega,by go_num,Lib.hid (by rw [← HNX.out ([92,116]) HCQ.out] <;> simp),(by first | omega | (simp; omega) | simp),hBl,hRow,hb⟩
    case measure => simp [RowKit.intOf]; omega
   by_cases h92 : r = 92
   ·subst h92
    -- a character that has an escape of two characters
    have HCQ:=Lib.hid (show charQ 39 ctlB 92 = [92,92] from by decide);go_wp2_with fail;refine (HIR.out wr).mono ?_;rintro e w8 ⟨kx,rfl,hb8,hkx⟩
    replace hRow:=hRow.belowS hb8
    replace hb:=below_then hb hb8 (by have:=hb.size; rw [HBB.out] at this; exact this)
    replace hBl:=hBl.belowS hb8
    clear hb8;obtain rfl : kx = 4:=hkx (by decide);clear hkx;go_wp2_with fail;refine (bld_byte hBl (by first | omega | (simp; omega)) 92 92 rfl).mono ?_;rintro e w9 ⟨rfl,h1,h2,h3⟩;obtain ⟨T9,hT9⟩:=hBl.blk
    replace hRow:=hRow.others hT9 h3
    replace hb:=hb.trans h2
    replace hBl:=h1
    clear h1 h2 h3 hT9;have hx9 : ((⟨#[10,110,9,116,92,92,34,34,39,39]⟩ : ByteArray)[4 + 1]'(by decide)).toNat = 92:=rfl;go_wp2_with fail;refine (bld_byte hBl (by first | omega | (simp; omega)) 92 92 rfl).mono ?_;rintro e w9 ⟨rfl,h1,h2,h3⟩;obtain ⟨T9,hT9⟩:=hBl.blk
    replace hRow:=hRow.others hT9 h3
    replace hb:=hb.trans h2
    replace hBl:=h1
    clear h1 h2 h3 hT9;go_wp2_with fail;go_roundw
    case rel => exact ⟨k + 1,_,by omega,by go_num,Lib.hid (by rw [← HNX.out ([92,92]) HCQ.out] <;> simp),(by first | omega | (simp; omega) | simp),hBl,hRow,hb⟩
    case measure => simp [RowKit.intOf]; omega
   by_cases h39 : r = 39
   ·subst h39
    -- a character that has an escape of two characters
    have HCQ:=Lib.hid (show charQ 39 ctlB 39 = [92,39] from by decide);go_wp2_with fail;refine (HIR.out wr).mono ?_;rintro e w8 ⟨kx,rfl,hb8,hkx⟩
    replace hRow:=hRow.belowS hb8
    replace hb:=below_then hb hb8 (by have:=hb.size; rw [HBB.out] at this; exact this)
    replace hBl:=hBl.belowS hb8
    clear hb8;obtain rfl : kx = 8:=hkx (by decide);clear hkx;go_wp2_with fail;refine (bld_byte hBl (by first | omega | (simp; omega)) 92 92 rfl).mono ?_;rintro e w9 ⟨rfl,h1,h2,h3⟩;obtain ⟨T9,hT9⟩:=hBl.blk
    replace hRow:=hRow.others hT9 h3
    replace hb:=hb.trans h2
    replace hBl:=h1
    clear h1 h2 h3 hT9;have hx9 : ((⟨#[10,110,9,116,92,92,34,34,39,39]⟩ : ByteArray)[8 + 1]'(by decide)).toNat = 39:=rfl;go_wp2_with fail;refine (bld_byte hBl (by first | omega | (simp; omega)) 39 39 rfl).mono ?_;rintro e w9 ⟨rfl,h1,h2,h3⟩;obtain ⟨T9,hT9⟩:=hBl.blk
    replace hRow:=hRow.others hT9 h3
    replace hb:=hb.trans h2
    replace hBl:=h1
    clear h1 h2 h3 hT9;go_wp2_with fail;go_roundw
    case rel => exact ⟨k + 1,_,by omega,by go_num,Lib.hid (by rw [← HNX.out ([92,39]) HCQ.out] <;> simp),(by first | omega | (simp; omega) | simp),hBl,hRow,hb⟩
    case measure => simp [RowKit.intOf]; omega
   by_cases h34 : r = 34
   ·subst h34;have HCQ:=Lib.hid (show charQ 39 ctlB 34 = runeB 34 from by decide);have hrl:=(runeB_len 34).2;go_wp2_with fail;refine (HIR.out wr).mono ?_;rintro e w8 ⟨kx,rfl,hb8,hkx⟩
    replace hRow:=hRow.belowS hb8
    replace hb:=below_then hb hb8 (by have:=hb.size; rw [HBB.out] at this; exact this)
    replace hBl:=hBl.belowS hb8
    clear hb8;clear hkx;go_wp2_with fail;refine (bld_rune hBl (by first | omega | (simp; omega)) 34 (by omega)).mono ?_;rintro e w9 ⟨⟨kk,rfl⟩,h1,h2,h3⟩;obtain ⟨T9,hT9⟩:=hBl.blk
    replace hRow:=hRow.others hT9 h3
    replace hb:=hb.trans h2
    replace hBl:=h1
    clear h1 h2 h3 hT9;go_wp2_with fail;go_roundw
    case rel => exact ⟨k + 1,_,by omega,by go_num,Lib.hid (by rw [← HNX.out (runeB 34) HCQ.out] <;> simp),(by first | omega | (simp; omega) | simp),hBl,hRow,hb⟩
    case measure => simp [RowKit.intOf]; omega
   have hq:=charQ_other (Q:=39) (hid:=ctlB) h10 h9 h92 h34 h39;have b34 : ((r : Int) == 34) = false:=(by rw [beq_eq_false_iff_ne]; omega);have b39 : ((r : Int) == 39) = false:=(by rw [beq_eq_false_iff_ne]; omega);have b92 : ((r : Int) == 92) = false:=(by rw [beq_eq_false_iff_ne]; omega);have hrl:=(runeB_len r).2;have hcl:=ctlB_lt r
   by_cases h110 : r = 110
   ·subst h110;have HCQ:=Lib.hid (show charQ 39 ctlB 110 = runeB 110 from by decide);clear hq hcl;go_wp2_with fail;refine (HIR.out wr).mono ?_;rintro e w8 ⟨kx,rfl,hb8,hkx⟩
    replace hRow:=hRow.belowS hb8
    replace hb:=below_then hb hb8 (by have:=hb.size; rw [HBB.out] at this; exact this)
    replace hBl:=hBl.belowS hb8
    clear hb8;obtain rfl : kx = 1:=hkx (by decide);clear hkx;go_wp2_with fail;refine (control_any 110 _).mono ?_;rintro e w8 ⟨rfl,rfl⟩;rw [show ctlB 110 = false from by decide];go_wp2_with fail;refine (bld_rune hBl (by first | omega | (simp; omega)) 110 (by omega)).mono ?_;rintro e w9 ⟨⟨kk,rfl⟩,h1,h2,h3⟩;obtain ⟨T9,hT9⟩:=hBl.blk
    replace hRow:=hRow.others hT9 h3
    replace hb:=hb.trans h2
    replace hBl:=h1
    clear h1 h2 h3 hT9;go_wp2_with fail;go_roundw
    case rel => exact ⟨k + 1,_,by omega,by go_num,Lib.hid (by rw [← HNX.out (runeB 110) HCQ.out] <;> simp),(by first | omega | (simp; omega) | simp),hBl,hRow,hb⟩
    case measure => simp [RowKit.intOf]; omega
   by_cases h116 : r = 116
   ·subst h116;have HCQ:=Lib.hid (show charQ 39 ctlB 116 = runeB 116 from by decide);clear hq hcl;go_wp2_with fail;refine (HIR.out wr).mono ?_;rintro e w8 ⟨kx,rfl,hb8,hkx⟩
    replace hRow:=hRow.belowS hb8
    replace hb:=below_then hb hb8 (by have:=hb.size; rw [HBB.out] at this; exact this)
    replace hBl:=hBl.belowS hb8
    clear hb8;obtain rfl : kx = 3:=hkx (by decide);clear hkx;go_wp2_with fail;refine (control_any 116 _).mono ?_;rintro e w8 ⟨rfl,rfl⟩;rw [show ctlB 116 = false from by decide];go_wp2_with fail;refine (bld_rune hBl (by first | omega | (simp; omega)) 116 (by omega)).mono ?_;rintro e w9 ⟨⟨kk,rfl⟩,h1,h2,h3⟩;obtain ⟨T9,hT9⟩:=hBl.blk
    replace hRow:=hRow.others hT9 h3
    replace hb:=hb.trans h2
    replace hBl:=h1
    clear h1 h2 h3 hT9;go_wp2_with fail;go_roundw
    case rel => exact ⟨k + 1,_,by omega,by go_num,Lib.hid (by rw [← HNX.out (runeB 116) HCQ.out] <;> simp),(by first | omega | (simp; omega) | simp),hBl,hRow,hb⟩
    case measure => simp [RowKit.intOf]; omega
   have hix:=fun h : r < 128 => ir_none h h10 h110 h9 h116 h92 h34 h39;clear h10 h9 h92 h39 h34 h110 h116;obtain ⟨C,hC⟩ : ∃ C,ctlB r = C:=⟨_,rfl⟩;have HCA:=Lib.hid (fun W => control_any r W);rw [hC] at hq hcl HCA;have HQ:=Lib.hid hq;clear hC hq
   by_cases h128 : r < 128
   ·have d128 : decide ((r : Int) < 128) = true:=decide_eq_true (by omega);have hm1:=hix h128;clear hix;go_wp2_with fail;refine (HIR.out wr).mono ?_;rintro e w8 ⟨kx,rfl,hb8,hkx⟩
    replace hRow:=hRow.belowS hb8
    replace hb:=below_then hb hb8 (by have:=hb.size; rw [HBB.out] at this; exact this)
    replace hBl:=hBl.belowS hb8
    clear hb8;obtain rfl : kx = -1:=(hkx h128).trans hm1;clear hkx h128 hm1;go_wp2_with fail;refine (HCA.out _).mono ?_;rintro e w8 ⟨rfl,rfl⟩;rcases C with _ | _
    ·have HCQ : Hid (charQ 39 ctlB r = runeB r):=Lib.hid (by rw [HQ.out]; rfl);go_wp2_with fail;refine (bld_rune hBl (by first | omega | (simp; omega)) r (by omega)).mono ?_;rintro e w9 ⟨⟨kk,rfl⟩,h1,h2,h3⟩;obtain ⟨T9,hT9⟩:=hBl.blk
     replace hRow:=hRow.others hT9 h3
     replace hb:=hb.trans h2
     replace hBl:=h1
     clear h1 h2 h3 hT9;go_wp2_with fail;go_roundw
     case rel => exact ⟨k + 1,_,by omega,by go_num,Lib.hid (by rw [← HNX.out (runeB r) HCQ.out] <;> simp),(by first | omega | (simp; omega) | simp),hBl,hRow,hb⟩
     case measure => simp [RowKit.intOf]; omega
    ·have h160:=hcl rfl;have HCQ : Hid (charQ 39 ctlB r = [92,120,hexC (r / 16),hexC (r % 16)]):=Lib.hid (by rw [HQ.out]; rfl);go_wp2_with fail;refine (bld_str hBl (by first | omega | (simp; omega)) [92,120] (by decide)).mono ?_;rintro e w9 ⟨⟨nn,rfl⟩,h1,h2,h3⟩;obtain ⟨T9,hT9⟩:=hBl.blk
     replace hRow:=hRow.others hT9 h3
     replace hb:=hb.trans h2
     replace hBl:=h1
     clear h1 h2 h3 hT9;have hA1:=and15 (r / 16) (by omega);rw [show ((r / 16 : Nat) : Int) = (r : Int) / 16 by omega,Nat.mod_eq_of_lt (show r / 16 < 16 by omega)] at hA1;have hA2:=and15 r h160;have hI1:=run_hex (r / 16) (by omega);have hI2:=run_hex (r % 16) (by omega);obtain ⟨q1,hq1⟩ : ∃ q1,r / 16 = q1:=⟨_,rfl⟩;obtain ⟨q2,hq2⟩ : ∃ q2,r % 16 = q2:=⟨_,rfl⟩;rw [hq1] at hA1 hI1 HCQ;rw [hq2] at hA2 hI2 HCQ;obtain ⟨x1,hx1⟩ : ∃ x1,hexC q1 = x1:=⟨_,rfl⟩;obtain ⟨x2,hx2⟩ : ∃ x2,hexC q2 = x2:=⟨_,rfl⟩;rw [hx1] at hI1 HCQ;rw [hx2] at hI2 HCQ;have HA2:=Lib.hid hA2;clear hq1 hq2 hx1 hx2 hA2;have hLb : (L ++ [92,120]).length ≤ 9000000:=(by simp; omega);go_wp2_with fail;refine (bld_byte hBl (by omega) x1 (x1.toNat : Int) rfl).mono ?_;rintro e w9 ⟨rfl,h1,h2,h3⟩;obtain ⟨T9,hT9⟩:=hBl.blk
     replace hRow:=hRow.others hT9 h3
     replace hb:=hb.trans h2
     replace hBl:=h1
     clear h1 h2 h3 hT9;have hLc : (L ++ [92,120] ++ [x1]).length ≤ 9000001:=(by simp at hLb ⊢; omega);have hA2:=HA2.out;clear hA1;go_wp2_with fail;refine (bld_byte hBl (by omega) x2 (x2.toNat : Int) rfl).mono ?_;rintro e w9 ⟨rfl,h1,h2,h3⟩;obtain ⟨T9,hT9⟩:=hBl.blk
     replace hRow:=hRow.others hT9 h3
     replace hb:=hb.trans h2
     replace hBl:=h1
     clear h1 h2 h3 hT9;clear hA2 hI1 hI2;go_wp2_with fail;go_roundw
     case rel => exact ⟨k + 1,_,by omega,by go_num,Lib.hid (by rw [← HNX.out ([92,120,x1,x2]) HCQ.out] <;> simp),(by first | omega | (simp; omega) | simp),hBl,hRow,hb⟩
     case measure => simp [RowKit.intOf]; omega
   ·have d128 : decide ((r : Int) < 128) = false:=decide_eq_false (by omega);clear hix;go_wp2_with fail;refine (HIR.out wr).mono ?_;rintro e w8 ⟨kx,rfl,hb8,hkx⟩
    replace hRow:=hRow.belowS hb8
    replace hb:=below_then hb hb8 (by have:=hb.size; rw [HBB.out] at this; exact this)
    replace hBl:=hBl.belowS hb8
    clear hb8;clear hkx h128;go_wp2_with fail;refine (HCA.out _).mono ?_;rintro e w8 ⟨rfl,rfl⟩;rcases C with _ | _
    ·have HCQ : Hid (charQ 39 ctlB r = runeB r):=Lib.hid (by rw [HQ.out]; rfl);go_wp2_with fail;refine (bld_rune hBl (by first | omega | (simp; omega)) r (by omega)).mono ?_;rintro e w9 ⟨⟨kk,rfl⟩,h1,h2,h3⟩;obtain ⟨T9,hT9⟩:=hBl.blk
     replace hRow:=hRow.others hT9 h3
     replace hb:=hb.trans h2
     replace hBl:=h1
     clear h1 h2 h3 hT9;go_wp2_with fail;go_roundw
     case rel => exact ⟨k + 1,_,by omega,by go_num,Lib.hid (by rw [← HNX.out (runeB r) HCQ.out] <;> simp),(by first | omega | (simp; omega) | simp),hBl,hRow,hb⟩
     case measure => simp [RowKit.intOf]; omega
    ·have h160:=hcl rfl;have HCQ : Hid (charQ 39 ctlB r = [92,120,hexC (r / 16),hexC (r % 16)]):=Lib.hid (by rw [HQ.out]; rfl);go_wp2_with fail;refine (bld_str hBl (by first | omega | (simp; omega)) [92,120] (by decide)).mono ?_;rintro e w9 ⟨⟨nn,rfl⟩,h1,h2,h3⟩;obtain ⟨T9,hT9⟩:=hBl.blk
     replace hRow:=hRow.others hT9 h3
     replace hb:=hb.trans h2
     replace hBl:=h1
     clear h1 h2 h3 hT9;have hA1:=and15 (r / 16) (by omega);rw [show ((r / 16 : Nat) : Int) = (r : Int) / 16 by omega,Nat.mod_eq_of_lt (show r / 16 < 16 by omega)] at hA1;have hA2:=and15 r h160;have hI1:=run_hex (r / 16) (by omega);have hI2:=run_hex (r % 16) (by omega);obtain ⟨q1,hq1⟩ : ∃ q1,r / 16 = q1:=⟨_,rfl⟩;obtain ⟨q2,hq2⟩ : ∃ q2,r % 16 = q2:=⟨_,rfl⟩;rw [hq1] at hA1 hI1 HCQ;rw [hq2] at hA2 hI2 HCQ;obtain ⟨x1,hx1⟩ : ∃ x1,hexC q1 = x1:=⟨_,rfl⟩;obtain ⟨x2,hx2⟩ : ∃ x2,hexC q2 = x2:=⟨_,rfl⟩;rw [hx1] at hI1 HCQ;rw [hx2] at hI2 HCQ;have HA2:=Lib.hid hA2;clear hq1 hq2 hx1 hx2 hA2;have hLb : (L ++ [92,120]).length ≤ 9000000:=(by simp; omega);go_wp2_with fail;refine (bld_byte hBl (by omega) x1 (x1.toNat : Int) rfl).mono ?_;rintro e w9 ⟨rfl,h1,h2,h3⟩;obtain ⟨T9,hT9⟩:=hBl.blk
     replace hRow:=hRow.others hT9 h3
     replace hb:=hb.trans h2
     replace hBl:=h1
     clear h1 h2 h3 hT9;have hLc : (L ++ [92,120] ++ [x1]).length ≤ 9000001:=(by simp at hLb ⊢; omega);have hA2:=HA2.out;clear hA1;go_wp2_with fail;refine (bld_byte hBl (by omega) x2 (x2.toNat : Int) rfl).mono ?_;rintro e w9 ⟨rfl,h1,h2,h3⟩;obtain ⟨T9,hT9⟩:=hBl.blk
     replace hRow:=hRow.others hT9 h3
     replace hb:=hb.trans h2
     replace hBl:=h1
     clear h1 h2 h3 hT9;clear hA2 hI1 hI2;go_wp2_with fail;go_roundw
     case rel => exact ⟨k + 1,_,by omega,by go_num,Lib.hid (by rw [← HNX.out ([92,120,x1,x2]) HCQ.out] <;> simp),(by first | omega | (simp; omega) | simp),hBl,hRow,hb⟩
     case measure => simp [RowKit.intOf]; omega
  ·have hkl : k = rs.length:=(by omega);have HF:=Lib.hid (show quotedS 39 ctlB rs = L ++ [39] from by rw [HQS.out,HL.out,hkl]);clear hkl HL;go_wp2_with fail;refine (bld_byte hBl (by omega) 39 39 rfl).mono ?_;rintro e w9 ⟨rfl,h1,h2,h3⟩;have hb9:=hb.trans h2;clear hBl hRow hb h2 h3;go_wp2_with fail;refine (bld_string h1).mono ?_;rintro e w8 ⟨rfl,h4,h5⟩;go_wp2_with fail;go_ret;exact ⟨by rw [HF.out]; rfl,by rw [HBB.out]; exact hb9.trans h5⟩
end Go.Proofs.YtonehlkiackhcaaGreatDoor

namespace Go.Proofs.YtonehlkiackhcaaGreatDoor
open Go.RowKit Go.Shelf Go.Lib
def collect (l : List UInt8) : List Int → Nat → List (List UInt8)
 | [],_ => []
 | n :: ws,k => if 0 < n then (l.drop k).take n.toNat :: collect l ws (k + 1) else collect l ws (k + 1)
def wof (c : List UInt8) : List Int:=(c.length : Int) :: List.replicate (c.length - 1) 0
theorem Chr.bad {c : List UInt8} (h : Chr c) (t : List UInt8) : badL (c ++ t) = false:=by
 have h1:=h.ok;have h2:=h.dec [];rw [List.append_nil] at h2;unfold badL at h1 ⊢;rw [h.dec t,← h2];exact h1
theorem widths_chars : ∀ (f : Nat) (cs : List (List UInt8)),(∀ c ∈ cs,Chr c) → cs.flatten.length ≤ f → widthsF f cs.flatten = cs.flatMap wof
 | 0,[],_,_ => rfl
 | 0,c :: cs,h,hf => by
  have:=(h c (List.mem_cons_self ..)).pos;rw [List.flatten_cons,List.length_append] at hf;omega
 | f + 1,[],_,_ => by simp [widthsF]
 | f + 1,c :: cs,h,hf => by
  have hc:=h c (List.mem_cons_self ..);have hp:=hc.pos;rw [List.flatten_cons,List.length_append] at hf;rw [List.flatten_cons,List.flatMap_cons];unfold widthsF;rw [if_neg (hc.ne _),hc.bad,if_neg (by simp),hc.drop,hc.dec,widths_chars f cs (fun x hx => h x (List.mem_cons_of_mem _ hx)) (by omega)];simp [wof]
theorem widths_all (cs : List (List UInt8)) (h : ∀ c ∈ cs,Chr c) : widths cs.flatten = cs.flatMap wof:=widths_chars _ cs h (Nat.le_refl _)
theorem byte_at (l : List UInt8) (n : Nat) (h : n < (⟨l.toArray⟩ : ByteArray).size) : ((⟨l.toArray⟩ : ByteArray)[n]'h).toNat = bAt l n:=by
 have h' : n < l.length:=by simpa [ByteArray.size] using h
 simp [bAt,h'];rfl
end Go.Proofs.YtonehlkiackhcaaGreatDoor
