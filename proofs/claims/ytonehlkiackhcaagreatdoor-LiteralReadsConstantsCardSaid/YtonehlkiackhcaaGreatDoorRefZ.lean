/- A map literal's entry at the operation, for the walk: the same as a store into a map. Nothing is claimed here. -/
import Derived.Test.YtonehlkiackhcaaGreatDoorLitDc
import Derived.StillTailTactics
import Derived.Test.YtonehlkiackhcaaGreatDoorLitK
import Derived.Maps.OwnOps
import Derived.Test.YtonehlkiackhcaaGreatDoorScanC
set_option linter.unusedVariables false
set_option maxRecDepth 100000
set_option maxHeartbeats 16000000
namespace Go.Proofs.YtonehlkiackhcaaGreatDoor
open Go.RowKit Go.Lib
theorem ib_span : ∀ t : List UInt8,Lib.indexByte t 125 = if span (· != 125) t < t.length then ((span (· != 125) t : Nat) : Int) else -1
 | [] => rfl
 | c :: t => by
  have ih:=ib_span t;unfold Lib.indexByte span;rw [List.takeWhile_cons]
  by_cases h : c = 125
  ·subst h; simp
  ·rw [if_neg (show ¬ (c == 125) = true by simpa using h),if_pos (show (c != 125) = true by simpa using h),ih];unfold span
   by_cases h2 : (List.takeWhile (fun x => x != 125) t).length < t.length
   ·rw [if_pos h2,if_neg (by rw [beq_iff_eq]; omega),if_pos (by simp; omega)];simp
   ·rw [if_neg h2,if_pos (by decide),if_neg (by simp; omega)]
def escR (t : List UInt8) (i : Nat) (b : Bool) : Option (Nat × Nat) :=
 if at0 t (i + 1) = 110 then some (10,i + 2)
 else if at0 t (i + 1) = 116 then some (9,i + 2)
 else if at0 t (i + 1) = 92 then some (92,i + 2)
 else if at0 t (i + 1) = 34 then some (34,i + 2)
 else if at0 t (i + 1) = 39 then some (39,i + 2)
 else if at0 t (i + 1) = 120 then (if i + 4 ≤ t.length then (hexS (cutL t (i + 2) (i + 4))).map fun n => (n,i + 4) else none)
 else if at0 t (i + 1) = 117 ∧ b = false ∧ at0 t (i + 2) = 123 then
  (if Lib.indexByte (t.drop (i + 3)) 125 < 1 ∨ 6 < Lib.indexByte (t.drop (i + 3)) 125 then none
   else match hexS (cutL t (i + 3) (i + 3 + (Lib.indexByte (t.drop (i + 3)) 125).toNat)) with
    | none => none
    | some n => if validR n = true then some (n,i + 4 + (Lib.indexByte (t.drop (i + 3)) 125).toNat) else none)
 else none
theorem cutL_take {l : List UInt8} {a b m : Nat} (h : b ≤ m) : cutL (l.take m) a b = cutL l a b:=by
 unfold cutL;rw [List.drop_take,List.take_take]
 congr 1
 omega
theorem span_tail (l : List UInt8) (a m : Nat) (h : a < m) (hm : m ≤ l.length) (hc : at0 l a = 123) : span (· != 125) (cutL l a m) = 1 + span (· != 125) (cutL l (a + 1) m):=by
 have h1 : cutL l a m = 123 :: cutL l (a + 1) m:=by
  unfold cutL;rw [drop_at l a (by omega),hc,show m - a = (m - (a + 1)) + 1 by omega,List.take_succ_cons]
 rw [h1];unfold span;rw [List.takeWhile_cons,if_pos (by decide),List.length_cons];omega
theorem escR_escS {l : List UInt8} {x : Sht} {i : Nat} (h1 : i + 1 < x.lim) (hx : x.lim ≤ l.length) : escR (l.take x.lim) i (x.pre == 98) = escS l x i:=by
 have ht : (l.take x.lim).length = x.lim:=by rw [List.length_take]; omega
 have ha : at0 (l.take x.lim) (i + 1) = at0 l (i + 1):=at0_take _ _ _ h1;unfold escR escS;rw [ha,ht];split
 ·rfl
 ·split
  ·rfl
  ·split
   ·rfl
   ·split
    ·rfl
    ·split
     ·rfl
     ·split
      ·by_cases h4 : i + 4 ≤ x.lim
       ·rw [if_pos h4,if_pos h4,cutL_take h4]
       ·rw [if_neg h4,if_neg h4]
      ·by_cases h2 : i + 2 < x.lim
       ·rw [at0_take _ _ _ h2]
        by_cases hu : at0 l (i + 1) = 117 ∧ x.pre ≠ 98 ∧ at0 l (i + 2) = 123
        ·have hd : (l.take x.lim).drop (i + 3) = cutL l (i + 3) x.lim:=(by unfold cutL; rw [List.drop_take]);have hb : brcL l x i = 1 + span (· != 125) (cutL l (i + 3) x.lim):=span_tail l (i + 2) x.lim h2 hx hu.2.2;have hl:=cutL_len (l:=l) (a:=i + 3) (b:=x.lim) hx;rw [if_pos ⟨hu.1,by simpa using hu.2.1,hu.2.2⟩,if_pos hu,hd,ib_span,hl,hb];obtain ⟨k,hk⟩ : ∃ k,span (· != 125) (cutL l (i + 3) x.lim) = k:=⟨_,rfl⟩;rw [hk]
         by_cases hkl : k < x.lim - (i + 3)
         ·rw [if_pos hkl]
          by_cases hk1 : ((k : Int) < 1 ∨ 6 < (k : Int))
          ·rw [if_pos hk1];rcases hk1 with hk1 | hk1
           ·have hk0 : k = 0:=(by omega);subst hk0;have : cutL l (i + 3) (i + 2 + (1 + 0)) = []:=by
             unfold cutL;rw [show i + 2 + (1 + 0) - (i + 3) = 0 by omega,List.take_zero]
            rw [this];rfl
           ·cases hexS (cutL l (i + 3) (i + 2 + (1 + k))) with
            | none => rfl
            | some n => simp only; rw [if_neg (by omega)]
          ·rw [if_neg hk1,Int.toNat_natCast,show i + 2 + (1 + k) = i + 3 + k by omega,cutL_take (by omega)];cases hexS (cutL l (i + 3) (i + 3 + k)) with
           | none => rfl
           | some n =>
            simp only
            by_cases hv : validR n = true
            ·rw [if_pos hv,if_pos ⟨by omega,by omega,hv⟩]
             congr 2
             omega
            ·rw [if_neg hv,if_neg (fun h => hv h.2.2)]
         ·rw [if_neg hkl,if_pos (.inl (by decide))];cases hexS (cutL l (i + 3) (i + 2 + (1 + k))) with
          | none => rfl
          | some n => simp only; rw [if_neg (by omega)]
        ·rw [if_neg (fun h => hu ⟨h.1,by simpa using h.2.1,h.2.2⟩),if_neg hu]
       ·have h0 : at0 (l.take x.lim) (i + 2) = 0:=by
         unfold at0;rw [List.getD_eq_getElem?_getD,List.getElem?_eq_none (by omega)];rfl
        rw [h0,if_neg (fun h => absurd h.2.2 (by decide))]
        by_cases hu : at0 l (i + 1) = 117 ∧ x.pre ≠ 98 ∧ at0 l (i + 2) = 123
        ·rw [if_pos hu];have hb : brcL l x i = 0:=by
          unfold brcL cutL;rw [show x.lim - (i + 2) = 0 by omega,List.take_zero];rfl
         have : cutL l (i + 3) (i + 2 + brcL l x i) = []:=by
          unfold cutL;rw [hb,show i + 2 + 0 - (i + 3) = 0 by omega,List.take_zero]
         rw [this];rfl
        ·rw [if_neg hu]
def escV (t : List UInt8) (i : Nat) (b : Bool) : Int × Int × Bool :=
 if at0 t (i + 1) = 110 then (10,(i : Int) + 2,true)
 else if at0 t (i + 1) = 116 then (9,(i : Int) + 2,true)
 else if at0 t (i + 1) = 92 then (92,(i : Int) + 2,true)
 else if at0 t (i + 1) = 34 then (34,(i : Int) + 2,true)
 else if at0 t (i + 1) = 39 then (39,(i : Int) + 2,true)
 else if at0 t (i + 1) = 120 then (if i + 4 ≤ t.length then (((hexS (cutL t (i + 2) (i + 4))).getD 0 : Nat),(i : Int) + 4,(hexS (cutL t (i + 2) (i + 4))).isSome) else (0,0,false))
 else if at0 t (i + 1) = 117 ∧ b = false ∧ at0 t (i + 2) = 123 then
  (if Lib.indexByte (t.drop (i + 3)) 125 < 1 ∨ 6 < Lib.indexByte (t.drop (i + 3)) 125 then (0,0,false)
   else (((hexS (cutL t (i + 3) (i + 3 + (Lib.indexByte (t.drop (i + 3)) 125).toNat))).getD 0 : Nat),(i : Int) + 4 + ((Lib.indexByte (t.drop (i + 3)) 125).toNat : Nat),
    (hexS (cutL t (i + 3) (i + 3 + (Lib.indexByte (t.drop (i + 3)) 125).toNat))).isSome && validR ((hexS (cutL t (i + 3) (i + 3 + (Lib.indexByte (t.drop (i + 3)) 125).toNat))).getD 0)))
 else (0,0,false)
def EscRel (R : Option (Nat × Nat)) (V : Int × Int × Bool) : Prop:=match R with
 | some (n,j) => V = ((n : Int),(j : Int),true)
 | none => V.2.2 = false
theorem escV_R (t : List UInt8) (i : Nat) (b : Bool) : EscRel (escR t i b) (escV t i b):=by
 unfold escR escV;split
 ·rfl
 ·split
  ·rfl
  ·split
   ·rfl
   ·split
    ·rfl
    ·split
     ·rfl
     ·split
      ·split
       ·cases hexS (cutL t (i + 2) (i + 4)) <;> rfl
       ·rfl
      ·split
       ·split
        ·rfl
        ·cases hexS (cutL t (i + 3) (i + 3 + (Lib.indexByte (t.drop (i + 3)) 125).toNat)) with
         | none => rfl
         | some n =>
          simp only
          by_cases hv : validR n = true
          ·rw [if_pos hv];simp [EscRel,hv]
          ·rw [if_neg hv];simpa [EscRel] using hv
       ·rfl
def EscAt (w : World) (R : Int × Int × Bool) (e : Ending) (w' : World) : Prop :=
 e = .returned (.tuple #[.int .i32 R.1,.int .i64 R.2.1,.bool R.2.2]) ∧ Below w.heap.size w w'
def EscPost (w : World) (R : Option (Nat × Nat)) (e : Ending) (w' : World) : Prop :=
 Below w.heap.size w w' ∧ match R with
 | some (n,j) => e = .returned (.tuple #[.int .i32 (n : Int),.int .i64 (j : Int),.bool true])
 | none => ∃ c j : Int,e = .returned (.tuple #[.int .i32 c,.int .i64 j,.bool false])
theorem index_at (s : List UInt8) (c : UInt8) (k : Int) (h : Lib.indexByte s c = k) (W : World) : Calls Tryz.prog 131 #[.string ⟨s.toArray⟩,.string ⟨#[c]⟩] W fun e w' => e = .returned (.int .i64 k) ∧ W = w' :=
 (Tryz.strings_Index_one ⟨s.toArray⟩ c W).mono fun _ _ h' => ⟨by rw [h'.1,← h],h'.2.symm⟩
theorem cut_one (t : List UInt8) (i : Nat) (h : i + 1 < t.length) : (t.drop (i + 1)).take (i + 2 - (i + 1)) = [at0 t (i + 1)]:=by
 rw [show i + 2 - (i + 1) = 1 by omega,drop_at t (i + 1) h];rfl
theorem esc_none (c : UInt8) (h1 : c ≠ 110) (h2 : c ≠ 116) (h3 : c ≠ 92) (h4 : c ≠ 34) (h5 : c ≠ 39) : Lib.indexByte [110,116,92,39,34] c = -1:=by
 simp [Lib.indexByte,Ne.symm h1,Ne.symm h2,Ne.symm h3,Ne.symm h4,Ne.symm h5]
theorem hasp_one (t : List UInt8) (j : Nat) (c : UInt8) (hc : c ≠ 0) (W : World) : Calls Tryz.prog 39 #[.string ⟨(t.drop j).toArray⟩,.string ⟨#[c]⟩] W fun e w' => e = .returned (.bool (at0 t j == c)) ∧ W = w' :=
 (Tryz.strings_HasPrefix ⟨(t.drop j).toArray⟩ ⟨#[c]⟩ W).mono fun _ _ h' => ⟨by
  rw [h'.1];unfold Lib.hasPrefix
  congr 2
  show [c].isPrefixOf (t.drop j) = _
  by_cases h : j < t.length
  ·rw [drop_at t j h];simp [List.isPrefixOf,Bool.beq_comm]
  ·rw [List.drop_eq_nil_of_le (by omega)];have h0 : at0 t j = 0:=by
    unfold at0;rw [List.getD_eq_getElem?_getD,List.getElem?_eq_none (by omega)];rfl
   rw [h0];simp [List.isPrefixOf,Ne.symm hc],h'.2.symm⟩
theorem escape_any (t : List UInt8) (i : Nat) (b : Bool) (w : World) (h1 : i + 1 < t.length) (hl : t.length ≤ 16000) (he : CEnv w) :
  Calls Tryz.prog 93 #[.string ⟨t.toArray⟩,.int .i64 (i : Int),.bool b] w (EscAt w (escV t i b)):=by
 have hsub : ∀ W,_:=fun W => run_sub t (i + 1) (i + 2) (by omega) (by omega) ((i : Int) + 1) ((i : Int) + 2) (by go_num) (by go_num) W;rw [cut_one t i h1] at hsub;have hix : ∀ W,_:=fun W => run_idx t (i + 1) h1 ((i : Int) + 1) (by go_num) W;obtain ⟨R,hR⟩ : ∃ R,escV t i b = R:=⟨_,rfl⟩;rw [hR];unfold escV at hR;obtain ⟨c,hc⟩ : ∃ c,at0 t (i + 1) = c:=⟨_,rfl⟩
 by_cases c1 : c = 110
 ·subst c1;have HIX:=Lib.hid (index_at [110,116,92,39,34] 110 0 (by decide));rw [hc] at hsub hix hR;have HRR : Hid (R = (10,(i : Int) + 2,true)):=Lib.hid (by rw [← hR]; rfl);have hx9 : ((⟨#[10,9,92,39,34]⟩ : ByteArray)[0]'(by decide)).toNat = 10:=rfl;clear hc hR;go_enter Tryz.func93,Tryz.ntmps93;go_wp2_with fail;refine (HIX.out w).mono ?_;rintro e w1 ⟨rfl,rfl⟩;go_wp2_with fail
  go_ret3
  rw [HRR.out];exact ⟨rfl,Below.refl _ _⟩
 by_cases c2 : c = 116
 ·subst c2;have HIX:=Lib.hid (index_at [110,116,92,39,34] 116 1 (by decide));rw [hc] at hsub hix hR;have HRR : Hid (R = (9,(i : Int) + 2,true)):=Lib.hid (by rw [← hR]; rfl);have hx9 : ((⟨#[10,9,92,39,34]⟩ : ByteArray)[1]'(by decide)).toNat = 9:=rfl;clear hc hR;go_enter Tryz.func93,Tryz.ntmps93;go_wp2_with fail;refine (HIX.out w).mono ?_;rintro e w1 ⟨rfl,rfl⟩;go_wp2_with fail
  go_ret3
  rw [HRR.out];exact ⟨rfl,Below.refl _ _⟩
 by_cases c3 : c = 92
 ·subst c3;have HIX:=Lib.hid (index_at [110,116,92,39,34] 92 2 (by decide));rw [hc] at hsub hix hR;have HRR : Hid (R = (92,(i : Int) + 2,true)):=Lib.hid (by rw [← hR]; rfl);have hx9 : ((⟨#[10,9,92,39,34]⟩ : ByteArray)[2]'(by decide)).toNat = 92:=rfl;clear hc hR;go_enter Tryz.func93,Tryz.ntmps93;go_wp2_with fail;refine (HIX.out w).mono ?_;rintro e w1 ⟨rfl,rfl⟩;go_wp2_with fail
  go_ret3
  rw [HRR.out];exact ⟨rfl,Below.refl _ _⟩
 by_cases c4 : c = 34
 ·subst c4;have HIX:=Lib.hid (index_at [110,116,92,39,34] 34 4 (by decide));rw [hc] at hsub hix hR;have HRR : Hid (R = (34,(i : Int) + 2,true)):=Lib.hid (by rw [← hR]; rfl);have hx9 : ((⟨#[10,9,92,39,34]⟩ : ByteArray)[4]'(by decide)).toNat = 34:=rfl;clear hc hR;go_enter Tryz.func93,Tryz.ntmps93;go_wp2_with fail;refine (HIX.out w).mono ?_;rintro e w1 ⟨rfl,rfl⟩;go_wp2_with fail
  go_ret3
  rw [HRR.out];exact ⟨rfl,Below.refl _ _⟩
 by_cases c5 : c = 39
 ·subst c5;have HIX:=Lib.hid (index_at [110,116,92,39,34] 39 3 (by decide));rw [hc] at hsub hix hR;have HRR : Hid (R = (39,(i : Int) + 2,true)):=Lib.hid (by rw [← hR]; rfl);have hx9 : ((⟨#[10,9,92,39,34]⟩ : ByteArray)[3]'(by decide)).toNat = 39:=rfl;clear hc hR;go_enter Tryz.func93,Tryz.ntmps93;go_wp2_with fail;refine (HIX.out w).mono ?_;rintro e w1 ⟨rfl,rfl⟩;go_wp2_with fail
  go_ret3
  rw [HRR.out];exact ⟨rfl,Below.refl _ _⟩
 have HIX:=Lib.hid (index_at [110,116,92,39,34] c (-1) (esc_none c c1 c2 c3 c4 c5));rw [hc] at hsub hix hR;rw [if_neg c1,if_neg c2,if_neg c3,if_neg c4,if_neg c5] at hR;clear c1 c2 c3 c4 c5
 by_cases c6 : c = 120
 ·subst c6;rw [if_pos rfl] at hR
  by_cases h4 : i + 4 ≤ t.length
  ·have hd4 : decide ((i : Int) + 4 ≤ (t.length : Int)) = true:=decide_eq_true (by omega);rw [if_pos h4] at hR;have HX:=Lib.hid (hexes_any t (i + 2) (i + 4) w (by omega) h4 (by omega) he);have hpw:=fun m (hm : hexS (cutL t (i + 2) (i + 4)) = some m) => hexS_pow hm;rw [cutL_len h4,show i + 4 - (i + 2) = 2 by omega] at hpw;obtain ⟨X,hX⟩ : ∃ X,hexS (cutL t (i + 2) (i + 4)) = X:=⟨_,rfl⟩;rw [hX] at HX hR hpw;rw [show ((i + 2 : Nat) : Int) = (i : Int) + 2 by omega,show ((i + 4 : Nat) : Int) = (i : Int) + 4 by omega] at HX;clear hX hc;rcases X with _ | n
   ·have HRR : Hid (R = (0,(i : Int) + 4,false)):=Lib.hid hR.symm;clear hR hpw;go_enter Tryz.func93,Tryz.ntmps93;go_wp2_with fail;refine (HIX.out w).mono ?_;rintro e w1 ⟨rfl,rfl⟩;go_wp2_with fail;refine HX.out.mono ?_;rintro e w2 ⟨rfl,hb2⟩;clear HX HIX;go_wp2_with fail
    go_ret3
    rw [HRR.out];exact ⟨rfl,hb2⟩
   ·have HRR : Hid (R = ((n : Int),(i : Int) + 4,true)):=Lib.hid hR.symm;have hn:=hpw n rfl;rw [show (Option.some n).getD 0 = n from rfl,show (Option.some n).isSome = true from rfl] at HX;clear hR hpw;go_enter Tryz.func93,Tryz.ntmps93;go_wp2_with fail;refine (HIX.out w).mono ?_;rintro e w1 ⟨rfl,rfl⟩;go_wp2_with fail;refine HX.out.mono ?_;rintro e w2 ⟨rfl,hb2⟩;clear HX HIX;go_wp2_with fail
    go_ret3
    rw [HRR.out];exact ⟨rfl,hb2⟩
  ·have hd4 : decide ((i : Int) + 4 ≤ (t.length : Int)) = false:=decide_eq_false (by omega);rw [if_neg h4] at hR;have HRR : Hid (R = (0,0,false)):=Lib.hid hR.symm;clear hR hc;go_enter Tryz.func93,Tryz.ntmps93;go_wp2_with fail;refine (HIX.out w).mono ?_;rintro e w1 ⟨rfl,rfl⟩;go_wp2_with fail
   go_ret3
   rw [HRR.out];exact ⟨rfl,Below.refl _ _⟩
 rw [if_neg c6] at hR;have f6 : ((c.toNat : Int) == 120) = false:=by
  rw [beq_eq_false_iff_ne];intro h;exact c6 (UInt8.toNat_inj.1 (by simpa using (show c.toNat = 120 by omega)))
 clear c6 hc
 by_cases c7 : c = 117
 rotate_left
 ·have f7 : ((c.toNat : Int) == 117) = false:=by
   rw [beq_eq_false_iff_ne];intro h;exact c7 (UInt8.toNat_inj.1 (by simpa using (show c.toNat = 117 by omega)))
  rw [if_neg (fun h => c7 h.1)] at hR;have HRR : Hid (R = (0,0,false)):=Lib.hid hR.symm;clear hR c7;go_enter Tryz.func93,Tryz.ntmps93;go_wp2_with fail;refine (HIX.out w).mono ?_;rintro e w1 ⟨rfl,rfl⟩;go_wp2_with fail
  go_ret3
  rw [HRR.out];exact ⟨rfl,Below.refl _ _⟩
 subst c7;clear f6;rcases b with _ | _
 rotate_left
 ·rw [if_neg (fun h => absurd h.2.1 (by decide))] at hR;have HRR : Hid (R = (0,0,false)):=Lib.hid hR.symm;clear hR;go_enter Tryz.func93,Tryz.ntmps93;go_wp2_with fail;refine (HIX.out w).mono ?_;rintro e w1 ⟨rfl,rfl⟩;go_wp2_with fail
  go_ret3
  rw [HRR.out];exact ⟨rfl,Below.refl _ _⟩
 have htl:=run_tail t (i + 2) (by omega) ((i : Int) + 2) (by go_num);have HPF:=Lib.hid (hasp_one t (i + 2) 123 (by decide))
 by_cases c8 : at0 t (i + 2) = 123
 rotate_left
 ·rw [if_neg (fun h => c8 h.2.2)] at hR;have HRR : Hid (R = (0,0,false)):=Lib.hid hR.symm;rw [show (at0 t (i + 2) == 123) = false by simpa using c8] at HPF;clear hR c8;go_enter Tryz.func93,Tryz.ntmps93;go_wp2_with fail;refine (HIX.out w).mono ?_;rintro e w1 ⟨rfl,rfl⟩;go_wp2_with fail;refine (HPF.out w).mono ?_;rintro e w1 ⟨rfl,rfl⟩;go_wp2_with fail
  go_ret3
  rw [HRR.out];exact ⟨rfl,Below.refl _ _⟩
 rw [if_pos ⟨rfl,rfl,c8⟩] at hR;rw [show (at0 t (i + 2) == 123) = true by simpa using c8] at HPF;have hi2 : i + 2 < t.length:=by
  rcases Nat.lt_or_ge (i + 2) t.length with h | h
  ·exact h
  ·unfold at0 at c8;rw [List.getD_eq_getElem?_getD,List.getElem?_eq_none h] at c8;exact absurd c8 (by decide)
 have htl3:=run_tail t (i + 3) (by omega) ((i : Int) + 3) (by go_num);have HIB:=Lib.hid (index_at (t.drop (i + 3)) 125 _ rfl);have hge:=indexByte_ge (t.drop (i + 3)) 125;have hso:=@indexByte_some (t.drop (i + 3)) 125;obtain ⟨k,hk⟩ : ∃ k,Lib.indexByte (t.drop (i + 3)) 125 = k:=⟨_,rfl⟩;rw [hk] at hR HIB hge hso;clear c8 hk
 by_cases k1 : k < 1
 ·have f1 : decide (k < 1) = true:=decide_eq_true k1;rw [if_pos (.inl k1)] at hR;have HRR : Hid (R = (0,0,false)):=Lib.hid hR.symm;clear hR hso;go_enter Tryz.func93,Tryz.ntmps93;go_wp2_with fail;refine (HIX.out w).mono ?_;rintro e w1 ⟨rfl,rfl⟩;go_wp2_with fail;refine (HPF.out w).mono ?_;rintro e w1 ⟨rfl,rfl⟩;go_wp2_with fail;refine (HIB.out w).mono ?_;rintro e w1 ⟨rfl,rfl⟩;go_wp2_with fail
  go_ret3
  rw [HRR.out];exact ⟨rfl,Below.refl _ _⟩
 have f1 : decide (k < 1) = false:=decide_eq_false k1
 by_cases k6 : 6 < k
 ·have f2 : decide (6 < k) = true:=decide_eq_true k6;rw [if_pos (.inr k6)] at hR;have HRR : Hid (R = (0,0,false)):=Lib.hid hR.symm;clear hR hso;go_enter Tryz.func93,Tryz.ntmps93;go_wp2_with fail;refine (HIX.out w).mono ?_;rintro e w1 ⟨rfl,rfl⟩;go_wp2_with fail;refine (HPF.out w).mono ?_;rintro e w1 ⟨rfl,rfl⟩;go_wp2_with fail;refine (HIB.out w).mono ?_;rintro e w1 ⟨rfl,rfl⟩;go_wp2_with fail
  go_ret3
  rw [HRR.out];exact ⟨rfl,Below.refl _ _⟩
 have f2 : decide (6 < k) = false:=decide_eq_false k6;rw [if_neg (fun h => h.elim k1 k6)] at hR;obtain ⟨m,rfl⟩:=Int.eq_ofNat_of_zero_le (show 0 ≤ k by omega);have hm:=(hso rfl).1;rw [List.getElem?_drop] at hm;obtain ⟨hml,_⟩:=List.getElem?_eq_some_iff.1 hm;rw [Int.toNat_natCast] at hR;have HX:=Lib.hid (hexes_any t (i + 3) (i + 3 + m) w (by omega) (by omega) (by omega) he);have hpw:=fun n (hm : hexS (cutL t (i + 3) (i + 3 + m)) = some n) => Nat.lt_of_lt_of_le (hexS_pow hm) (Nat.pow_le_pow_right (by decide) (show (cutL t (i + 3) (i + 3 + m)).length ≤ 6 by rw [cutL_len (by omega)]; omega));obtain ⟨X,hX⟩ : ∃ X,hexS (cutL t (i + 3) (i + 3 + m)) = X:=⟨_,rfl⟩;rw [hX] at HX hR hpw;rw [show ((i + 3 : Nat) : Int) = (i : Int) + 3 by omega,show ((i + 3 + m : Nat) : Int) = (i : Int) + 3 + (m : Int) by omega] at HX;have hm6 : (m : Int) ≤ 6:=by omega
 clear hX hm hso hge k1 k6;rcases X with _ | n
 ·have HRR : Hid (R = (0,(i : Int) + 4 + (m : Int),false)):=Lib.hid hR.symm;clear hR hpw;go_enter Tryz.func93,Tryz.ntmps93;go_wp2_with fail;refine (HIX.out w).mono ?_;rintro e w1 ⟨rfl,rfl⟩;go_wp2_with fail;refine (HPF.out w).mono ?_;rintro e w1 ⟨rfl,rfl⟩;go_wp2_with fail;refine (HIB.out w).mono ?_;rintro e w1 ⟨rfl,rfl⟩;go_wp2_with fail;refine HX.out.mono ?_;rintro e w2 ⟨rfl,hb2⟩;clear HX HIX HIB HPF;go_wp2_with fail
  go_ret3
  rw [HRR.out];exact ⟨rfl,hb2⟩
 ·have hn:=hpw n rfl;have HN2:=Lib.hid (show (n : Int) ≤ 16777216 from by omega);simp only [Option.getD_some,Option.isSome_some,Bool.true_and] at hR;rw [show (Option.some n).getD 0 = n from rfl,show (Option.some n).isSome = true from rfl] at HX;clear hpw hn
  by_cases v1 : n < 1114112
  ·have G1:=Lib.hid (show (n : Int) ≤ 1114111 from by omega)
   by_cases v2 : n < 55296
   ·have G2:=Lib.hid (show (n : Int) ≤ 55295 from by omega);rw [show validR n = true from by unfold validR; simp; omega] at hR;have HRR : Hid (R = ((n : Int),(i : Int) + 4 + (m : Int),true)):=Lib.hid hR.symm;clear hR v1 v2;go_enter Tryz.func93,Tryz.ntmps93;go_wp2_with fail;refine (HIX.out w).mono ?_;rintro e w1 ⟨rfl,rfl⟩;go_wp2_with fail;refine (HPF.out w).mono ?_;rintro e w1 ⟨rfl,rfl⟩;go_wp2_with fail;refine (HIB.out w).mono ?_;rintro e w1 ⟨rfl,rfl⟩;go_wp2_with fail;refine HX.out.mono ?_;rintro e w2 ⟨rfl,hb2⟩;clear HX HIX HIB HPF
    go_upto_region 14 with fail
    have hw : wrap32 (n : Int) = (n : Int):=IntWalk.wrap32_in _ (by have:=HN2.out; omega);generalize hM : (1114112 : Int) = M;generalize hM2 : (55296 : Int) = M2;generalize hM3 : (57343 : Int) = M3;have g1 : decide ((n : Int) < M) = true:=decide_eq_true (by have:=G1.out; omega);have g2 : decide ((n : Int) < M2) = true:=decide_eq_true (by have:=G2.out; omega);clear hM hM2 hM3;go_wp2_with fail
    go_ret3
    rw [HRR.out];exact ⟨by show Ending.returned (.tuple #[.int .i32 (wrap32 (n : Int)),_,_]) = _; rw [hw]; rfl,hb2⟩
   ·have G2:=Lib.hid (show 55296 ≤ (n : Int) from by omega)
    by_cases v3 : 57343 < n
    ·have G3:=Lib.hid (show (57344 : Int) ≤ (n : Int) from by omega);rw [show validR n = true from by unfold validR; simp; omega] at hR;have HRR : Hid (R = ((n : Int),(i : Int) + 4 + (m : Int),true)):=Lib.hid hR.symm;clear hR v1 v2 v3;go_enter Tryz.func93,Tryz.ntmps93;go_wp2_with fail;refine (HIX.out w).mono ?_;rintro e w1 ⟨rfl,rfl⟩;go_wp2_with fail;refine (HPF.out w).mono ?_;rintro e w1 ⟨rfl,rfl⟩;go_wp2_with fail;refine (HIB.out w).mono ?_;rintro e w1 ⟨rfl,rfl⟩;go_wp2_with fail;refine HX.out.mono ?_;rintro e w2 ⟨rfl,hb2⟩;clear HX HIX HIB HPF
     go_upto_region 14 with fail
     have hw : wrap32 (n : Int) = (n : Int):=IntWalk.wrap32_in _ (by have:=HN2.out; omega);generalize hM : (1114112 : Int) = M;generalize hM2 : (55296 : Int) = M2;generalize hM3 : (57343 : Int) = M3;have g1 : decide ((n : Int) < M) = true:=decide_eq_true (by have:=G1.out; omega);have g2 : decide ((n : Int) < M2) = false:=decide_eq_false (by have:=G2.out; omega);have g3 : decide (M3 < (n : Int)) = true:=decide_eq_true (by have:=G3.out; omega);clear hM hM2 hM3;go_wp2_with fail
     go_ret3
     rw [HRR.out];exact ⟨by show Ending.returned (.tuple #[.int .i32 (wrap32 (n : Int)),_,_]) = _; rw [hw]; rfl,hb2⟩
    ·have G3:=Lib.hid (show (n : Int) ≤ 57343 from by omega);rw [show validR n = false from by unfold validR; simp; omega] at hR;have HRR : Hid (R = ((n : Int),(i : Int) + 4 + (m : Int),false)):=Lib.hid hR.symm;clear hR v1 v2 v3;go_enter Tryz.func93,Tryz.ntmps93;go_wp2_with fail;refine (HIX.out w).mono ?_;rintro e w1 ⟨rfl,rfl⟩;go_wp2_with fail;refine (HPF.out w).mono ?_;rintro e w1 ⟨rfl,rfl⟩;go_wp2_with fail;refine (HIB.out w).mono ?_;rintro e w1 ⟨rfl,rfl⟩;go_wp2_with fail;refine HX.out.mono ?_;rintro e w2 ⟨rfl,hb2⟩;clear HX HIX HIB HPF
     go_upto_region 14 with fail
     have hw : wrap32 (n : Int) = (n : Int):=IntWalk.wrap32_in _ (by have:=HN2.out; omega);generalize hM : (1114112 : Int) = M;generalize hM2 : (55296 : Int) = M2;generalize hM3 : (57343 : Int) = M3;have g1 : decide ((n : Int) < M) = true:=decide_eq_true (by have:=G1.out; omega);have g2 : decide ((n : Int) < M2) = false:=decide_eq_false (by have:=G2.out; omega);have g3 : decide (M3 < (n : Int)) = false:=decide_eq_false (by have:=G3.out; omega);clear hM hM2 hM3;go_wp2_with fail
     go_ret3
     rw [HRR.out];exact ⟨by show Ending.returned (.tuple #[.int .i32 (wrap32 (n : Int)),_,_]) = _; rw [hw]; rfl,hb2⟩
  ·have G1:=Lib.hid (show 1114112 ≤ (n : Int) from by omega);rw [show validR n = false from by unfold validR; simp; omega] at hR;have HRR : Hid (R = ((n : Int),(i : Int) + 4 + (m : Int),false)):=Lib.hid hR.symm;clear hR v1;go_enter Tryz.func93,Tryz.ntmps93;go_wp2_with fail;refine (HIX.out w).mono ?_;rintro e w1 ⟨rfl,rfl⟩;go_wp2_with fail;refine (HPF.out w).mono ?_;rintro e w1 ⟨rfl,rfl⟩;go_wp2_with fail;refine (HIB.out w).mono ?_;rintro e w1 ⟨rfl,rfl⟩;go_wp2_with fail;refine HX.out.mono ?_;rintro e w2 ⟨rfl,hb2⟩;clear HX HIX HIB HPF
   go_upto_region 14 with fail
   have hw : wrap32 (n : Int) = (n : Int):=IntWalk.wrap32_in _ (by have:=HN2.out; omega);generalize hM : (1114112 : Int) = M;generalize hM2 : (55296 : Int) = M2;generalize hM3 : (57343 : Int) = M3;have g1 : decide ((n : Int) < M) = false:=decide_eq_false (by have:=G1.out; omega);clear hM hM2 hM3;go_wp2_with fail
   go_ret3
   rw [HRR.out];exact ⟨by show Ending.returned (.tuple #[.int .i32 (wrap32 (n : Int)),_,_]) = _; rw [hw]; rfl,hb2⟩
end Go.Proofs.YtonehlkiackhcaaGreatDoor

namespace Go.Proofs.YtonehlkiackhcaaGreatDoor
open Go.RowKit Go.Lib Go.Sort
def shtC (x : Sht) : Array Value:=#[.int .u8 (x.pre.toNat : Int),.int .u8 (x.quo.toNat : Int),.int .i64 (x.frm : Int),.int .i64 (x.lim : Int)]
def chO (R : Except Nat (Nat × Nat)) : Option (Nat × Nat):=match R with
 | .ok r => some r
 | .error _ => none
theorem EscPost.keep {w w1 : World} {R : Option (Nat × Nat)} {e : Ending} {w' : World} (hb : Below w.heap.size w w1) (h : EscPost w1 R e w') : EscPost w R e w' :=
 ⟨below_then hb h.1 hb.size,h.2⟩
theorem rletter_any {l : List UInt8} {i : Nat} (w : World) (hs : Strg l) (hgd : Gd l i) (hi : i < (shtOf l).lim) (hl : l.length ≤ 16000) (he : CEnv w) :
  Calls Tryz.prog 55 #[.string ⟨l.toArray⟩,.int .i64 (i : Int),.agg (shtC (shtOf l))] w (EscPost w (chO (charS l (shtOf l) i))):=by
 have hlim:=lim_lt hs;have hE:=hgd.esc hs hi;have hne : l.drop i ≠ []:=by
  intro h;have:=congrArg List.length h;rw [List.length_drop] at this;simp at this;omega
 have hd92:=head92 (l:=l) (i:=i) (by omega);have hDC:=fun W hW => decode_any (l.drop i) hne W hW;have hES:=fun h1 => escR_escS (l:=l) (x:=shtOf l) (i:=i) h1 (by omega);have hidx:=run_idx l i (by omega) (i : Int) rfl;have htl:=run_tail l i (by omega) (i : Int) rfl;have hdw:=decodeL_head (l.drop i) hne;have hlt : (decodeL (l.drop i)).2 ≤ l.length - i ∧ (decodeL (l.drop i)).2 ≤ 4:=by
  rw [List.length_drop] at hdw;have : (l.drop i).length = l.length - i:=List.length_drop;rcases hdw with ⟨_,h⟩ | ⟨_,_,h,h4,_⟩
  ·rw [h]; simp only; omega
  ·exact ⟨h,h4⟩
 have hdlt:=decodeL_lt (l.drop i);obtain ⟨x,hx⟩ : ∃ x,shtOf l = x:=⟨_,rfl⟩;rw [hx] at hlim hE hES hi ⊢;have hcs : charS l x i = if x.pre = 98 ∧ 128 ≤ (decodeL (l.drop i)).1 then .error i
  else if at0 l i ≠ 92 ∨ x.pre = 114 then .ok ((decodeL (l.drop i)).1,i + (decodeL (l.drop i)).2)
  else match escS l x i with
  | none => .error i
  | some r => .ok r:=rfl
 obtain ⟨c,hc⟩ : ∃ c,(decodeL (l.drop i)).1 = c:=⟨_,rfl⟩;obtain ⟨n,hn⟩ : ∃ n,(decodeL (l.drop i)).2 = n:=⟨_,rfl⟩;rw [hc,hn] at hcs hDC;rw [hc] at hd92 hdlt;rw [hn] at hlt;clear hdw;obtain ⟨R,hR⟩ : ∃ R,charS l x i = R:=⟨_,rfl⟩;rw [hR] at hcs ⊢;have hup:=run_upto l x.lim (by omega) (x.lim : Int) rfl;have HE:=Lib.hid hE;have HES:=Lib.hid hES;have HDC:=Lib.hid hDC;clear hE hES hDC hR hx hne hs hgd hc hn;unfold shtC
 by_cases h92 : at0 l i = 92
 ·have hc92:=hd92.2 h92
  by_cases h114 : x.pre = 114
  ·have b92 : (((at0 l i).toNat : Int) == 92) = true:=(by rw [h92]; rfl);have b114 : ((x.pre.toNat : Int) == 114) = true:=(by rw [h114]; rfl);rw [if_pos (show at0 l i ≠ 92 ∨ x.pre = 114 from .inr h114)] at hcs;obtain ⟨cb,hcb⟩ : ∃ cb,at0 l i = cb:=⟨_,rfl⟩;rw [hcb] at hidx b92;have hi2 : (i : Int) + (n : Int) ≤ 20000:=(by omega);have h98 : x.pre ≠ 98:=(by rw [h114]; decide);clear hcb h92 hd92 hc92 h114 HE HES;have b98' : ((x.pre.toNat : Int) == 98) = false:=u8_ne (d:=98) h98;have b98 : ((x.pre.toNat : Int) != 98) = true:=(by rw [bne,b98']; rfl);have HRR : Hid (chO R = some (c,i + n)):=Lib.hid (by rw [hcs,if_neg (fun h => h98 h.1)]; rfl);clear hcs h98;go_enter Tryz.func55,Tryz.ntmps55;go_wp2_with fail;have hba : Below w.heap.size w (w.alloc (.cells (shtC x) 85)):=(Below.refl _ w).alloc (Nat.le_refl _) _;refine (HDC.out _ (he.keepB hba).l.rd.tabs).mono ?_;rintro e w2 ⟨rfl,hb2⟩;have hb3:=below_then hba hb2 hba.size;have hB2:=(Blk.new w 85 (shtC x)).belowS hb2;obtain ⟨q1,q2,q3⟩:=hB2.rules;unfold shtC at q1;clear HDC hba hb2 hB2;go_wp2_with fail
   go_ret3
   rw [HRR.out];exact ⟨hb3,rfl⟩
  ·have HRR : Hid (chO R = escS l x i):=Lib.hid (by
    rw [hcs,if_neg (by omega),if_neg (by rintro (h | h); exact h h92; exact h114 h)];cases escS l x i <;> rfl)
   have h1:=(HE.out h92 h114).1;have HES2:=Lib.hid (HES.out h1);have b92 : (((at0 l i).toNat : Int) == 92) = true:=(by rw [h92]; rfl);have b114 : ((x.pre.toNat : Int) == 114) = false:=u8_ne (d:=114) h114;have b98 : ((x.pre.toNat : Int) == 98) = (x.pre == 98):=by
    by_cases h : x.pre = 98
    ·rw [h]; rfl
    ·have h2 : ((x.pre.toNat : Int) == 98) = false:=u8_ne (d:=98) h;rw [h2];simpa using h
   have htl2 : (l.take x.lim).length = x.lim:=(by rw [List.length_take]; omega);have HEA:=Lib.hid (fun W hW => escape_any (l.take x.lim) i (x.pre == 98) W (by omega) (by omega) hW);obtain ⟨T,hT⟩ : ∃ T,l.take x.lim = T:=⟨_,rfl⟩;rw [hT] at HEA HES2 hup;obtain ⟨cb,hcb⟩ : ∃ cb,at0 l i = cb:=⟨_,rfl⟩;rw [hcb] at hidx b92;obtain ⟨bb,hbb⟩ : ∃ bb,(x.pre == 98) = bb:=⟨_,rfl⟩;rw [hbb] at HEA HES2 b98;rw [← HES2.out] at HRR;rw [HRR.out];clear hT hcb hbb hcs hd92 h92 hc92 htl2 HRR HES2 HES;go_enter Tryz.func55,Tryz.ntmps55;go_wp2_with fail;have hB:=Blk.new w 85 (shtC x);have hba0 : Below w.heap.size w (w.alloc (.cells (shtC x) 85)):=(Below.refl _ w).alloc (Nat.le_refl _) _;obtain ⟨g,hg⟩ : ∃ g,w.heap.size = g:=⟨_,rfl⟩;have HG:=Lib.hid hg;rw [hg] at hB;unfold shtC at hB hba0;generalize w.alloc (.cells #[.int .u8 (x.pre.toNat : Int),.int .u8 (x.quo.toNat : Int),.int .i64 (x.frm : Int),.int .i64 (x.lim : Int)] 85) = w1 at hB hba0 ⊢;rw [hg];clear hg;obtain ⟨q1,q2,q3⟩:=hB.rules;have G : ∀ (d : Nat) (os : Array Obj) (i : Nat),(grow (redrawn w1 d) os).cell? ⟨g,i,none⟩ = (shtC x)[i]?:=hB.growsL;unfold shtC at G;have HEQ:=Lib.hid (fun d os => Calls.regrown_of (HEA.out (grow (redrawn w1 d) os) ((he.keepB hba0).keepB (below_regrown w1 d os))));refine wp_region_quiet_below (by kernel_rfl) (by kernel_rfl) ?_
   repeat (first | go_big_quiet_step (exact HEQ.out _ _) | quiet_step (exact HEQ.out _ _))
   refine wpQuiet_nil ?_;intro _ hwq;obtain ⟨⟨dq,osq⟩,hwq'⟩:=hwq;subst hwq';have hbq:=below_then hba0 (below_regrown w1 dq osq) hba0.size;generalize grow (redrawn w1 dq) osq = w3 at hbq ⊢;clear q1 q2 q3 G HEA HEQ hB hba0;obtain ⟨V,hV⟩ : ∃ V,escV T i bb = V:=⟨_,rfl⟩;have hVR:=escV_R T i bb;rw [hV] at hVR ⊢;obtain ⟨c2,j2,o2⟩:=V;obtain ⟨Q,hQ⟩ : ∃ Q,escR T i bb = Q:=⟨_,rfl⟩;have HQ:=Lib.hid hQ;have HVR:=Lib.hid hVR;clear hQ hV hVR;go_wp2_with fail
   go_ret3
   refine ⟨hbq,?_⟩;have h:=HVR.out;rw [HQ.out] at h ⊢;rcases Q with _ | ⟨n2,j2'⟩
   ·obtain rfl : o2 = false:=h;exact ⟨c2,j2,rfl⟩
   ·injection h with h1 h2;injection h2 with h2 h3;subst h1 h2 h3;rfl
 ·have b92 : (((at0 l i).toNat : Int) == 92) = false:=u8_ne (d:=92) h92;rw [if_pos (show at0 l i ≠ 92 ∨ x.pre = 114 from .inl h92)] at hcs;obtain ⟨cb,hcb⟩ : ∃ cb,at0 l i = cb:=⟨_,rfl⟩;rw [hcb] at hidx b92;clear hcb h92 hd92 HE HES;have hi2 : (i : Int) + (n : Int) ≤ 20000:=by omega
  by_cases h98 : x.pre = 98
  ·have b98 : ((x.pre.toNat : Int) != 98) = false:=by rw [h98]; rfl
   by_cases h128 : 128 ≤ c
   ·have d128 : decide ((c : Int) < 128) = false:=decide_eq_false (by omega);have HRR : Hid (chO R = none):=Lib.hid (by rw [hcs,if_pos ⟨h98,h128⟩]; rfl);clear hcs h98 h128;go_enter Tryz.func55,Tryz.ntmps55;go_wp2_with fail;have hba : Below w.heap.size w (w.alloc (.cells (shtC x) 85)):=(Below.refl _ w).alloc (Nat.le_refl _) _;refine (HDC.out _ (he.keepB hba).l.rd.tabs).mono ?_;rintro e w2 ⟨rfl,hb2⟩;have hb3:=below_then hba hb2 hba.size;have hB2:=(Blk.new w 85 (shtC x)).belowS hb2;obtain ⟨q1,q2,q3⟩:=hB2.rules;unfold shtC at q1;clear HDC hba hb2 hB2;go_wp2_with fail
    go_ret3
    rw [HRR.out];exact ⟨hb3,_,_,rfl⟩
   ·have d128 : decide ((c : Int) < 128) = true:=decide_eq_true (by omega);have HRR : Hid (chO R = some (c,i + n)):=Lib.hid (by rw [hcs,if_neg (fun h => h128 h.2)]; rfl);clear hcs h98 h128;go_enter Tryz.func55,Tryz.ntmps55;go_wp2_with fail;have hba : Below w.heap.size w (w.alloc (.cells (shtC x) 85)):=(Below.refl _ w).alloc (Nat.le_refl _) _;refine (HDC.out _ (he.keepB hba).l.rd.tabs).mono ?_;rintro e w2 ⟨rfl,hb2⟩;have hb3:=below_then hba hb2 hba.size;have hB2:=(Blk.new w 85 (shtC x)).belowS hb2;obtain ⟨q1,q2,q3⟩:=hB2.rules;unfold shtC at q1;clear HDC hba hb2 hB2;go_wp2_with fail
    go_ret3
    rw [HRR.out];exact ⟨hb3,rfl⟩
  ·have b98' : ((x.pre.toNat : Int) == 98) = false:=u8_ne (d:=98) h98;have b98 : ((x.pre.toNat : Int) != 98) = true:=(by rw [bne,b98']; rfl);have HRR : Hid (chO R = some (c,i + n)):=Lib.hid (by rw [hcs,if_neg (fun h => h98 h.1)]; rfl);clear hcs h98;go_enter Tryz.func55,Tryz.ntmps55;go_wp2_with fail;have hba : Below w.heap.size w (w.alloc (.cells (shtC x) 85)):=(Below.refl _ w).alloc (Nat.le_refl _) _;refine (HDC.out _ (he.keepB hba).l.rd.tabs).mono ?_;rintro e w2 ⟨rfl,hb2⟩;have hb3:=below_then hba hb2 hba.size;have hB2:=(Blk.new w 85 (shtC x)).belowS hb2;obtain ⟨q1,q2,q3⟩:=hB2.rules;unfold shtC at q1;clear HDC hba hb2 hB2;go_wp2_with fail
   go_ret3
   rw [HRR.out];exact ⟨hb3,rfl⟩
end Go.Proofs.YtonehlkiackhcaaGreatDoor

namespace Go.Proofs.YtonehlkiackhcaaGreatDoor
open Go.Maps Go.RowKit
end Go.Proofs.YtonehlkiackhcaaGreatDoor
