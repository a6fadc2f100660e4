/- The scanner's function name: the token or the fault. Nothing is claimed here. -/
import Derived.Test.YtonehlkiackhcaaGreatDoorScanC
set_option linter.unusedVariables false
set_option linter.unusedSimpArgs false
set_option maxRecDepth 100000
set_option maxHeartbeats 16000000
namespace Go.Proofs.YtonehlkiackhcaaGreatDoor
section
open Go.RowKit Go.Shelf Go.Lib Go.Maps
theorem quiet_left {P : Program} {f : FuncId} {args : Array Value} {w : World} {n : Nat} {v : Value}
  (h : Calls P f args (w.drewN n) fun e w' => e = .returned v∧w.drewN n = w') : Calls P f args (w.drewN n) fun e w'' => e = .returned v∧∃ m,w'' = w.drewN m :=
 h.mono fun _ _ ⟨he,hm⟩ => ⟨he,n,hm.symm⟩
def atW (g:Nat) (w : World) : Nat:=match w.cell? ⟨g,1,none⟩ with
 | some (.int _ n) => n.toNat
 | _ => 0
theorem ScR.atW {w : World} {B g : Nat} {cs : Array Value} {ind : List Nat} {op : List UInt8} {ts : List Tok} {vi vo vt : Value} {m : Nat} {vs : Value} {n : Nat} (h : ScR w B g cs ind op ts vi vo vt m vs) (hc : cs[1]? = some (.int .i64 (n:Int))) : YtonehlkiackhcaaGreatDoor.atW g w = n:=by
 unfold YtonehlkiackhcaaGreatDoor.atW;rw [h.blk.cell 1,hc];simp
theorem while_wrd_con (c : UInt8) (W : World) : Calls Tryz.prog 188 #[.int .u8 (c.toNat:Int)] W fun e w' => e = .returned (.bool (isWrd c))∧W = w':=name1_any c W
theorem while_hex_con (c : UInt8) (W : World) : Calls Tryz.prog 190 #[.int .u8 (c.toNat:Int)] W fun e w' => e = .returned (.bool (isHex c))∧W = w':=number2_any c W
theorem while_bin_con (c : UInt8) (W : World) : Calls Tryz.prog 189 #[.int .u8 (c.toNat:Int)] W fun e w' => e = .returned (.bool (isBin c))∧W = w':=number1_any c W
theorem while_dig_con (c : UInt8) (W : World) : Calls Tryz.prog 155 #[.int .u8 (c.toNat:Int)] W fun e w' => e = .returned (.bool (isDig c))∧W = w':=digit_any c W
theorem while_dig {a w : World} {B g : Nat} {l : List UInt8} {at_ : Nat} {ind : List Nat} {op : List UInt8} {ts : List Tok} {vi vo vt : Value} {m : Nat} {vs : Value} (h : Sc w B g l at_ ind op ts vi vo vt m vs) (hl : l.length ≤ 16000) (ha : at_ ≤ l.length) (hb : Below B a w) :
  Calls Tryz.prog 184 #[.pointer (some ⟨g,0,none⟩),.func (.func 155) #[] #[]] w fun e w' => e = .returned (.tuple #[])∧Sc w' B g l (at_ + span isDig (l.drop at_)) ind op ts vi vo vt m vs∧Below B a w':=by
 have HC : Hid (∀ (c : UInt8) (W : World),Calls Tryz.prog 155 #[.int .u8 (c.toNat:Int)] W fun e w' => e = .returned (.bool (isDig c))∧W = w'):=hid (fun c W => while_dig_con c W);go_enter Tryz.func184,Tryz.ntmps184;go_wp2_with fail
 go_loopw [26] (fun _ wr => ∃ k,at_ ≤ k∧k ≤ l.length∧k + span isDig (l.drop k) = at_ + span isDig (l.drop at_)∧Sc wr B g l k ind op ts vi vo vt m vs∧Below B a wr) (fun _ wr => l.length - atW g wr)
 case atStart => exact ⟨at_,Nat.le_refl _,ha,rfl,h,hb⟩
 case round =>
  obtain ⟨k,hk1,hk2,hk3,hs,hbr⟩:=hrel;have HK3:=hid hk3;clear hk3 h hb;have hs':=hs;unfold Sc scCells at hs';obtain ⟨q1,q2,q3⟩:=hs'.blk.rules
  by_cases hlt : k < l.length
  ·have hsp:=span_at isDig l k hlt;have hix:=run_idx l k hlt (k:Int) rfl;have d1 : decide ((k:Int) < (l.length:Int)) = true:=decide_eq_true (by omega);have d2 : decide (k < l.length) = true:=decide_eq_true hlt
   by_cases hp : isDig (at0 l k) = true
   ·have hc10 : at0 l k ≠ 10:=(by intro e; rw [e] at hp; exact absurd hp (by decide));have HL:=hid (line_same l k hlt hc10);have HB:=hid (bol_same l k hlt hc10);rw [if_pos hp] at hsp;have HSP:=hid hsp;have HCC : Hid (∀ W : World,Calls Tryz.prog 155 #[.int .u8 ((at0 l k).toNat:Int)] W fun e w' => e = .returned (.bool true)∧W = w'):=hid (fun W => by have:=HC.out (at0 l k) W; rwa [hp] at this);have HS:=hid hs;clear hsp hp hc10 hs;go_wp2_with fail;go_quiet ((go_at_call 155; exact quiet_left (HCC.out _)));go_wp2_with fail;go_roundw
    case rel =>
     refine ⟨k + 1,by omega,by omega,?_,?_,(below_drewN hbr _).setCell (p:=⟨g,1,none⟩) hs'.ge _⟩
     ·rw [← HK3.out,HSP.out]; omega
     ·unfold Sc scCells;rw [HL.out,HB.out];exact (hs'.drewN _).set 1 (.int .i64 ((k:Int) + 1))
    case measure =>
     rw [ScR.atW hs' rfl,ScR.atW ((hs'.drewN _).set 1 (.int .i64 ((k:Int) + 1))) (n:=k + 1) rfl];omega
   ·have hp' : isDig (at0 l k) = false:=(by simpa using hp);rw [if_neg hp] at hsp;have HSP:=hid hsp;have HCC : Hid (∀ W : World,Calls Tryz.prog 155 #[.int .u8 ((at0 l k).toNat:Int)] W fun e w' => e = .returned (.bool false)∧W = w'):=hid (fun W => by have:=HC.out (at0 l k) W; rwa [hp'] at this);have HS:=hid hs;clear hsp hp hp' hs;go_wp2_with fail;go_quiet ((go_at_call 155; exact quiet_left (HCC.out _)));go_wp2_with fail;go_end0;refine ⟨rfl,?_,below_drewN hbr _⟩;rw [← HK3.out,HSP.out,Nat.add_zero];exact ScR.drewN HS.out _
  ·have hend:=span_end isDig l k (by omega);have HE:=hid hend;have d1 : decide ((k:Int) < (l.length:Int)) = false:=decide_eq_false (by omega);have d2 : decide (k < l.length) = false:=decide_eq_false hlt;have HS:=hid hs;clear hend hs;go_wp2_with fail;go_quiet (fail);go_wp2_with fail;go_end0;refine ⟨rfl,?_,below_drewN hbr _⟩;rw [← HK3.out,HE.out,Nat.add_zero];exact ScR.drewN HS.out _
theorem while_wrd {a w : World} {B g : Nat} {l : List UInt8} {at_ : Nat} {ind : List Nat} {op : List UInt8} {ts : List Tok} {vi vo vt : Value} {m : Nat} {vs : Value} (h : Sc w B g l at_ ind op ts vi vo vt m vs) (hl : l.length ≤ 16000) (ha : at_ ≤ l.length) (hb : Below B a w) :
  Calls Tryz.prog 184 #[.pointer (some ⟨g,0,none⟩),.func (.func 188) #[] #[]] w fun e w' => e = .returned (.tuple #[])∧Sc w' B g l (at_ + span isWrd (l.drop at_)) ind op ts vi vo vt m vs∧Below B a w':=by
 have HC : Hid (∀ (c : UInt8) (W : World),Calls Tryz.prog 188 #[.int .u8 (c.toNat:Int)] W fun e w' => e = .returned (.bool (isWrd c))∧W = w'):=hid (fun c W => while_wrd_con c W);go_enter Tryz.func184,Tryz.ntmps184;go_wp2_with fail
 go_loopw [26] (fun _ wr => ∃ k,at_ ≤ k∧k ≤ l.length∧k + span isWrd (l.drop k) = at_ + span isWrd (l.drop at_)∧Sc wr B g l k ind op ts vi vo vt m vs∧Below B a wr) (fun _ wr => l.length - atW g wr)
 case atStart => exact ⟨at_,Nat.le_refl _,ha,rfl,h,hb⟩
 case round =>
  obtain ⟨k,hk1,hk2,hk3,hs,hbr⟩:=hrel;have HK3:=hid hk3;clear hk3 h hb;have hs':=hs;unfold Sc scCells at hs';obtain ⟨q1,q2,q3⟩:=hs'.blk.rules
  by_cases hlt : k < l.length
  ·have hsp:=span_at isWrd l k hlt;have hix:=run_idx l k hlt (k:Int) rfl;have d1 : decide ((k:Int) < (l.length:Int)) = true:=decide_eq_true (by omega);have d2 : decide (k < l.length) = true:=decide_eq_true hlt
   by_cases hp : isWrd (at0 l k) = true
   ·have hc10 : at0 l k ≠ 10:=(by intro e; rw [e] at hp; exact absurd hp (by decide));have HL:=hid (line_same l k hlt hc10);have HB:=hid (bol_same l k hlt hc10);rw [if_pos hp] at hsp;have HSP:=hid hsp;have HCC : Hid (∀ W : World,Calls Tryz.prog 188 #[.int .u8 ((at0 l k).toNat:Int)] W fun e w' => e = .returned (.bool true)∧W = w'):=hid (fun W => by have:=HC.out (at0 l k) W; rwa [hp] at this);have HS:=hid hs;clear hsp hp hc10 hs;go_wp2_with fail;go_quiet ((go_at_call 188; exact quiet_left (HCC.out _)));go_wp2_with fail;go_roundw
    case rel =>
     refine ⟨k + 1,by omega,by omega,?_,?_,(below_drewN hbr _).setCell (p:=⟨g,1,none⟩) hs'.ge _⟩
     ·rw [← HK3.out,HSP.out]; omega
     ·unfold Sc scCells;rw [HL.out,HB.out];exact (hs'.drewN _).set 1 (.int .i64 ((k:Int) + 1))
    case measure =>
     rw [ScR.atW hs' rfl,ScR.atW ((hs'.drewN _).set 1 (.int .i64 ((k:Int) + 1))) (n:=k + 1) rfl];omega
   ·have hp' : isWrd (at0 l k) = false:=(by simpa using hp);rw [if_neg hp] at hsp;have HSP:=hid hsp;have HCC : Hid (∀ W : World,Calls Tryz.prog 188 #[.int .u8 ((at0 l k).toNat:Int)] W fun e w' => e = .returned (.bool false)∧W = w'):=hid (fun W => by have:=HC.out (at0 l k) W; rwa [hp'] at this);have HS:=hid hs;clear hsp hp hp' hs;go_wp2_with fail;go_quiet ((go_at_call 188; exact quiet_left (HCC.out _)));go_wp2_with fail;go_end0;refine ⟨rfl,?_,below_drewN hbr _⟩;rw [← HK3.out,HSP.out,Nat.add_zero];exact ScR.drewN HS.out _
  ·have hend:=span_end isWrd l k (by omega);have HE:=hid hend;have d1 : decide ((k:Int) < (l.length:Int)) = false:=decide_eq_false (by omega);have d2 : decide (k < l.length) = false:=decide_eq_false hlt;have HS:=hid hs;clear hend hs;go_wp2_with fail;go_quiet (fail);go_wp2_with fail;go_end0;refine ⟨rfl,?_,below_drewN hbr _⟩;rw [← HK3.out,HE.out,Nat.add_zero];exact ScR.drewN HS.out _
theorem while_hex {a w : World} {B g : Nat} {l : List UInt8} {at_ : Nat} {ind : List Nat} {op : List UInt8} {ts : List Tok} {vi vo vt : Value} {m : Nat} {vs : Value} (h : Sc w B g l at_ ind op ts vi vo vt m vs) (hl : l.length ≤ 16000) (ha : at_ ≤ l.length) (hb : Below B a w) :
  Calls Tryz.prog 184 #[.pointer (some ⟨g,0,none⟩),.func (.func 190) #[] #[]] w fun e w' => e = .returned (.tuple #[])∧Sc w' B g l (at_ + span isHex (l.drop at_)) ind op ts vi vo vt m vs∧Below B a w':=by
 have HC : Hid (∀ (c : UInt8) (W : World),Calls Tryz.prog 190 #[.int .u8 (c.toNat:Int)] W fun e w' => e = .returned (.bool (isHex c))∧W = w'):=hid (fun c W => while_hex_con c W);go_enter Tryz.func184,Tryz.ntmps184;go_wp2_with fail
 go_loopw [26] (fun _ wr => ∃ k,at_ ≤ k∧k ≤ l.length∧k + span isHex (l.drop k) = at_ + span isHex (l.drop at_)∧Sc wr B g l k ind op ts vi vo vt m vs∧Below B a wr) (fun _ wr => l.length - atW g wr)
 case atStart => exact ⟨at_,Nat.le_refl _,ha,rfl,h,hb⟩
 case round =>
  obtain ⟨k,hk1,hk2,hk3,hs,hbr⟩:=hrel;have HK3:=hid hk3;clear hk3 h hb;have hs':=hs;unfold Sc scCells at hs';obtain ⟨q1,q2,q3⟩:=hs'.blk.rules
  by_cases hlt : k < l.length
  ·have hsp:=span_at isHex l k hlt;have hix:=run_idx l k hlt (k:Int) rfl;have d1 : decide ((k:Int) < (l.length:Int)) = true:=decide_eq_true (by omega);have d2 : decide (k < l.length) = true:=decide_eq_true hlt
   by_cases hp : isHex (at0 l k) = true
   ·have hc10 : at0 l k ≠ 10:=(by intro e; rw [e] at hp; exact absurd hp (by decide));have HL:=hid (line_same l k hlt hc10);have HB:=hid (bol_same l k hlt hc10);rw [if_pos hp] at hsp;have HSP:=hid hsp;have HCC : Hid (∀ W : World,Calls Tryz.prog 190 #[.int .u8 ((at0 l k).toNat:Int)] W fun e w' => e = .returned (.bool true)∧W = w'):=hid (fun W => by have:=HC.out (at0 l k) W; rwa [hp] at this);have HS:=hid hs;clear hsp hp hc10 hs;go_wp2_with fail;go_quiet ((go_at_call 190; exact quiet_left (HCC.out _)));go_wp2_with fail;go_roundw
    case rel =>
     refine ⟨k + 1,by omega,by omega,?_,?_,(below_drewN hbr _).setCell (p:=⟨g,1,none⟩) hs'.ge _⟩
     ·rw [← HK3.out,HSP.out]; omega
     ·unfold Sc scCells;rw [HL.out,HB.out];exact (hs'.drewN _).set 1 (.int .i64 ((k:Int) + 1))
    case measure =>
     rw [ScR.atW hs' rfl,ScR.atW ((hs'.drewN _).set 1 (.int .i64 ((k:Int) + 1))) (n:=k + 1) rfl];omega
   ·have hp' : isHex (at0 l k) = false:=(by simpa using hp);rw [if_neg hp] at hsp;have HSP:=hid hsp;have HCC : Hid (∀ W : World,Calls Tryz.prog 190 #[.int .u8 ((at0 l k).toNat:Int)] W fun e w' => e = .returned (.bool false)∧W = w'):=hid (fun W => by have:=HC.out (at0 l k) W; rwa [hp'] at this);have HS:=hid hs;clear hsp hp hp' hs;go_wp2_with fail;go_quiet ((go_at_call 190; exact quiet_left (HCC.out _)));go_wp2_with fail;go_end0;refine ⟨rfl,?_,below_drewN hbr _⟩;rw [← HK3.out,HSP.out,Nat.add_zero];exact ScR.drewN HS.out _
  ·have hend:=span_end isHex l k (by omega);have HE:=hid hend;have d1 : decide ((k:Int) < (l.length:Int)) = false:=decide_eq_false (by omega);have d2 : decide (k < l.length) = false:=decide_eq_false hlt;have HS:=hid hs;clear hend hs;go_wp2_with fail;go_quiet (fail);go_wp2_with fail;go_end0;refine ⟨rfl,?_,below_drewN hbr _⟩;rw [← HK3.out,HE.out,Nat.add_zero];exact ScR.drewN HS.out _
theorem while_bin {a w : World} {B g : Nat} {l : List UInt8} {at_ : Nat} {ind : List Nat} {op : List UInt8} {ts : List Tok} {vi vo vt : Value} {m : Nat} {vs : Value} (h : Sc w B g l at_ ind op ts vi vo vt m vs) (hl : l.length ≤ 16000) (ha : at_ ≤ l.length) (hb : Below B a w) :
  Calls Tryz.prog 184 #[.pointer (some ⟨g,0,none⟩),.func (.func 189) #[] #[]] w fun e w' => e = .returned (.tuple #[])∧Sc w' B g l (at_ + span isBin (l.drop at_)) ind op ts vi vo vt m vs∧Below B a w':=by
 have HC : Hid (∀ (c : UInt8) (W : World),Calls Tryz.prog 189 #[.int .u8 (c.toNat:Int)] W fun e w' => e = .returned (.bool (isBin c))∧W = w'):=hid (fun c W => while_bin_con c W);go_enter Tryz.func184,Tryz.ntmps184;go_wp2_with fail
 go_loopw [26] (fun _ wr => ∃ k,at_ ≤ k∧k ≤ l.length∧k + span isBin (l.drop k) = at_ + span isBin (l.drop at_)∧Sc wr B g l k ind op ts vi vo vt m vs∧Below B a wr) (fun _ wr => l.length - atW g wr)
 case atStart => exact ⟨at_,Nat.le_refl _,ha,rfl,h,hb⟩
 case round =>
  obtain ⟨k,hk1,hk2,hk3,hs,hbr⟩:=hrel;have HK3:=hid hk3;clear hk3 h hb;have hs':=hs;unfold Sc scCells at hs';obtain ⟨q1,q2,q3⟩:=hs'.blk.rules
  by_cases hlt : k < l.length
  ·have hsp:=span_at isBin l k hlt;have hix:=run_idx l k hlt (k:Int) rfl;have d1 : decide ((k:Int) < (l.length:Int)) = true:=decide_eq_true (by omega);have d2 : decide (k < l.length) = true:=decide_eq_true hlt
   by_cases hp : isBin (at0 l k) = true
   ·have hc10 : at0 l k ≠ 10:=(by intro e; rw [e] at hp; exact absurd hp (by decide));have HL:=hid (line_same l k hlt hc10);have HB:=hid (bol_same l k hlt hc10);rw [if_pos hp] at hsp;have HSP:=hid hsp;have HCC : Hid (∀ W : World,Calls Tryz.prog 189 #[.int .u8 ((at0 l k).toNat:Int)] W fun e w' => e = .returned (.bool true)∧W = w'):=hid (fun W => by have:=HC.out (at0 l k) W; rwa [hp] at this);have HS:=hid hs;clear hsp hp hc10 hs;go_wp2_with fail;go_quiet ((go_at_call 189; exact quiet_left (HCC.out _)));go_wp2_with fail;go_roundw
    case rel =>
     refine ⟨k + 1,by omega,by omega,?_,?_,(below_drewN hbr _).setCell (p:=⟨g,1,none⟩) hs'.ge _⟩
     ·rw [← HK3.out,HSP.out]; omega
     ·unfold Sc scCells;rw [HL.out,HB.out];exact (hs'.drewN _).set 1 (.int .i64 ((k:Int) + 1))
    case measure =>
     rw [ScR.atW hs' rfl,ScR.atW ((hs'.drewN _).set 1 (.int .i64 ((k:Int) + 1))) (n:=k + 1) rfl];omega
   ·have hp' : isBin (at0 l k) = false:=(by simpa using hp);rw [if_neg hp] at hsp;have HSP:=hid hsp;have HCC : Hid (∀ W : World,Calls Tryz.prog 189 #[.int .u8 ((at0 l k).toNat:Int)] W fun e w' => e = .returned (.bool false)∧W = w'):=hid (fun W => by have:=HC.out (at0 l k) W; rwa [hp'] at this);have HS:=hid hs;clear hsp hp hp' hs;go_wp2_with fail;go_quiet ((go_at_call 189; exact quiet_left (HCC.out _)));go_wp2_with fail;go_end0;refine ⟨rfl,?_,below_drewN hbr _⟩;rw [← HK3.out,HSP.out,Nat.add_zero];exact ScR.drewN HS.out _
  ·have hend:=span_end isBin l k (by omega);have HE:=hid hend;have d1 : decide ((k:Int) < (l.length:Int)) = false:=decide_eq_false (by omega);have d2 : decide (k < l.length) = false:=decide_eq_false hlt;have HS:=hid hs;clear hend hs;go_wp2_with fail;go_quiet (fail);go_wp2_with fail;go_end0;refine ⟨rfl,?_,below_drewN hbr _⟩;rw [← HK3.out,HE.out,Nat.add_zero];exact ScR.drewN HS.out _
theorem while_ln_con {g : Nat} (c : UInt8) (W : World) : Calls Tryz.prog 185 #[.pointer (some ⟨g,0,none⟩),.int .u8 (c.toNat:Int)] W fun e w' => e = .returned (.bool (inLn c))∧W = w':=inLine_any _ c W
theorem while_ln {a w : World} {B g : Nat} {l : List UInt8} {at_ : Nat} {ind : List Nat} {op : List UInt8} {ts : List Tok} {vi vo vt : Value} {m : Nat} {vs : Value} (h : Sc w B g l at_ ind op ts vi vo vt m vs) (hl : l.length ≤ 16000) (ha : at_ ≤ l.length) (hb : Below B a w) :
  Calls Tryz.prog 184 #[.pointer (some ⟨g,0,none⟩),.func (.func 185) #[.pointer (some ⟨g,0,none⟩)] #[]] w fun e w' => e = .returned (.tuple #[])∧Sc w' B g l (at_ + span inLn (l.drop at_)) ind op ts vi vo vt m vs∧Below B a w':=by
 have HC : Hid (∀ (c : UInt8) (W : World),Calls Tryz.prog 185 #[.pointer (some ⟨g,0,none⟩),.int .u8 (c.toNat:Int)] W fun e w' => e = .returned (.bool (inLn c))∧W = w'):=hid (fun c W => while_ln_con c W);go_enter Tryz.func184,Tryz.ntmps184;go_wp2_with fail
 go_loopw [26] (fun _ wr => ∃ k,at_ ≤ k∧k ≤ l.length∧k + span inLn (l.drop k) = at_ + span inLn (l.drop at_)∧Sc wr B g l k ind op ts vi vo vt m vs∧Below B a wr) (fun _ wr => l.length - atW g wr)
 case atStart => exact ⟨at_,Nat.le_refl _,ha,rfl,h,hb⟩
 case round =>
  obtain ⟨k,hk1,hk2,hk3,hs,hbr⟩:=hrel;have HK3:=hid hk3;clear hk3 h hb;have hs':=hs;unfold Sc scCells at hs';obtain ⟨q1,q2,q3⟩:=hs'.blk.rules
  by_cases hlt : k < l.length
  ·have hsp:=span_at inLn l k hlt;have hix:=run_idx l k hlt (k:Int) rfl;have d1 : decide ((k:Int) < (l.length:Int)) = true:=decide_eq_true (by omega);have d2 : decide (k < l.length) = true:=decide_eq_true hlt
   by_cases hp : inLn (at0 l k) = true
   ·have hc10 : at0 l k ≠ 10:=(by intro e; rw [e] at hp; exact absurd hp (by decide));have HL:=hid (line_same l k hlt hc10);have HB:=hid (bol_same l k hlt hc10);rw [if_pos hp] at hsp;have HSP:=hid hsp;have HCC : Hid (∀ W : World,Calls Tryz.prog 185 #[.pointer (some ⟨g,0,none⟩),.int .u8 ((at0 l k).toNat:Int)] W fun e w' => e = .returned (.bool true)∧W = w'):=hid (fun W => by have:=HC.out (at0 l k) W; rwa [hp] at this);have HS:=hid hs;clear hsp hp hc10 hs;go_wp2_with fail;go_quiet ((go_at_call 185; exact quiet_left (HCC.out _)));go_wp2_with fail;go_roundw
    case rel =>
     refine ⟨k + 1,by omega,by omega,?_,?_,(below_drewN hbr _).setCell (p:=⟨g,1,none⟩) hs'.ge _⟩
     ·rw [← HK3.out,HSP.out]; omega
     ·unfold Sc scCells;rw [HL.out,HB.out];exact (hs'.drewN _).set 1 (.int .i64 ((k:Int) + 1))
    case measure =>
     rw [ScR.atW hs' rfl,ScR.atW ((hs'.drewN _).set 1 (.int .i64 ((k:Int) + 1))) (n:=k + 1) rfl];omega
   ·have hp' : inLn (at0 l k) = false:=(by simpa using hp);rw [if_neg hp] at hsp;have HSP:=hid hsp;have HCC : Hid (∀ W : World,Calls Tryz.prog 185 #[.pointer (some ⟨g,0,none⟩),.int .u8 ((at0 l k).toNat:Int)] W fun e w' => e = .returned (.bool false)∧W = w'):=hid (fun W => by have:=HC.out (at0 l k) W; rwa [hp'] at this);have HS:=hid hs;clear hsp hp hp' hs;go_wp2_with fail;go_quiet ((go_at_call 185; exact quiet_left (HCC.out _)));go_wp2_with fail;go_end0;refine ⟨rfl,?_,below_drewN hbr _⟩;rw [← HK3.out,HSP.out,Nat.add_zero];exact ScR.drewN HS.out _
  ·have hend:=span_end inLn l k (by omega);have HE:=hid hend;have d1 : decide ((k:Int) < (l.length:Int)) = false:=decide_eq_false (by omega);have d2 : decide (k < l.length) = false:=decide_eq_false hlt;have HS:=hid hs;clear hend hs;go_wp2_with fail;go_quiet (fail);go_wp2_with fail;go_end0;refine ⟨rfl,?_,below_drewN hbr _⟩;rw [← HK3.out,HE.out,Nat.add_zero];exact ScR.drewN HS.out _
theorem peek0 {w : World} {B g : Nat} {l : List UInt8} {at_ : Nat} {ind : List Nat} {op : List UInt8} {ts : List Tok} {vi vo vt : Value} {m : Nat} {vs : Value} (h : Sc w B g l at_ ind op ts vi vo vt m vs) (hl : l.length ≤ 16000) (ha : at_ ≤ l.length) :
  Calls Tryz.prog 147 #[.pointer (some ⟨g,0,none⟩),.int .i64 0] w fun e w' => e = .returned (.int .u8 ((at0 l at_).toNat:Int))∧∃ k,w' = w.drewN k:=peek_any h 0 hl ha (by omega)
theorem peek1 {w : World} {B g : Nat} {l : List UInt8} {at_ : Nat} {ind : List Nat} {op : List UInt8} {ts : List Tok} {vi vo vt : Value} {m : Nat} {vs : Value} (h : Sc w B g l at_ ind op ts vi vo vt m vs) (hl : l.length ≤ 16000) (ha : at_ ≤ l.length) :
  Calls Tryz.prog 147 #[.pointer (some ⟨g,0,none⟩),.int .i64 1] w fun e w' => e = .returned (.int .u8 ((at0 l (at_ + 1)).toNat:Int))∧∃ k,w' = w.drewN k:=peek_any h 1 hl ha (by omega)
theorem peek0S {a w : World} {B g : Nat} {l : List UInt8} {at_ : Nat} {ind : List Nat} {op : List UInt8} {ts : List Tok} {vi vo vt : Value} {m : Nat} {vs : Value} (h : Sc w B g l at_ ind op ts vi vo vt m vs) (hl : l.length ≤ 16000) (ha : at_ ≤ l.length) (hb : Below B a w) :
  Calls Tryz.prog 147 #[.pointer (some ⟨g,0,none⟩),.int .i64 0] w fun e w' => e = .returned (.int .u8 ((at0 l at_).toNat:Int))∧Sc w' B g l at_ ind op ts vi vo vt m vs∧Below B a w' :=
 (peek0 h hl ha).mono fun e w' ⟨he,k,hw⟩ => ⟨he,by subst hw; exact ScR.drewN h k,by subst hw; exact below_drewN hb k⟩
theorem peek1S {a w : World} {B g : Nat} {l : List UInt8} {at_ : Nat} {ind : List Nat} {op : List UInt8} {ts : List Tok} {vi vo vt : Value} {m : Nat} {vs : Value} (h : Sc w B g l at_ ind op ts vi vo vt m vs) (hl : l.length ≤ 16000) (ha : at_ ≤ l.length) (hb : Below B a w) :
  Calls Tryz.prog 147 #[.pointer (some ⟨g,0,none⟩),.int .i64 1] w fun e w' => e = .returned (.int .u8 ((at0 l (at_ + 1)).toNat:Int))∧Sc w' B g l at_ ind op ts vi vo vt m vs∧Below B a w' :=
 (peek1 h hl ha).mono fun e w' ⟨he,k,hw⟩ => ⟨he,by subst hw; exact ScR.drewN h k,by subst hw; exact below_drewN hb k⟩
theorem eqb_t {c : UInt8} (k : UInt8) (n:Int) (hn : n = (k.toNat:Int)) (h : c = k) : ((c.toNat:Int) == n) = true:=by subst h hn; simp
theorem eqb_f {c : UInt8} (k : UInt8) (n:Int) (hn : n = (k.toNat:Int)) (h : c ≠ k) : ((c.toNat:Int) == n) = false:=by
 subst hn;rw [beq_eq_false_iff_ne];intro e;exact h (UInt8.toNat_inj.1 (by omega))
theorem skip_any {a w : World} {B g : Nat} {l : List UInt8} {at_ : Nat} {ind : List Nat} {op : List UInt8} {ts : List Tok} {vi vo vt : Value} {m : Nat} {vs : Value} (h : Sc w B g l at_ ind op ts vi vo vt m vs) (hl : l.length ≤ 16000) (ha : at_ ≤ l.length) (hb : Below B a w) :
  Calls Tryz.prog 146 #[.pointer (some ⟨g,0,none⟩)] w fun e w' => e = .returned (.tuple #[])∧Sc w' B g l (at_ + skipLen (l.drop at_)) ind op ts vi vo vt m vs∧Below B a w':=by
 have hmf : ∀ (fn : Fn) (first cap : Array Value) (w : World),(Instr.makeFunc fn first cap).run Tryz.prog w = .ok (.func fn first cap) w:=fun _ _ _ _ => rfl;go_enter Tryz.func146,Tryz.ntmps146;go_wp2_with fail
 go_loopw [4] (fun _ wr => ∃ k,at_ ≤ k∧k ≤ l.length∧k + span isBlk (l.drop k) = at_ + span isBlk (l.drop at_)∧Sc wr B g l k ind op ts vi vo vt m vs∧Below B a wr) (fun _ wr => l.length - atW g wr)
 case atStart => exact ⟨at_,Nat.le_refl _,ha,rfl,h,hb⟩
 case round =>
  obtain ⟨k,hk1,hk2,hk3,hs,hbr⟩:=hrel;have HK3:=hid hk3;clear hk3 h hb;have HS:=hid hs
  by_cases hc : at0 l k = 32
  ·have hlt : k < l.length:=by
    rcases Nat.lt_or_ge k l.length with h | h
    ·exact h
    ·rw [at0_ge l k h] at hc; exact absurd hc (by decide)
   have hsp:=span_at isBlk l k hlt;rw [hc,if_pos (by decide)] at hsp;have HSP:=hid hsp;have HL:=hid (line_same l k hlt (by rw [hc]; decide));have HB:=hid (bol_same l k hlt (by rw [hc]; decide));have hcb:=eqb_t 32 32 rfl hc;clear hsp hc hs;go_wp2_with fail;refine (peek0 HS.out hl hk2).mono ?_;rintro e w1 ⟨rfl,nq,rfl⟩;have hs':=HS.out.drewN nq;unfold scCells at hs';obtain ⟨q1,q2,q3⟩:=hs'.blk.rules;go_wp2_with fail;go_roundw
   case rel =>
    refine ⟨k + 1,by omega,by omega,?_,?_,(below_drewN hbr _).setCell (p:=⟨g,1,none⟩) hs'.ge _⟩
    ·rw [← HK3.out,HSP.out]; omega
    ·unfold Sc scCells;rw [HL.out,HB.out];exact hs'.set 1 (.int .i64 ((k:Int) + 1))
   case measure =>
    rw [ScR.atW HS.out rfl,ScR.atW (hs'.set 1 (.int .i64 ((k:Int) + 1))) (n:=k + 1) rfl];omega
  ·have hcb:=eqb_f 32 32 rfl hc;have hz : span isBlk (l.drop k) = 0:=by
    rcases Nat.lt_or_ge k l.length with h | h
    ·rw [span_at isBlk l k h,if_neg];unfold isBlk;simpa using hc
    ·exact span_end isBlk l k h
   have hkk : k = at_ + span isBlk (l.drop at_):=(by rw [← HK3.out,hz,Nat.add_zero]);have hsk : at_ + skipLen (l.drop at_) = if at0 l k = 35 then k + span inLn (l.drop k) else k:=by
    unfold skipLen;rw [at0_drop,List.drop_drop,← hkk];split <;> omega
   have HSK:=hid hsk;clear hc hz hkk hsk hs;go_wp2_with fail;refine (peek0S HS.out hl hk2 hbr).mono ?_;rintro e w1 ⟨rfl,hs1,hb1⟩;have HS1:=hid hs1;clear hs1;go_wp2_with fail;refine (peek0S HS1.out hl hk2 hb1).mono ?_;rintro e w2 ⟨rfl,hs2,hb2⟩;have HS2:=hid hs2;clear hs2
   by_cases h35 : at0 l k = 35
   ·have hcb2:=eqb_t 35 35 rfl h35;rw [if_pos h35] at HSK;clear h35 hcb;go_wp2_with fail;refine (while_ln HS2.out hl hk2 hb2).mono ?_;rintro e w3 ⟨rfl,hs3,hb3⟩;go_wp2_with fail;go_end0;exact ⟨rfl,by rw [HSK.out]; exact hs3,hb3⟩
   ·have hcb2:=eqb_f 35 35 rfl h35;rw [if_neg h35] at HSK;clear h35 hcb;go_wp2_with fail;go_end0;exact ⟨rfl,by rw [HSK.out]; exact HS2.out,hb2⟩
theorem wordsF_map : ∀ (l : List (List UInt8)) (k:Nat) (D : DataW Unit),IsMap D → IsMap (wordsF l k D)
 | [],_,_,h => h
 | _ :: l,k,_,h => wordsF_map l (k + 1) _ (h.put _ _)
theorem has_wordsF (t : List UInt8) : ∀ (l : List (List UInt8)) (k:Nat) (D : DataW Unit),IsMap D → Maps.has (wordsF l k D) (.string t) = (Maps.has D (.string t) || l.contains t)
 | [],_,D,_ => by simp [wordsF]
 | x :: l,k,D,h => by
  unfold wordsF;rw [has_wordsF t l (k + 1) _ (h.put _ _),List.contains_cons]
  by_cases hx : t = x
  ·subst hx;rw [has_put_same h (by trivial)];simp
  ·rw [has_put_other (by simpa using hx),show (t == x) = false from by rw [beq_eq_false_iff_ne]; exact hx,Bool.false_or]
theorem has_words (t : List UInt8) : Maps.has wordsD (.string t) = kws.contains t:=by
 unfold wordsD;rw [has_wordsF t kws 0 _ isMap_empty];rfl
def LexPost (a : World) (B g:Nat) (l : List UInt8) (at_:Nat) (ind : List Nat) (op : List UInt8) (ts : List Tok) (vi vo : Value) (m:Nat) (vs : Value) (r : Lex) (e : Ending) (w' : World) : Prop :=
 match r with
 | .error (c,k) => e = .panicked [{ v:=probV c ((at_ + k:Nat):Int),recovered:=false }]∧Below B a w'
 | .ok (k,n) => ∃ vt',e = .returned (.tuple #[])∧Sc w' B g l (at_ + n) ind op (ts ++ [tokAt l k ((l.drop at_).take n) at_]) vi vo vt' m vs∧Below B a w'
theorem LexPost.err {a : World} {B g : Nat} {l : List UInt8} {at_ : Nat} {ind : List Nat} {op : List UInt8} {ts : List Tok} {vi vo : Value} {m : Nat} {vs : Value} {r : Lex} {e : Ending} {w' : World} {c : Int} {k : Nat}
  (hr : r = .error (c,k)) (i:Int) (hi : i = ((at_ + k:Nat):Int)) (he : e = .panicked [{ v:=probV c i,recovered:=false }]) (hb : Below B a w') : LexPost a B g l at_ ind op ts vi vo m vs r e w':=by
 subst hr hi;exact ⟨he,hb⟩
theorem LexPost.ok {a : World} {B g : Nat} {l : List UInt8} {at_ : Nat} {ind : List Nat} {op : List UInt8} {ts : List Tok} {vi vo : Value} {m : Nat} {vs : Value} {r : Lex} {e : Ending} {w' : World} {k : Int} {n : Nat} {vt' : Value}
  (hr : r = .ok (k,n)) (he : e = .returned (.tuple #[])) (hs : Sc w' B g l (at_ + n) ind op (ts ++ [tokAt l k ((l.drop at_).take n) at_]) vi vo vt' m vs) (hb : Below B a w') : LexPost a B g l at_ ind op ts vi vo m vs r e w':=by
 subst hr;exact ⟨vt',he,hs,hb⟩
theorem name_any {a w : World} {B g : Nat} {l : List UInt8} {at_ : Nat} {ind : List Nat} {op : List UInt8} {ts : List Tok} {vi vo vt : Value} {m : Nat} {vs : Value} (h : Sc w B g l at_ ind op ts vi vo vt m vs) (hl : l.length ≤ 16000) (ha : at_ ≤ l.length) (hb : Below B a w) (hts : ts.length ≤ 1000000) :
  Calls Tryz.prog 154 #[.pointer (some ⟨g,0,none⟩)] w (LexPost a B g l at_ ind op ts vi vo m vs (lexName (l.drop at_))):=by
 have hsl:=span_line isWrd (by decide) l at_ (span isWrd (l.drop at_)) ha (Nat.le_refl _);have hle:=span_drop_le isWrd l at_ ha;obtain ⟨n,hn⟩ : ∃ n,span isWrd (l.drop at_) = n:=⟨_,rfl⟩;obtain ⟨t,ht⟩ : ∃ t,(l.drop at_).take n = t:=⟨_,rfl⟩;rw [hn] at hsl hle;have htl : t.length = n:=by rw [← ht,List.length_take,List.length_drop]; omega
 have HN:=hid hn;have HT:=hid ht;have HTL:=hid htl;have HL1:=hid hsl.1;have HL2:=hid hsl.2;have hsub:=run_sub l at_ (at_ + n) (by omega) hle (at_:Int) ((at_:Int) + (n:Int)) rfl (by omega);rw [show at_ + n - at_ = n by omega,ht] at hsub;have hkey:=WideMaps.keyOf_string_mk (P:=Tryz.prog) (k:=9) Tryz.underlying9 (s:=⟨t.toArray⟩) (by simp [ByteArray.size,htl,maxLen]; omega);have HKEY:=hid hkey;have HSUB:=hid hsub;have HH:=hid h;clear hsl hn ht htl hkey hsub;have h0:=h;unfold Sc scCells at h0;obtain ⟨q1,q2,q3⟩:=h0.blk.rules;clear h h0;go_enter Tryz.func154,Tryz.ntmps154;go_wp2_with fail;refine (while_wrd HH.out hl ha hb).mono ?_;rintro e w1 ⟨rfl,hs1,hb1⟩;rw [HN.out] at hs1;have HS1:=hid hs1;have hs1':=hs1;unfold Sc scCells at hs1';clear q1 q2 q3;obtain ⟨q1,q2,q3⟩:=hs1'.blk.rules;clear hs1 hs1';have hsub:=HSUB.out;go_wp2_with fail;go_quiet (fail);have hown:=(ScR.drewN HS1.out nq).om;have HS3 : Hid (Sc (w1.drewN nq) B g l (at_ + n) ind op ts vi vo vt m vs):=hid (ScR.drewN HS1.out nq);have hb3:=below_drewN hb1 nq;have hlen : (⟨t.toArray⟩ : ByteArray).size = n:=HTL.out;clear hsub
 by_cases h24 : 24 < n
 ·have HR:=hid (show lexName (l.drop at_) = .error (7,0) by unfold lexName; rw [HN.out,if_pos h24]);have d24 : decide ((24:Int) < (n:Int)) = true:=decide_eq_true (by omega);cases hkw : kws.contains t
  all_goals
   have HK:=hid hkw;clear hkw h24;go_wp2_with (at_lookup; refine wpList_lookup_own_ok_int _ rfl _ _ 75 rfl 9 3 .i64 law Tryz.underlying75 Tryz.underlying3 (zeroInt _) m 38 wordsD rfl hown _ _ rfl HKEY.out ?_; intro c hat hwc; rw [has_words,HK.out]);refine (fail_any _ _ _ _).mono ?_;rintro e w3 ⟨rfl,rfl⟩;go_wp2_with fail;exact ⟨rfl,LexPost.err HR.out _ rfl rfl hb3⟩
 ·have d24 : decide ((24:Int) < (n:Int)) = false:=decide_eq_false (by omega);cases hkw : kws.contains t
  ·have HR:=hid (show lexName (l.drop at_) = .ok (4,n) by unfold lexName; rw [HN.out,if_neg h24,HT.out,hkw]; rfl);have HK:=hid hkw;clear hkw h24;go_wp2_with (at_lookup; refine wpList_lookup_own_ok_int _ rfl _ _ 75 rfl 9 3 .i64 law Tryz.underlying75 Tryz.underlying3 (zeroInt _) m 38 wordsD rfl hown _ _ rfl HKEY.out ?_; intro c hat hwc; rw [has_words,HK.out]);refine (add_any HS3.out hl hts hb3 _ _ _ (by omega) HL1.out HL2.out).mono ?_;rintro e w4 ⟨vt4,rfl,hs4,hb4⟩;have HS4:=hid hs4;clear hs4;go_wp2_with fail;go_end0;exact LexPost.ok HR.out rfl (by rw [HT.out]; exact HS4.out) hb4
  ·have HR:=hid (show lexName (l.drop at_) = .ok (5,n) by unfold lexName; rw [HN.out,if_neg h24,HT.out,hkw]; rfl);have HK:=hid hkw;clear hkw h24;go_wp2_with (at_lookup; refine wpList_lookup_own_ok_int _ rfl _ _ 75 rfl 9 3 .i64 law Tryz.underlying75 Tryz.underlying3 (zeroInt _) m 38 wordsD rfl hown _ _ rfl HKEY.out ?_; intro c hat hwc; rw [has_words,HK.out]);refine (add_any HS3.out hl hts hb3 _ _ _ (by omega) HL1.out HL2.out).mono ?_;rintro e w4 ⟨vt4,rfl,hs4,hb4⟩;have HS4:=hid hs4;clear hs4;go_wp2_with fail;go_end0;exact LexPost.ok HR.out rfl (by rw [HT.out]; exact HS4.out) hb4
end
end Go.Proofs.YtonehlkiackhcaaGreatDoor