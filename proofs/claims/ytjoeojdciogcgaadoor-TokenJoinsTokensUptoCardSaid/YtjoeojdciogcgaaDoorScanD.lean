/- The scanner's function while at its five conditions: how far it goes. Nothing is claimed here. -/
import Derived.Test.YtjoeojdciogcgaaDoorScanC
namespace Go.Proofs.YtjoeojdciogcgaaDoor
open Go.RowKit Go.Shelf Go.Lib Go.Maps

theorem quiet_left {P : Program} {f : FuncId} {args : Array Value} {w : World} {n : Nat} {v : Value}
    (h : Calls P f args (w.drewN n) fun e w' => e = .returned v ∧ w.drewN n = w') : Calls P f args (w.drewN n) fun e w'' => e = .returned v ∧ ∃ m, w'' = w.drewN m :=
  h.mono fun _ _ ⟨he, hm⟩ => ⟨he, n, hm.symm⟩
/-- the offset of a scanner -/
def atW (g : Nat) (w : World) : Nat := match w.cell? ⟨g, 1, none⟩ with
  | some (.int _ n) => n.toNat
  | _ => 0

theorem ScR.atW {w : World} {B g : Nat} {cs : Array Value} {ind : List Nat} {op : List UInt8} {ts : List Tok} {vi vo vt : Value} {m : Nat} {vs : Value} {n : Nat} (h : ScR w B g cs ind op ts vi vo vt m vs) (hc : cs[1]? = some (.int .i64 (n : Int))) : YtjoeojdciogcgaaDoor.atW g w = n := by
  unfold YtjoeojdciogcgaaDoor.atW
  rw [h.blk.cell 1, hc]
  simp
theorem while_wrd_con (c : UInt8) (W : World) : Calls Tryd.prog 68 #[.int .u8 (c.toNat : Int)] W fun e w' => e = .returned (.bool (isWrd c)) ∧ W = w' := name1_any c W
theorem while_hex_con (c : UInt8) (W : World) : Calls Tryd.prog 70 #[.int .u8 (c.toNat : Int)] W fun e w' => e = .returned (.bool (isHex c)) ∧ W = w' := number2_any c W
theorem while_bin_con (c : UInt8) (W : World) : Calls Tryd.prog 69 #[.int .u8 (c.toNat : Int)] W fun e w' => e = .returned (.bool (isBin c)) ∧ W = w' := number1_any c W
theorem while_dig_con (c : UInt8) (W : World) : Calls Tryd.prog 45 #[.int .u8 (c.toNat : Int)] W fun e w' => e = .returned (.bool (isDig c)) ∧ W = w' := digit_any c W
set_option maxRecDepth 100000 in
set_option maxHeartbeats 4000000 in
theorem while_dig {a w : World} {B g : Nat} {l : List UInt8} {at_ : Nat} {ind : List Nat} {op : List UInt8} {ts : List Tok} {vi vo vt : Value} {m : Nat} {vs : Value} (h : Sc w B g l at_ ind op ts vi vo vt m vs) (hl : l.length ≤ 16000) (ha : at_ ≤ l.length) (hb : Below B a w) :
    Calls Tryd.prog 63 #[.pointer (some ⟨g, 0, none⟩), .func (.func 45) #[] #[]] w fun e w' => e = .returned (.tuple #[]) ∧ Sc w' B g l (at_ + span isDig (l.drop at_)) ind op ts vi vo vt m vs ∧ Below B a w' := by
  have HC : Hid (∀ (c : UInt8) (W : World), Calls Tryd.prog 45 #[.int .u8 (c.toNat : Int)] W fun e w' => e = .returned (.bool (isDig c)) ∧ W = w') := Lib.hid (fun c W => while_dig_con c W)
  go_enter Tryd.func63, Tryd.ntmps63
  go_wp2_with fail
  go_loopw [26] (fun _ wr => ∃ k, at_ ≤ k ∧ k ≤ l.length ∧ k + span isDig (l.drop k) = at_ + span isDig (l.drop at_) ∧ Sc wr B g l k ind op ts vi vo vt m vs ∧ Below B a wr) (fun _ wr => l.length - atW g wr)
  case atStart => exact ⟨at_, Nat.le_refl _, ha, rfl, h, hb⟩
  case round =>
    obtain ⟨k, hk1, hk2, hk3, hs, hbr⟩ := hrel
    have HK3 := Lib.hid hk3
    clear hk3 h hb
    have hs' := hs
    unfold Sc scCells at hs'
    obtain ⟨q1, q2, q3⟩ := hs'.blk.rules
    by_cases hlt : k < l.length
    · have hsp := span_at isDig l k hlt
      have hix := run_idx l k hlt (k : Int) rfl
      have d1 : decide ((k : Int) < (l.length : Int)) = true := decide_eq_true (by omega)
      have d2 : decide (k < l.length) = true := decide_eq_true hlt
      by_cases hp : isDig (at0 l k) = true
      · have hc10 : at0 l k ≠ 10 := by intro e; rw [e] at hp; exact absurd hp (by decide)
        have HL := Lib.hid (line_same l k hlt hc10)
        have HB := Lib.hid (bol_same l k hlt hc10)
        rw [if_pos hp] at hsp
        have HSP := Lib.hid hsp
        have HCC : Hid (∀ W : World, Calls Tryd.prog 45 #[.int .u8 ((at0 l k).toNat : Int)] W fun e w' => e = .returned (.bool true) ∧ W = w') := Lib.hid (fun W => by have := HC.out (at0 l k) W; rwa [hp] at this)
        have HS := Lib.hid hs
        clear hsp hp hc10 hs
        go_wp2_with fail
        go_quiet ((go_at_call 45; exact quiet_left (HCC.out _)))
        go_wp2_with fail
        go_roundw
        case rel =>
          refine ⟨k + 1, by omega, by omega, ?_, ?_, (below_drewN hbr _).setCell (p := ⟨g, 1, none⟩) hs'.ge _⟩
          · rw [← HK3.out, HSP.out]; omega
          · unfold Sc scCells
            rw [HL.out, HB.out]
            exact (hs'.drewN _).set 1 (.int .i64 ((k : Int) + 1))
        case measure =>
          rw [ScR.atW hs' rfl, ScR.atW ((hs'.drewN _).set 1 (.int .i64 ((k : Int) + 1))) (n := k + 1) rfl]
          omega
      · have hp' : isDig (at0 l k) = false := by simpa using hp
        rw [if_neg hp] at hsp
        have HSP := Lib.hid hsp
        have HCC : Hid (∀ W : World, Calls Tryd.prog 45 #[.int .u8 ((at0 l k).toNat : Int)] W fun e w' => e = .returned (.bool false) ∧ W = w') := Lib.hid (fun W => by have := HC.out (at0 l k) W; rwa [hp'] at this)
        have HS := Lib.hid hs
        clear hsp hp hp' hs
        go_wp2_with fail
        go_quiet ((go_at_call 45; exact quiet_left (HCC.out _)))
        go_wp2_with fail
        go_end0
        refine ⟨rfl, ?_, below_drewN hbr _⟩
        rw [← HK3.out, HSP.out, Nat.add_zero]
        exact ScR.drewN HS.out _
    · have hend := span_end isDig l k (by omega)
      have HE := Lib.hid hend
      have d1 : decide ((k : Int) < (l.length : Int)) = false := decide_eq_false (by omega)
      have d2 : decide (k < l.length) = false := decide_eq_false hlt
      have HS := Lib.hid hs
      clear hend hs
      go_wp2_with fail
      go_quiet (fail)
      go_wp2_with fail
      go_end0
      refine ⟨rfl, ?_, below_drewN hbr _⟩
      rw [← HK3.out, HE.out, Nat.add_zero]
      exact ScR.drewN HS.out _
set_option maxRecDepth 100000 in
set_option maxHeartbeats 4000000 in
theorem while_wrd {a w : World} {B g : Nat} {l : List UInt8} {at_ : Nat} {ind : List Nat} {op : List UInt8} {ts : List Tok} {vi vo vt : Value} {m : Nat} {vs : Value} (h : Sc w B g l at_ ind op ts vi vo vt m vs) (hl : l.length ≤ 16000) (ha : at_ ≤ l.length) (hb : Below B a w) :
    Calls Tryd.prog 63 #[.pointer (some ⟨g, 0, none⟩), .func (.func 68) #[] #[]] w fun e w' => e = .returned (.tuple #[]) ∧ Sc w' B g l (at_ + span isWrd (l.drop at_)) ind op ts vi vo vt m vs ∧ Below B a w' := by
  have HC : Hid (∀ (c : UInt8) (W : World), Calls Tryd.prog 68 #[.int .u8 (c.toNat : Int)] W fun e w' => e = .returned (.bool (isWrd c)) ∧ W = w') := Lib.hid (fun c W => while_wrd_con c W)
  go_enter Tryd.func63, Tryd.ntmps63
  go_wp2_with fail
  go_loopw [26] (fun _ wr => ∃ k, at_ ≤ k ∧ k ≤ l.length ∧ k + span isWrd (l.drop k) = at_ + span isWrd (l.drop at_) ∧ Sc wr B g l k ind op ts vi vo vt m vs ∧ Below B a wr) (fun _ wr => l.length - atW g wr)
  case atStart => exact ⟨at_, Nat.le_refl _, ha, rfl, h, hb⟩
  case round =>
    obtain ⟨k, hk1, hk2, hk3, hs, hbr⟩ := hrel
    have HK3 := Lib.hid hk3
    clear hk3 h hb
    have hs' := hs
    unfold Sc scCells at hs'
    obtain ⟨q1, q2, q3⟩ := hs'.blk.rules
    by_cases hlt : k < l.length
    · have hsp := span_at isWrd l k hlt
      have hix := run_idx l k hlt (k : Int) rfl
      have d1 : decide ((k : Int) < (l.length : Int)) = true := decide_eq_true (by omega)
      have d2 : decide (k < l.length) = true := decide_eq_true hlt
      by_cases hp : isWrd (at0 l k) = true
      · have hc10 : at0 l k ≠ 10 := by intro e; rw [e] at hp; exact absurd hp (by decide)
        have HL := Lib.hid (line_same l k hlt hc10)
        have HB := Lib.hid (bol_same l k hlt hc10)
        rw [if_pos hp] at hsp
        have HSP := Lib.hid hsp
        have HCC : Hid (∀ W : World, Calls Tryd.prog 68 #[.int .u8 ((at0 l k).toNat : Int)] W fun e w' => e = .returned (.bool true) ∧ W = w') := Lib.hid (fun W => by have := HC.out (at0 l k) W; rwa [hp] at this)
        have HS := Lib.hid hs
        clear hsp hp hc10 hs
        go_wp2_with fail
        go_quiet ((go_at_call 68; exact quiet_left (HCC.out _)))
        go_wp2_with fail
        go_roundw
        case rel =>
          refine ⟨k + 1, by omega, by omega, ?_, ?_, (below_drewN hbr _).setCell (p := ⟨g, 1, none⟩) hs'.ge _⟩
          · rw [← HK3.out, HSP.out]; omega
          · unfold Sc scCells
            rw [HL.out, HB.out]
            exact (hs'.drewN _).set 1 (.int .i64 ((k : Int) + 1))
        case measure =>
          rw [ScR.atW hs' rfl, ScR.atW ((hs'.drewN _).set 1 (.int .i64 ((k : Int) + 1))) (n := k + 1) rfl]
          omega
      · have hp' : isWrd (at0 l k) = false := by simpa using hp
        rw [if_neg hp] at hsp
        have HSP := Lib.hid hsp
        have HCC : Hid (∀ W : World, Calls Tryd.prog 68 #[.int .u8 ((at0 l k).toNat : Int)] W fun e w' => e = .returned (.bool false) ∧ W = w') := Lib.hid (fun W => by have := HC.out (at0 l k) W; rwa [hp'] at this)
        have HS := Lib.hid hs
        clear hsp hp hp' hs
        go_wp2_with fail
        go_quiet ((go_at_call 68; exact quiet_left (HCC.out _)))
        go_wp2_with fail
        go_end0
        refine ⟨rfl, ?_, below_drewN hbr _⟩
        rw [← HK3.out, HSP.out, Nat.add_zero]
        exact ScR.drewN HS.out _
    · have hend := span_end isWrd l k (by omega)
      have HE := Lib.hid hend
      have d1 : decide ((k : Int) < (l.length : Int)) = false := decide_eq_false (by omega)
      have d2 : decide (k < l.length) = false := decide_eq_false hlt
      have HS := Lib.hid hs
      clear hend hs
      go_wp2_with fail
      go_quiet (fail)
      go_wp2_with fail
      go_end0
      refine ⟨rfl, ?_, below_drewN hbr _⟩
      rw [← HK3.out, HE.out, Nat.add_zero]
      exact ScR.drewN HS.out _
set_option maxRecDepth 100000 in
set_option maxHeartbeats 4000000 in
theorem while_hex {a w : World} {B g : Nat} {l : List UInt8} {at_ : Nat} {ind : List Nat} {op : List UInt8} {ts : List Tok} {vi vo vt : Value} {m : Nat} {vs : Value} (h : Sc w B g l at_ ind op ts vi vo vt m vs) (hl : l.length ≤ 16000) (ha : at_ ≤ l.length) (hb : Below B a w) :
    Calls Tryd.prog 63 #[.pointer (some ⟨g, 0, none⟩), .func (.func 70) #[] #[]] w fun e w' => e = .returned (.tuple #[]) ∧ Sc w' B g l (at_ + span isHex (l.drop at_)) ind op ts vi vo vt m vs ∧ Below B a w' := by
  have HC : Hid (∀ (c : UInt8) (W : World), Calls Tryd.prog 70 #[.int .u8 (c.toNat : Int)] W fun e w' => e = .returned (.bool (isHex c)) ∧ W = w') := Lib.hid (fun c W => while_hex_con c W)
  go_enter Tryd.func63, Tryd.ntmps63
  go_wp2_with fail
  go_loopw [26] (fun _ wr => ∃ k, at_ ≤ k ∧ k ≤ l.length ∧ k + span isHex (l.drop k) = at_ + span isHex (l.drop at_) ∧ Sc wr B g l k ind op ts vi vo vt m vs ∧ Below B a wr) (fun _ wr => l.length - atW g wr)
  case atStart => exact ⟨at_, Nat.le_refl _, ha, rfl, h, hb⟩
  case round =>
    obtain ⟨k, hk1, hk2, hk3, hs, hbr⟩ := hrel
    have HK3 := Lib.hid hk3
    clear hk3 h hb
    have hs' := hs
    unfold Sc scCells at hs'
    obtain ⟨q1, q2, q3⟩ := hs'.blk.rules
    by_cases hlt : k < l.length
    · have hsp := span_at isHex l k hlt
      have hix := run_idx l k hlt (k : Int) rfl
      have d1 : decide ((k : Int) < (l.length : Int)) = true := decide_eq_true (by omega)
      have d2 : decide (k < l.length) = true := decide_eq_true hlt
      by_cases hp : isHex (at0 l k) = true
      · have hc10 : at0 l k ≠ 10 := by intro e; rw [e] at hp; exact absurd hp (by decide)
        have HL := Lib.hid (line_same l k hlt hc10)
        have HB := Lib.hid (bol_same l k hlt hc10)
        rw [if_pos hp] at hsp
        have HSP := Lib.hid hsp
        have HCC : Hid (∀ W : World, Calls Tryd.prog 70 #[.int .u8 ((at0 l k).toNat : Int)] W fun e w' => e = .returned (.bool true) ∧ W = w') := Lib.hid (fun W => by have := HC.out (at0 l k) W; rwa [hp] at this)
        have HS := Lib.hid hs
        clear hsp hp hc10 hs
        go_wp2_with fail
        go_quiet ((go_at_call 70; exact quiet_left (HCC.out _)))
        go_wp2_with fail
        go_roundw
        case rel =>
          refine ⟨k + 1, by omega, by omega, ?_, ?_, (below_drewN hbr _).setCell (p := ⟨g, 1, none⟩) hs'.ge _⟩
          · rw [← HK3.out, HSP.out]; omega
          · unfold Sc scCells
            rw [HL.out, HB.out]
            exact (hs'.drewN _).set 1 (.int .i64 ((k : Int) + 1))
        case measure =>
          rw [ScR.atW hs' rfl, ScR.atW ((hs'.drewN _).set 1 (.int .i64 ((k : Int) + 1))) (n := k + 1) rfl]
          omega
      · have hp' : isHex (at0 l k) = false := by simpa using hp
        rw [if_neg hp] at hsp
        have HSP := Lib.hid hsp
        have HCC : Hid (∀ W : World, Calls Tryd.prog 70 #[.int .u8 ((at0 l k).toNat : Int)] W fun e w' => e = .returned (.bool false) ∧ W = w') := Lib.hid (fun W => by have := HC.out (at0 l k) W; rwa [hp'] at this)
        have HS := Lib.hid hs
        clear hsp hp hp' hs
        go_wp2_with fail
        go_quiet ((go_at_call 70; exact quiet_left (HCC.out _)))
        go_wp2_with fail
        go_end0
        refine ⟨rfl, ?_, below_drewN hbr _⟩
        rw [← HK3.out, HSP.out, Nat.add_zero]
        exact ScR.drewN HS.out _
    · have hend := span_end isHex l k (by omega)
      have HE := Lib.hid hend
      have d1 : decide ((k : Int) < (l.length : Int)) = false := decide_eq_false (by omega)
      have d2 : decide (k < l.length) = false := decide_eq_false hlt
      have HS := Lib.hid hs
      clear hend hs
      go_wp2_with fail
      go_quiet (fail)
      go_wp2_with fail
      go_end0
      refine ⟨rfl, ?_, below_drewN hbr _⟩
      rw [← HK3.out, HE.out, Nat.add_zero]
      exact ScR.drewN HS.out _
set_option maxRecDepth 100000 in
set_option maxHeartbeats 4000000 in
theorem while_bin {a w : World} {B g : Nat} {l : List UInt8} {at_ : Nat} {ind : List Nat} {op : List UInt8} {ts : List Tok} {vi vo vt : Value} {m : Nat} {vs : Value} (h : Sc w B g l at_ ind op ts vi vo vt m vs) (hl : l.length ≤ 16000) (ha : at_ ≤ l.length) (hb : Below B a w) :
    Calls Tryd.prog 63 #[.pointer (some ⟨g, 0, none⟩), .func (.func 69) #[] #[]] w fun e w' => e = .returned (.tuple #[]) ∧ Sc w' B g l (at_ + span isBin (l.drop at_)) ind op ts vi vo vt m vs ∧ Below B a w' := by
  have HC : Hid (∀ (c : UInt8) (W : World), Calls Tryd.prog 69 #[.int .u8 (c.toNat : Int)] W fun e w' => e = .returned (.bool (isBin c)) ∧ W = w') := Lib.hid (fun c W => while_bin_con c W)
  go_enter Tryd.func63, Tryd.ntmps63
  go_wp2_with fail
  go_loopw [26] (fun _ wr => ∃ k, at_ ≤ k ∧ k ≤ l.length ∧ k + span isBin (l.drop k) = at_ + span isBin (l.drop at_) ∧ Sc wr B g l k ind op ts vi vo vt m vs ∧ Below B a wr) (fun _ wr => l.length - atW g wr)
  case atStart => exact ⟨at_, Nat.le_refl _, ha, rfl, h, hb⟩
  case round =>
    obtain ⟨k, hk1, hk2, hk3, hs, hbr⟩ := hrel
    have HK3 := Lib.hid hk3
    clear hk3 h hb
    have hs' := hs
    unfold Sc scCells at hs'
    obtain ⟨q1, q2, q3⟩ := hs'.blk.rules
    by_cases hlt : k < l.length
    · have hsp := span_at isBin l k hlt
      have hix := run_idx l k hlt (k : Int) rfl
      have d1 : decide ((k : Int) < (l.length : Int)) = true := decide_eq_true (by omega)
      have d2 : decide (k < l.length) = true := decide_eq_true hlt
      by_cases hp : isBin (at0 l k) = true
      · have hc10 : at0 l k ≠ 10 := by intro e; rw [e] at hp; exact absurd hp (by decide)
        have HL := Lib.hid (line_same l k hlt hc10)
        have HB := Lib.hid (bol_same l k hlt hc10)
        rw [if_pos hp] at hsp
        have HSP := Lib.hid hsp
        have HCC : Hid (∀ W : World, Calls Tryd.prog 69 #[.int .u8 ((at0 l k).toNat : Int)] W fun e w' => e = .returned (.bool true) ∧ W = w') := Lib.hid (fun W => by have := HC.out (at0 l k) W; rwa [hp] at this)
        have HS := Lib.hid hs
        clear hsp hp hc10 hs
        go_wp2_with fail
        go_quiet ((go_at_call 69; exact quiet_left (HCC.out _)))
        go_wp2_with fail
        go_roundw
        case rel =>
          refine ⟨k + 1, by omega, by omega, ?_, ?_, (below_drewN hbr _).setCell (p := ⟨g, 1, none⟩) hs'.ge _⟩
          · rw [← HK3.out, HSP.out]; omega
          · unfold Sc scCells
            rw [HL.out, HB.out]
            exact (hs'.drewN _).set 1 (.int .i64 ((k : Int) + 1))
        case measure =>
          rw [ScR.atW hs' rfl, ScR.atW ((hs'.drewN _).set 1 (.int .i64 ((k : Int) + 1))) (n := k + 1) rfl]
          omega
      · have hp' : isBin (at0 l k) = false := by simpa using hp
        rw [if_neg hp] at hsp
        have HSP := Lib.hid hsp
        have HCC : Hid (∀ W : World, Calls Tryd.prog 69 #[.int .u8 ((at0 l k).toNat : Int)] W fun e w' => e = .returned (.bool false) ∧ W = w') := Lib.hid (fun W => by have := HC.out (at0 l k) W; rwa [hp'] at this)
        have HS := Lib.hid hs
        clear hsp hp hp' hs
        go_wp2_with fail
        go_quiet ((go_at_call 69; exact quiet_left (HCC.out _)))
        go_wp2_with fail
        go_end0
        refine ⟨rfl, ?_, below_drewN hbr _⟩
        rw [← HK3.out, HSP.out, Nat.add_zero]
        exact ScR.drewN HS.out _
    · have hend := span_end isBin l k (by omega)
      have HE := Lib.hid hend
      have d1 : decide ((k : Int) < (l.length : Int)) = false := decide_eq_false (by omega)
      have d2 : decide (k < l.length) = false := decide_eq_false hlt
      have HS := Lib.hid hs
      clear hend hs
      go_wp2_with fail
      go_quiet (fail)
      go_wp2_with fail
      go_end0
      refine ⟨rfl, ?_, below_drewN hbr _⟩
      rw [← HK3.out, HE.out, Nat.add_zero]
      exact ScR.drewN HS.out _

end Go.Proofs.YtjoeojdciogcgaaDoor
