/- The scanner's function skip: how far it goes. Nothing is claimed here. -/
import Derived.Test.YtjoeojdciogcgaaDoorScanD
namespace Go.Proofs.YtjoeojdciogcgaaDoor
open Go.RowKit Go.Shelf Go.Lib Go.Maps

theorem while_ln_con {g : Nat} (c : UInt8) (W : World) : Calls Tryd.prog 64 #[.pointer (some ⟨g, 0, none⟩), .int .u8 (c.toNat : Int)] W fun e w' => e = .returned (.bool (inLn c)) ∧ W = w' := inLine_any _ c W
set_option maxRecDepth 100000 in
set_option maxHeartbeats 4000000 in
theorem while_ln {a w : World} {B g : Nat} {l : List UInt8} {at_ : Nat} {ind : List Nat} {op : List UInt8} {ts : List Tok} {vi vo vt : Value} {m : Nat} {vs : Value} (h : Sc w B g l at_ ind op ts vi vo vt m vs) (hl : l.length ≤ 16000) (ha : at_ ≤ l.length) (hb : Below B a w) :
    Calls Tryd.prog 63 #[.pointer (some ⟨g, 0, none⟩), .func (.func 64) #[.pointer (some ⟨g, 0, none⟩)] #[]] w fun e w' => e = .returned (.tuple #[]) ∧ Sc w' B g l (at_ + span inLn (l.drop at_)) ind op ts vi vo vt m vs ∧ Below B a w' := by
  have HC : Hid (∀ (c : UInt8) (W : World), Calls Tryd.prog 64 #[.pointer (some ⟨g, 0, none⟩),.int .u8 (c.toNat : Int)] W fun e w' => e = .returned (.bool (inLn c)) ∧ W = w') := Lib.hid (fun c W => while_ln_con c W)
  go_enter Tryd.func63, Tryd.ntmps63
  go_wp2_with fail
  go_loopw [26] (fun _ wr => ∃ k, at_ ≤ k ∧ k ≤ l.length ∧ k + span inLn (l.drop k) = at_ + span inLn (l.drop at_) ∧ Sc wr B g l k ind op ts vi vo vt m vs ∧ Below B a wr) (fun _ wr => l.length - atW g wr)
  case atStart => exact ⟨at_, Nat.le_refl _, ha, rfl, h, hb⟩
  case round =>
    obtain ⟨k, hk1, hk2, hk3, hs, hbr⟩ := hrel
    have HK3 := Lib.hid hk3
    clear hk3 h hb
    have hs' := hs
    unfold Sc scCells at hs'
    obtain ⟨q1, q2, q3⟩ := hs'.blk.rules
    by_cases hlt : k < l.length
    · have hsp := span_at inLn l k hlt
      have hix := run_idx l k hlt (k : Int) rfl
      have d1 : decide ((k : Int) < (l.length : Int)) = true := decide_eq_true (by omega)
      have d2 : decide (k < l.length) = true := decide_eq_true hlt
      by_cases hp : inLn (at0 l k) = true
      · have hc10 : at0 l k ≠ 10 := by intro e; rw [e] at hp; exact absurd hp (by decide)
        have HL := Lib.hid (line_same l k hlt hc10)
        have HB := Lib.hid (bol_same l k hlt hc10)
        rw [if_pos hp] at hsp
        have HSP := Lib.hid hsp
        have HCC : Hid (∀ W : World, Calls Tryd.prog 64 #[.pointer (some ⟨g, 0, none⟩),.int .u8 ((at0 l k).toNat : Int)] W fun e w' => e = .returned (.bool true) ∧ W = w') := Lib.hid (fun W => by have := HC.out (at0 l k) W; rwa [hp] at this)
        have HS := Lib.hid hs
        clear hsp hp hc10 hs
        go_wp2_with fail
        go_quiet ((go_at_call 64; exact quiet_left (HCC.out _)))
        go_wp2_with fail
        go_roundw
        case rel =>
          refine ⟨k + 1, by omega, by omega, ?_, ?_, (below_drewN hbr _).setCell (p := ⟨g, 1, none⟩) hs'.ge _⟩
          · rw [← HK3.out, HSP.out]; omega
          · unfold Sc scCells
            rw [HL.out, HB.out]
            exact (hs'.drewN _).set 1 (.int .i64 ((k : Int) + 1))
        case measure =>
          rw [ScR.atW hs' rfl, ScR.atW ((hs'.drewN _).set 1 (.int .i64 ((k : Int) + 1))) (n := k + 1) rfl]
          omega
      · have hp' : inLn (at0 l k) = false := by simpa using hp
        rw [if_neg hp] at hsp
        have HSP := Lib.hid hsp
        have HCC : Hid (∀ W : World, Calls Tryd.prog 64 #[.pointer (some ⟨g, 0, none⟩),.int .u8 ((at0 l k).toNat : Int)] W fun e w' => e = .returned (.bool false) ∧ W = w') := Lib.hid (fun W => by have := HC.out (at0 l k) W; rwa [hp'] at this)
        have HS := Lib.hid hs
        clear hsp hp hp' hs
        go_wp2_with fail
        go_quiet ((go_at_call 64; exact quiet_left (HCC.out _)))
        go_wp2_with fail
        go_end0
        refine ⟨rfl, ?_, below_drewN hbr _⟩
        rw [← HK3.out, HSP.out, Nat.add_zero]
        exact ScR.drewN HS.out _
    · have hend := span_end inLn l k (by omega)
      have HE := Lib.hid hend
      have d1 : decide ((k : Int) < (l.length : Int)) = false := decide_eq_false (by omega)
      have d2 : decide (k < l.length) = false := decide_eq_false hlt
      have HS := Lib.hid hs
      clear hend hs
      go_wp2_with fail
      go_quiet (fail)
      go_wp2_with fail
      go_end0
      refine ⟨rfl, ?_, below_drewN hbr _⟩
      rw [← HK3.out, HE.out, Nat.add_zero]
      exact ScR.drewN HS.out _

theorem peek0 {w : World} {B g : Nat} {l : List UInt8} {at_ : Nat} {ind : List Nat} {op : List UInt8} {ts : List Tok} {vi vo vt : Value} {m : Nat} {vs : Value} (h : Sc w B g l at_ ind op ts vi vo vt m vs) (hl : l.length ≤ 16000) (ha : at_ ≤ l.length) :
    Calls Tryd.prog 36 #[.pointer (some ⟨g, 0, none⟩), .int .i64 0] w fun e w' => e = .returned (.int .u8 ((at0 l at_).toNat : Int)) ∧ ∃ k, w' = w.drewN k := peek_any h 0 hl ha (by omega)
theorem peek1 {w : World} {B g : Nat} {l : List UInt8} {at_ : Nat} {ind : List Nat} {op : List UInt8} {ts : List Tok} {vi vo vt : Value} {m : Nat} {vs : Value} (h : Sc w B g l at_ ind op ts vi vo vt m vs) (hl : l.length ≤ 16000) (ha : at_ ≤ l.length) :
    Calls Tryd.prog 36 #[.pointer (some ⟨g, 0, none⟩), .int .i64 1] w fun e w' => e = .returned (.int .u8 ((at0 l (at_ + 1)).toNat : Int)) ∧ ∃ k, w' = w.drewN k := peek_any h 1 hl ha (by omega)
theorem peek0S {a w : World} {B g : Nat} {l : List UInt8} {at_ : Nat} {ind : List Nat} {op : List UInt8} {ts : List Tok} {vi vo vt : Value} {m : Nat} {vs : Value} (h : Sc w B g l at_ ind op ts vi vo vt m vs) (hl : l.length ≤ 16000) (ha : at_ ≤ l.length) (hb : Below B a w) :
    Calls Tryd.prog 36 #[.pointer (some ⟨g, 0, none⟩), .int .i64 0] w fun e w' => e = .returned (.int .u8 ((at0 l at_).toNat : Int)) ∧ Sc w' B g l at_ ind op ts vi vo vt m vs ∧ Below B a w' :=
  (peek0 h hl ha).mono fun e w' ⟨he, k, hw⟩ => ⟨he, by subst hw; exact ScR.drewN h k, by subst hw; exact below_drewN hb k⟩
theorem peek1S {a w : World} {B g : Nat} {l : List UInt8} {at_ : Nat} {ind : List Nat} {op : List UInt8} {ts : List Tok} {vi vo vt : Value} {m : Nat} {vs : Value} (h : Sc w B g l at_ ind op ts vi vo vt m vs) (hl : l.length ≤ 16000) (ha : at_ ≤ l.length) (hb : Below B a w) :
    Calls Tryd.prog 36 #[.pointer (some ⟨g, 0, none⟩), .int .i64 1] w fun e w' => e = .returned (.int .u8 ((at0 l (at_ + 1)).toNat : Int)) ∧ Sc w' B g l at_ ind op ts vi vo vt m vs ∧ Below B a w' :=
  (peek1 h hl ha).mono fun e w' ⟨he, k, hw⟩ => ⟨he, by subst hw; exact ScR.drewN h k, by subst hw; exact below_drewN hb k⟩
theorem eqb_t {c : UInt8} (k : UInt8) (n : Int) (hn : n = (k.toNat : Int)) (h : c = k) : ((c.toNat : Int) == n) = true := by subst h hn; simp
theorem eqb_f {c : UInt8} (k : UInt8) (n : Int) (hn : n = (k.toNat : Int)) (h : c ≠ k) : ((c.toNat : Int) == n) = false := by
  subst hn
  rw [beq_eq_false_iff_ne]
  intro e
  exact h (UInt8.toNat_inj.1 (by omega))

set_option maxRecDepth 100000 in
set_option maxHeartbeats 4000000 in
/-- skip goes over blanks and a comment -/
theorem skip_any {a w : World} {B g : Nat} {l : List UInt8} {at_ : Nat} {ind : List Nat} {op : List UInt8} {ts : List Tok} {vi vo vt : Value} {m : Nat} {vs : Value} (h : Sc w B g l at_ ind op ts vi vo vt m vs) (hl : l.length ≤ 16000) (ha : at_ ≤ l.length) (hb : Below B a w) :
    Calls Tryd.prog 35 #[.pointer (some ⟨g, 0, none⟩)] w fun e w' => e = .returned (.tuple #[]) ∧ Sc w' B g l (at_ + skipLen (l.drop at_)) ind op ts vi vo vt m vs ∧ Below B a w' := by
  have hmf : ∀ (fn : Fn) (first cap : Array Value) (w : World), (Instr.makeFunc fn first cap).run Tryd.prog w = .ok (.func fn first cap) w := fun _ _ _ _ => rfl
  go_enter Tryd.func35, Tryd.ntmps35
  go_wp2_with fail
  go_loopw [4] (fun _ wr => ∃ k, at_ ≤ k ∧ k ≤ l.length ∧ k + span isBlk (l.drop k) = at_ + span isBlk (l.drop at_) ∧ Sc wr B g l k ind op ts vi vo vt m vs ∧ Below B a wr) (fun _ wr => l.length - atW g wr)
  case atStart => exact ⟨at_, Nat.le_refl _, ha, rfl, h, hb⟩
  case round =>
    obtain ⟨k, hk1, hk2, hk3, hs, hbr⟩ := hrel
    have HK3 := Lib.hid hk3
    clear hk3 h hb
    have HS := Lib.hid hs
    by_cases hc : at0 l k = 32
    · have hlt : k < l.length := by
        rcases Nat.lt_or_ge k l.length with h | h
        · exact h
        · rw [at0_ge l k h] at hc; exact absurd hc (by decide)
      have hsp := span_at isBlk l k hlt
      rw [hc, if_pos (by decide)] at hsp
      have HSP := Lib.hid hsp
      have HL := Lib.hid (line_same l k hlt (by rw [hc]; decide))
      have HB := Lib.hid (bol_same l k hlt (by rw [hc]; decide))
      have hcb := eqb_t 32 32 rfl hc
      clear hsp hc hs
      go_wp2_with fail
      refine (peek0 HS.out hl hk2).mono ?_
      rintro e w1 ⟨rfl, nq, rfl⟩
      have hs' := HS.out.drewN nq
      unfold scCells at hs'
      obtain ⟨q1, q2, q3⟩ := hs'.blk.rules
      go_wp2_with fail
      go_roundw
      case rel =>
        refine ⟨k + 1, by omega, by omega, ?_, ?_, (below_drewN hbr _).setCell (p := ⟨g, 1, none⟩) hs'.ge _⟩
        · rw [← HK3.out, HSP.out]; omega
        · unfold Sc scCells
          rw [HL.out, HB.out]
          exact hs'.set 1 (.int .i64 ((k : Int) + 1))
      case measure =>
        rw [ScR.atW HS.out rfl, ScR.atW (hs'.set 1 (.int .i64 ((k : Int) + 1))) (n := k + 1) rfl]
        omega
    · have hcb := eqb_f 32 32 rfl hc
      have hz : span isBlk (l.drop k) = 0 := by
        rcases Nat.lt_or_ge k l.length with h | h
        · rw [span_at isBlk l k h, if_neg]
          unfold isBlk
          simpa using hc
        · exact span_end isBlk l k h
      have hkk : k = at_ + span isBlk (l.drop at_) := by rw [← HK3.out, hz, Nat.add_zero]
      have hsk : at_ + skipLen (l.drop at_) = if at0 l k = 35 then k + span inLn (l.drop k) else k := by
        unfold skipLen
        rw [at0_drop, List.drop_drop, ← hkk]
        split <;> omega
      have HSK := Lib.hid hsk
      clear hc hz hkk hsk hs
      go_wp2_with fail
      refine (peek0S HS.out hl hk2 hbr).mono ?_
      rintro e w1 ⟨rfl, hs1, hb1⟩
      have HS1 := Lib.hid hs1
      clear hs1
      go_wp2_with fail
      refine (peek0S HS1.out hl hk2 hb1).mono ?_
      rintro e w2 ⟨rfl, hs2, hb2⟩
      have HS2 := Lib.hid hs2
      clear hs2
      by_cases h35 : at0 l k = 35
      · have hcb2 := eqb_t 35 35 rfl h35
        rw [if_pos h35] at HSK
        clear h35 hcb
        go_wp2_with fail
        refine (while_ln HS2.out hl hk2 hb2).mono ?_
        rintro e w3 ⟨rfl, hs3, hb3⟩
        go_wp2_with fail
        go_end0
        exact ⟨rfl, by rw [HSK.out]; exact hs3, hb3⟩
      · have hcb2 := eqb_f 35 35 rfl h35
        rw [if_neg h35] at HSK
        clear h35 hcb
        go_wp2_with fail
        go_end0
        exact ⟨rfl, by rw [HSK.out]; exact HS2.out, hb2⟩

end Go.Proofs.YtjoeojdciogcgaaDoor
