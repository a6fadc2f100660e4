/- Walks: slices of equal elements are equal. Nothing is claimed here. -/
import Derived.Test.YtdajaddgdmoneaaDoorOpB
namespace Go.Proofs.YtdajaddgdmoneaaDoor
open Go.RowKit
set_option linter.unusedVariables false

abbrev Ins := Int × Int × Int
def insc (x : Ins) : List Value := [.int .i64 x.1, .int .i64 x.2.1, .int .i64 x.2.2]
theorem insc_len (x : Ins) : (insc x).length = 3 := rfl
theorem Row.ins {w : World} {A : Option Addr} {l : List Ins} (h : Row w A (l.flatMap insc)) {k : Nat} (hk : k < l.length) :
    ∃ b off, A = some ⟨b, off, none⟩ ∧ b < w.heap.size ∧ w.cell? ⟨b, off + k * 3, none⟩ = some (.int .i64 l[k].1) ∧ w.cell? ⟨b, off + k * 3 + 1, none⟩ = some (.int .i64 l[k].2.1) ∧ w.cell? ⟨b, off + k * 3 + 2, none⟩ = some (.int .i64 l[k].2.2) := by
  obtain ⟨b, off, e, hlt, hc⟩ := h.elem insc_len (by omega) hk
  exact ⟨b, off, e, hlt, hc 0 _ (by omega) rfl, hc 1 _ (by omega) rfl, hc 2 _ (by omega) rfl⟩
theorem Row.byte {w : World} {A : Option Addr} {l : List Int} (h : Row w A (bcs l)) {k : Nat} (hk : k < l.length) :
    ∃ b off, A = some ⟨b, off, none⟩ ∧ b < w.heap.size ∧ w.cell? ⟨b, off + k, none⟩ = some (.int .u8 l[k]) := by
  obtain ⟨b, off, e, hlt, hc⟩ := h.at_ (k := k) (by simpa [bcs] using hk)
  exact ⟨b, off, e, hlt, hc k _ (by simp [bcs, hk])⟩
def strv (s : List UInt8) : Value := .string ⟨s.toArray⟩
def strs (l : List (List UInt8)) : List Value := l.map strv
theorem Row.str {w : World} {A : Option Addr} {l : List (List UInt8)} (h : Row w A (strs l)) {k : Nat} (hk : k < l.length) :
    ∃ b off, A = some ⟨b, off, none⟩ ∧ b < w.heap.size ∧ w.cell? ⟨b, off + k, none⟩ = some (.string ⟨l[k].toArray⟩) := by
  obtain ⟨b, off, e, hlt, hc⟩ := h.at_ (k := k) (by simpa [strs] using hk)
  exact ⟨b, off, e, hlt, hc k _ (by simp [strs, strv, hk])⟩


set_option maxHeartbeats 400000 in
theorem eqBytes_same (A B : Option Addr) (c d : Nat) (l : List Int) (w : World) (hl : l.length ≤ 9223372036854775807) (ha : Row w A (bcs l)) (hb : Row w B (bcs l)) :
    Calls Tryd.prog 9 #[.slice A l.length c, .slice B l.length d] w fun e w' => e = .returned (.bool true) ∧ Below w.heap.size w w' := by
  go_enter Tryd.func9, Tryd.ntmps9
  go_wp2_with fail
  go_loopw [13] (fun i wr => ∃ k : Nat, k ≤ l.length ∧ i = .int .i64 k ∧ Below w.heap.size w wr) (fun i _ => l.length - (intOf i).toNat)
  case atStart => exact ⟨0, Nat.zero_le _, rfl, Below.refl _ _⟩
  case round =>
    obtain ⟨k, hk, rfl, hb0⟩ := hrel
    by_cases hlt : k < l.length
    · obtain ⟨b, off, rfl, had, h1⟩ := (ha.keepB hb0).byte hlt
      obtain ⟨b', off', rfl, had', h2⟩ := (hb.keepB hb0).byte hlt
      skip
      have i1 : (k : Int) < l.length := by omega
      go_wp2_with fail
      go_quiet (fail)
      go_wp2_with fail
      go_roundw
      case rel => exact ⟨k + 1, by omega, by go_num, below_drewN hb0 _⟩
      case measure => simp [intOf]; omega
    · go_wp2_with fail
      go_ret
      exact ⟨rfl, hb0⟩

set_option maxHeartbeats 400000 in
theorem eqStrings_same (A B : Option Addr) (c d : Nat) (l : List (List UInt8)) (w : World) (hl : l.length ≤ 9223372036854775807) (ha : Row w A (strs l)) (hb : Row w B (strs l)) :
    Calls Tryd.prog 25 #[.slice A l.length c, .slice B l.length d] w fun e w' => e = .returned (.bool true) ∧ Below w.heap.size w w' := by
  go_enter Tryd.func25, Tryd.ntmps25
  go_wp2_with fail
  go_loopw [13] (fun i wr => ∃ k : Nat, k ≤ l.length ∧ i = .int .i64 k ∧ Below w.heap.size w wr) (fun i _ => l.length - (intOf i).toNat)
  case atStart => exact ⟨0, Nat.zero_le _, rfl, Below.refl _ _⟩
  case round =>
    obtain ⟨k, hk, rfl, hb0⟩ := hrel
    by_cases hlt : k < l.length
    · obtain ⟨b, off, rfl, had, h1⟩ := (ha.keepB hb0).str hlt
      obtain ⟨b', off', rfl, had', h2⟩ := (hb.keepB hb0).str hlt
      skip
      have i1 : (k : Int) < l.length := by omega
      go_wp2_with fail
      go_quiet (fail)
      go_wp2_with fail
      go_roundw
      case rel => exact ⟨k + 1, by omega, by go_num, below_drewN hb0 _⟩
      case measure => simp [intOf]; omega
    · go_wp2_with fail
      go_ret
      exact ⟨rfl, hb0⟩

set_option maxHeartbeats 400000 in
theorem eqInstrs_same (A B : Option Addr) (c d : Nat) (l : List Ins) (w : World) (hl : l.length ≤ 9223372036854775807) (ha : Row w A (l.flatMap insc)) (hb : Row w B (l.flatMap insc)) :
    Calls Tryd.prog 7 #[.slice A l.length c, .slice B l.length d] w fun e w' => e = .returned (.bool true) ∧ Below w.heap.size w w' := by
  go_enter Tryd.func7, Tryd.ntmps7
  go_wp2_with fail
  go_loopw [13] (fun i wr => ∃ k : Nat, k ≤ l.length ∧ i = .int .i64 k ∧ Below w.heap.size w wr) (fun i _ => l.length - (intOf i).toNat)
  case atStart => exact ⟨0, Nat.zero_le _, rfl, Below.refl _ _⟩
  case round =>
    obtain ⟨k, hk, rfl, hb0⟩ := hrel
    by_cases hlt : k < l.length
    · obtain ⟨b, off, rfl, had, h1⟩ := (ha.keepB hb0).ins hlt
      obtain ⟨b', off', rfl, had', h2⟩ := (hb.keepB hb0).ins hlt
      (obtain ⟨h1, h1b, h1c⟩ := h1; obtain ⟨h2, h2b, h2c⟩ := h2)
      have i1 : (k : Int) < l.length := by omega
      go_wp2_with fail
      go_quiet (fail)
      go_wp2_with fail
      go_roundw
      case rel => exact ⟨k + 1, by omega, by go_num, below_drewN hb0 _⟩
      case measure => simp [intOf]; omega
    · go_wp2_with fail
      go_ret
      exact ⟨rfl, hb0⟩

set_option maxHeartbeats 400000 in
theorem strings_same (A B : Option Addr) (c d : Nat) (l : List (List UInt8)) (w : World) (hl : l.length ≤ 9223372036854775807) (ha : Row w A (strs l)) (hb : Row w B (strs l)) :
    Calls Tryd.prog 11 #[.slice A l.length c, .slice B l.length d] w fun e w' => e = .returned (.bool true) ∧ Below w.heap.size w w' := by
  go_enter Tryd.func11, Tryd.ntmps11
  go_wp2_with fail
  refine (eqStrings_same A B c d l w hl ha hb).mono ?_
  rintro e w' ⟨rfl, hb'⟩
  go_wp2_with fail
  go_ret
  exact ⟨rfl, hb'⟩

end Go.Proofs.YtdajaddgdmoneaaDoor
