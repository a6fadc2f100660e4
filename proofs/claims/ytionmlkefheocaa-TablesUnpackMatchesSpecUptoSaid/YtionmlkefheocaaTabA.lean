/- Walks: faults, bounds, the line at an instruction, the checks of a table of lines. Nothing is claimed here. -/
import Derived.Test.YtionmlkefheocaaProg
import Derived.Test.YtionmlkefheocaaCore
namespace Go.Proofs.Ytionmlkefheocaa
open Go.RowKit
set_option linter.unusedVariables false

abbrev Mark := Int × Int
def mkc (m : Mark) : List Value := [.int .i64 m.1, .int .i64 m.2]
theorem mkc_len (m : Mark) : (mkc m).length = 2 := rfl

theorem Row.mark {w : World} {A : Option Addr} {l : List Mark} (h : Row w A (l.flatMap mkc)) {k : Nat} (hk : k < l.length) :
    ∃ b off, A = some ⟨b, off, none⟩ ∧ b < w.heap.size ∧ w.cell? ⟨b, off + k * 2, none⟩ = some (.int .i64 l[k].1) ∧ w.cell? ⟨b, off + k * 2 + 1, none⟩ = some (.int .i64 l[k].2) := by
  obtain ⟨b, off, e, hlt, hc⟩ := h.elem mkc_len (by omega) hk
  exact ⟨b, off, e, hlt, hc 0 _ (by omega) rfl, hc 1 _ (by omega) rfl⟩

set_option maxHeartbeats 400000 in
theorem fault_any (c i : Int) (w : World) :
    Calls Try.prog 28 #[.int .i64 c, .int .i64 i] w fun e w' => e = .returned (.agg #[.int .i64 c, .int .i64 i]) ∧ Below w.heap.size w w' := by
  go_enter Try.func28, Try.ntmps28
  go_wp2
  exact bodyPost_ret (v := .agg #[.int .i64 c, .int .i64 i]) (by simp [results, Try.results28, go_sem]) rfl ⟨rfl, (Below.refl _ _).alloc (Nat.le_refl _) _⟩

set_option maxHeartbeats 400000 in
theorem at_any (c i : Int) (w : World) :
    Calls Try.prog 10 #[.int .i64 c, .int .i64 i] w fun e w' => e = .returned (.agg #[.int .i64 c, .int .i64 i]) ∧ Below w.heap.size w w' := by
  go_enter Try.func10, Try.ntmps10
  go_wp2
  exact bodyPost_ret (v := .agg #[.int .i64 c, .int .i64 i]) (by simp [results, Try.results10, go_sem]) rfl ⟨rfl, (Below.refl _ _).alloc (Nat.le_refl _) _⟩

def btw (n lo hi : Int) : Bool := decide (lo ≤ n) && decide (n ≤ hi)

set_option maxHeartbeats 400000 in
theorem between_any (n lo hi : Int) (w : World) :
    Calls Try.prog 33 #[.int .i64 n, .int .i64 lo, .int .i64 hi] w fun e w' => e = .returned (.bool (btw n lo hi)) ∧ w = w' := by
  go_enter Try.func33, Try.ntmps33
  go_wp2
  all_goals go_ret
  all_goals (refine ⟨ret_bool ?_, rfl⟩; simp [btw]; try omega)

def lineAt (at_ : Int) : List Mark → Int → Int
  | [], r => r
  | m :: l, r => lineAt at_ l (if m.1 ≤ at_ then m.2 else r)

set_option maxHeartbeats 400000 in
theorem lineAt_any (A : Option Addr) (c : Nat) (l : List Mark) (at_ : Int) (w : World) (hl : l.length ≤ 9223372036854775807) (hm : Row w A (l.flatMap mkc)) :
    Calls Try.prog 11 #[.slice A l.length c, .int .i64 at_] w fun e w' => e = .returned (.int .i64 (lineAt at_ l 0)) ∧ Below w.heap.size w w' := by
  go_enter Try.func11, Try.ntmps11
  go_wp2
  go_loopw [5, 10] (fun v i wr => ∃ (k : Nat) (r : Int), k ≤ l.length ∧ i = .int .i64 k ∧ v = .int .i64 r ∧ lineAt at_ l 0 = lineAt at_ (l.drop k) r ∧ Below w.heap.size w wr) (fun _ i _ => l.length - (intOf i).toNat)
  case atStart => exact ⟨0, 0, Nat.zero_le _, rfl, rfl, rfl, Below.refl _ _⟩
  case round =>
    obtain ⟨k, r, hk, rfl, rfl, he, hb⟩ := hrel
    have He := Lib.hid he
    clear he
    by_cases hlt : k < l.length
    · obtain ⟨b, off, rfl, had, h1, h2⟩ := (hm.keepB hb).mark hlt
      go_wp2
      all_goals
        go_roundw
        case rel =>
          refine ⟨k + 1, _, by omega, by go_num, rfl, ?_, ?_⟩
          · rw [He.out, drop_cons hlt, lineAt]
            first | rw [if_pos (by assumption)] | rw [if_neg (by omega)]
          · exact hb.trans ((Below.refl _ _).alloc hb.size _)
        case measure => simp [intOf]; omega
    · go_wp2
      go_ret
      exact ⟨ret_int (by rw [He.out, List.drop_of_length_le (by omega)]; rfl), hb⟩

end Go.Proofs.Ytionmlkefheocaa
