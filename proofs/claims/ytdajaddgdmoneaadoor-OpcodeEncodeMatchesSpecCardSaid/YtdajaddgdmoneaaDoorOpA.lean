/- Walks: faults, bounds, the table of instructions. Nothing is claimed here. -/
import Derived.Test.YtdajaddgdmoneaaDoorProg
import Derived.Test.YtdajaddgdmoneaaDoorCore
namespace Go.Proofs.YtdajaddgdmoneaaDoor
open Go.RowKit
set_option linter.unusedVariables false

set_option maxHeartbeats 400000 in
theorem fault_any (c i : Int) (w : World) :
    Calls Tryd.prog 18 #[.int .i64 c, .int .i64 i] w fun e w' => e = .returned (.agg #[.int .i64 c, .int .i64 i]) ∧ Below w.heap.size w w' := by
  go_enter Tryd.func18, Tryd.ntmps18
  go_wp2
  exact bodyPost_ret (v := .agg #[.int .i64 c, .int .i64 i]) (by simp [results, Tryd.results18, go_sem]) rfl ⟨rfl, (Below.refl _ _).alloc (Nat.le_refl _) _⟩

set_option maxHeartbeats 400000 in
theorem at_any (c i : Int) (w : World) :
    Calls Tryd.prog 20 #[.int .i64 c, .int .i64 i] w fun e w' => e = .returned (.agg #[.int .i64 c, .int .i64 i]) ∧ Below w.heap.size w w' := by
  go_enter Tryd.func20, Tryd.ntmps20
  go_wp2
  exact bodyPost_ret (v := .agg #[.int .i64 c, .int .i64 i]) (by simp [results, Tryd.results20, go_sem]) rfl ⟨rfl, (Below.refl _ _).alloc (Nat.le_refl _) _⟩

def btw (n lo hi : Int) : Bool := decide (lo ≤ n) && decide (n ≤ hi)

set_option maxHeartbeats 400000 in
theorem between_any (n lo hi : Int) (w : World) :
    Calls Tryd.prog 26 #[.int .i64 n, .int .i64 lo, .int .i64 hi] w fun e w' => e = .returned (.bool (btw n lo hi)) ∧ w = w' := by
  go_enter Tryd.func26, Tryd.ntmps26
  go_wp2
  all_goals go_ret
  all_goals (refine ⟨ret_bool ?_, rfl⟩; simp [btw]; try omega)

def wtn (n lim : Int) : Bool := decide (0 ≤ n) && decide (n < lim)

set_option maxHeartbeats 400000 in
theorem within_any (n lim : Int) (w : World) :
    Calls Tryd.prog 17 #[.int .i64 n, .int .i64 lim] w fun e w' => e = .returned (.bool (wtn n lim)) ∧ w = w' := by
  go_enter Tryd.func17, Tryd.ntmps17
  go_wp2
  all_goals go_ret
  all_goals (refine ⟨ret_bool ?_, rfl⟩; simp [wtn]; try omega)

/-- how many operands -/
def opn (a b : Nat) : Nat := if b = 0 then (if a = 0 then 0 else 1) else 2

set_option maxHeartbeats 400000 in
theorem operands_any (s : ByteArray) (a b : Nat) (w : World) :
    Calls Tryd.prog 19 #[.agg #[.string s, .int .i64 a, .int .i64 b]] w fun e w' => e = .returned (.int .i64 (opn a b)) ∧ Below w.heap.size w w' := by
  by_cases hb : b = 0
  · subst hb
    by_cases ha : a = 0
    · subst ha
      go_enter Tryd.func19, Tryd.ntmps19
      go_wp2
      go_ret
      exact ⟨ret_int (by simp [opn]), (Below.refl _ _).alloc (Nat.le_refl _) _⟩
    · have ha' : ((a : Int) != 0) = true := by simpa using ha
      go_enter Tryd.func19, Tryd.ntmps19
      go_wp2
      go_ret
      exact ⟨ret_int (by simp [opn, ha]), (Below.refl _ _).alloc (Nat.le_refl _) _⟩
  · have hb' : ((b : Int) != 0) = true := by simpa using hb
    go_enter Tryd.func19, Tryd.ntmps19
    go_wp2
    go_ret
    exact ⟨ret_int (by simp [opn, hb]), (Below.refl _ _).alloc (Nat.le_refl _) _⟩

abbrev Entry := List UInt8 × Nat × Nat
def enc (e : Entry) : List Value := [.string ⟨e.1.toArray⟩, .int .i64 e.2.1, .int .i64 e.2.2]
theorem enc_len (e : Entry) : (enc e).length = 3 := rfl
def opTab : List Entry :=
  [([99, 111, 110, 115, 116], 3, 0),
   ([112, 111, 112], 1, 0),
   ([112, 105, 99, 107], 2, 0),
   ([114, 111, 108, 108], 2, 0),
   ([108, 111, 97, 100], 5, 6),
   ([115, 116, 111, 114, 101], 5, 6),
   ([100, 101, 108, 101, 116, 101], 5, 6),
   ([102, 111, 114, 103, 101, 116], 5, 6),
   ([114, 101, 102], 7, 0),
   ([97, 116, 116, 114], 4, 0),
   ([115, 101, 116, 97, 116, 116, 114], 4, 0),
   ([100, 101, 108, 97, 116, 116, 114], 4, 0),
   ([105, 116, 101, 109], 0, 0),
   ([115, 101, 116, 105, 116, 101, 109], 0, 0),
   ([100, 101, 108, 105, 116, 101, 109], 0, 0),
   ([115, 108, 105, 99, 101], 0, 0),
   ([115, 101, 116, 115, 108, 105, 99, 101], 0, 0),
   ([100, 101, 108, 115, 108, 105, 99, 101], 0, 0),
   ([117, 110, 97, 114, 121], 8, 0),
   ([98, 105, 110, 97, 114, 121], 9, 0),
   ([97, 117, 103, 109, 101, 110, 116], 9, 0),
   ([99, 111, 109, 112, 97, 114, 101], 10, 0),
   ([106, 117, 109, 112], 11, 0),
   ([106, 117, 109, 112, 116, 114, 117, 101], 11, 0),
   ([106, 117, 109, 112, 102, 97, 108, 115, 101], 11, 0),
   ([107, 101, 101, 112, 116, 114, 117, 101], 11, 0),
   ([107, 101, 101, 112, 102, 97, 108, 115, 101], 11, 0),
   ([116, 117, 112, 108, 101], 1, 0),
   ([108, 105, 115, 116], 1, 0),
   ([115, 101, 116], 1, 0),
   ([100, 105, 99, 116], 1, 0),
   ([98, 117, 105, 108, 100], 0, 0),
   ([97, 100, 100], 2, 0),
   ([97, 100, 100, 97, 108, 108], 2, 0),
   ([97, 100, 100, 112, 97, 105, 114], 2, 0),
   ([97, 100, 100, 112, 97, 105, 114, 115], 2, 0),
   ([102, 105, 110, 105, 115, 104], 13, 0),
   ([97, 114, 103, 115], 0, 0),
   ([97, 114, 103], 0, 0),
   ([97, 114, 103, 115, 116, 97, 114], 0, 0),
   ([97, 114, 103, 110, 97, 109, 101, 100], 4, 0),
   ([97, 114, 103, 112, 97, 105, 114, 115], 0, 0),
   ([99, 97, 108, 108], 0, 0),
   ([99, 97, 108, 108, 119, 105, 116, 104], 1, 0),
   ([102, 117, 110, 99, 116, 105, 111, 110], 12, 1),
   ([99, 108, 97, 115, 115], 12, 0),
   ([105, 116, 101, 114], 0, 0),
   ([110, 101, 120, 116], 11, 0),
   ([108, 111, 111, 112], 0, 0),
   ([117, 110, 112, 97, 99, 107], 1, 0),
   ([117, 110, 112, 97, 99, 107, 97, 108, 108], 1, 1),
   ([102, 111, 114, 109, 97, 116], 14, 4),
   ([106, 111, 105, 110], 1, 0),
   ([105, 109, 112, 111, 114, 116], 4, 0),
   ([102, 114, 111, 109], 4, 0),
   ([119, 105, 116, 104], 0, 0),
   ([108, 101, 97, 118, 101], 0, 0),
   ([114, 97, 105, 115, 101], 20, 0),
   ([102, 97, 105, 108], 19, 0),
   ([109, 97, 116, 99, 104], 15, 0),
   ([104, 97, 110, 100, 108, 101], 0, 0),
   ([117, 110, 104, 97, 110, 100, 108, 101], 0, 0),
   ([109, 97, 116, 99, 104, 101, 115], 0, 0),
   ([97, 103, 97, 105, 110], 0, 0),
   ([112, 101, 110, 100], 16, 0),
   ([112, 101, 110, 100, 114, 97, 105, 115, 101], 16, 0),
   ([114, 111, 117, 116, 101], 17, 0),
   ([101, 110, 100], 16, 0),
   ([114, 101, 116, 117, 114, 110], 0, 0),
   ([121, 105, 101, 108, 100], 0, 0),
   ([100, 101, 108, 101, 103, 97, 116, 101], 0, 0),
   ([97, 119, 97, 105, 116], 0, 0),
   ([108, 105, 110, 101], 18, 0),
   ([115, 97, 102, 101], 0, 0),
   ([103, 114, 111, 117, 112], 0, 0),
   ([112, 97, 114, 116], 0, 0),
   ([114, 97, 105, 115, 101, 100], 0, 0),
   ([117, 110, 103, 114, 111, 117, 112], 0, 0),
   ([115, 117, 112, 101, 114], 7, 0),
   ([114, 101, 115, 116], 11, 0)]

end Go.Proofs.YtdajaddgdmoneaaDoor
