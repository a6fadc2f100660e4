/- Walks: tables of lines are shortened and packed. Nothing is claimed here. -/
import Derived.Test.YtionmlkefheocaaTabD
import Derived.Deep.RegionHeld3
namespace Go.Proofs.Ytionmlkefheocaa
open Go.RowKit
set_option linter.unusedVariables false

theorem mfGo_ne : ∀ (l : List Mark) (i : Nat) (p : Int), mfGo i p l = (0, 0) ∨ (mfGo i p l).1 = 4 ∨ (mfGo i p l).1 = 11
  | [], _, _ => .inl rfl
  | m :: l, i, p => by
    rw [mfGo]
    split
    · split
      · exact .inr (.inr rfl)
      · exact mfGo_ne l _ _
    · exact .inr (.inl rfl)
theorem marksFault_ne (l : List Mark) : marksFault l = (0, 0) ∨ (marksFault l).1 ≠ 0 := by
  unfold marksFault
  split
  · exact .inr (by decide)
  · rcases mfGo_ne l 0 (-1) with h | h | h
    · exact .inl h
    · exact .inr (by rw [h]; decide)
    · exact .inr (by rw [h]; decide)

theorem check_at (A : Option Addr) (c : Nat) (l : List Mark) (fc fi : Int) (w : World) (hl : l.length ≤ 9223372036854775807) (hm : Row w A (l.flatMap mkc)) (hf : Hid (marksFault l = (fc, fi))) :
    Calls Try.prog 27 #[.slice A l.length c] w fun e w' => e = .returned (.agg #[.int .i64 fc, .int .i64 fi]) ∧ Below w.heap.size w w' := by
  have := checkLines_any A c l w hl hm
  rw [hf.out] at this
  exact this

set_option maxHeartbeats 400000 in
theorem packLines_bad (A : Option Addr) (c : Nat) (l : List Mark) (at_ fc fi : Int) (w : World) (hl : l.length ≤ 9223372036854775807) (hm : Row w A (l.flatMap mkc)) (hf : Hid (marksFault l = (fc, fi))) (hfc : (fc == 0) = false) :
    Calls Try.prog 8 #[.slice A l.length c] w fun e w' => e = .returned (.tuple #[.slice none 0 0, .agg #[.int .i64 fc, .int .i64 fi]]) ∧ Below w.heap.size w w' := by
  have hB : Blk (w.alloc (.cells #[.int .i64 0, .int .i64 0] 24)) w.heap.size 24 #[.int .i64 0, .int .i64 0] := Blk.new _ _ _
  have HB := Lib.hid hB
  clear hB
  have hm1 : Row (w.alloc (.cells #[.int .i64 0, .int .i64 0] 24)) A (l.flatMap mkc) := hm.keepB ((Below.refl _ _).alloc (Nat.le_refl _) _)
  go_enter Try.func8, Try.ntmps8
  go_wp2_with fail
  refine (check_at _ _ _ fc fi _ hl hm1 hf).mono ?_
  rintro e w' ⟨rfl, hb'⟩
  have hB' := HB.out.belowS hb'
  obtain ⟨hc', hf', hz'⟩ := hB'.rules
  go_wp2_with fail
  go_region
  go_wp2_with fail
  refine ret_tmp_blk Try.results8 rfl ((((hB'.set_ 0 _).set_ 1 _).alloc _).drew) _ Try.underlying24 rfl (by kernel_rfl) rfl _ rfl ⟨rfl, ?_⟩
  exact (Below.alloc (((below_then ((Below.refl _ _).alloc (Nat.le_refl _) _) hb' (by simp)).setCell (Nat.le_refl _) _).setCell (Nat.le_refl _) _) (by simp; omega) _).drew

set_option maxHeartbeats 400000 in
theorem merge_bad (A : Option Addr) (c : Nat) (l : List Mark) (at_ fc fi : Int) (w : World) (hl : l.length ≤ 9223372036854775807) (hm : Row w A (l.flatMap mkc)) (hf : Hid (marksFault l = (fc, fi))) (hfc : (fc == 0) = false) :
    Calls Try.prog 7 #[.slice A l.length c] w fun e w' => e = .returned (.tuple #[.slice none 0 0, .agg #[.int .i64 fc, .int .i64 fi]]) ∧ Below w.heap.size w w' := by
  have hB : Blk (w.alloc (.cells #[.int .i64 0, .int .i64 0] 24)) w.heap.size 24 #[.int .i64 0, .int .i64 0] := Blk.new _ _ _
  have HB := Lib.hid hB
  clear hB
  have hm1 : Row (w.alloc (.cells #[.int .i64 0, .int .i64 0] 24)) A (l.flatMap mkc) := hm.keepB ((Below.refl _ _).alloc (Nat.le_refl _) _)
  go_enter Try.func7, Try.ntmps7
  go_wp2_with fail
  refine (check_at _ _ _ fc fi _ hl hm1 hf).mono ?_
  rintro e w' ⟨rfl, hb'⟩
  have hB' := HB.out.belowS hb'
  obtain ⟨hc', hf', hz'⟩ := hB'.rules
  go_wp2_with fail
  go_region
  go_wp2_with fail
  refine ret_tmp_blk Try.results7 rfl ((((hB'.set_ 0 _).set_ 1 _).alloc _).drew) _ Try.underlying24 rfl (by kernel_rfl) rfl _ rfl ⟨rfl, ?_⟩
  exact (Below.alloc (((below_then ((Below.refl _ _).alloc (Nat.le_refl _) _) hb' (by simp)).setCell (Nat.le_refl _) _).setCell (Nat.le_refl _) _) (by simp; omega) _).drew

set_option maxHeartbeats 400000 in
theorem line_bad (A : Option Addr) (c : Nat) (l : List Mark) (at_ fc fi : Int) (w : World) (hl : l.length ≤ 9223372036854775807) (hm : Row w A (l.flatMap mkc)) (hf : Hid (marksFault l = (fc, fi))) (hfc : (fc == 0) = false) :
    Calls Try.prog 6 #[.slice A l.length c, .int .i64 at_] w fun e w' => e = .returned (.tuple #[.int .i64 0, .agg #[.int .i64 fc, .int .i64 fi]]) ∧ Below w.heap.size w w' := by
  have hB : Blk (w.alloc (.cells #[.int .i64 0, .int .i64 0] 24)) w.heap.size 24 #[.int .i64 0, .int .i64 0] := Blk.new _ _ _
  have HB := Lib.hid hB
  clear hB
  have hm1 : Row (w.alloc (.cells #[.int .i64 0, .int .i64 0] 24)) A (l.flatMap mkc) := hm.keepB ((Below.refl _ _).alloc (Nat.le_refl _) _)
  go_enter Try.func6, Try.ntmps6
  go_wp2_with fail
  refine (check_at _ _ _ fc fi _ hl hm1 hf).mono ?_
  rintro e w' ⟨rfl, hb'⟩
  have hB' := HB.out.belowS hb'
  obtain ⟨hc', hf', hz'⟩ := hB'.rules
  go_wp2_with fail
  go_region
  go_wp2_with fail
  refine ret_tmp_blk Try.results6 rfl ((((hB'.set_ 0 _).set_ 1 _).alloc _).drew) _ Try.underlying24 rfl (by kernel_rfl) rfl _ rfl ⟨rfl, ?_⟩
  exact (Below.alloc (((below_then ((Below.refl _ _).alloc (Nat.le_refl _) _) hb' (by simp)).setCell (Nat.le_refl _) _).setCell (Nat.le_refl _) _) (by simp; omega) _).drew

end Go.Proofs.Ytionmlkefheocaa
