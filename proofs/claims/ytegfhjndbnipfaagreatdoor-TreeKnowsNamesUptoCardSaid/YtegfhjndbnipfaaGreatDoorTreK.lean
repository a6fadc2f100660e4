/- The program's trees: two trees of one statement without parts are alike. Nothing is claimed here. -/
import Derived.Test.YtegfhjndbnipfaaGreatDoorTreF
import Derived.Test.YtegfhjndbnipfaaGreatDoorTreH
namespace Go.Proofs.YtegfhjndbnipfaaGreatDoor
open Go.RowKit Go.Lib Go.Maps
set_option linter.unusedVariables false

set_option maxRecDepth 100000 in
set_option maxHeartbeats 4000000 in
theorem efStmt_one (b1 b2 : Nat) (k n m : Int) (w : World) (h1 : Blk w b1 43 (stC k n)) (h2 : Blk w b2 43 (stC k m)) :
    Calls Tryz.prog 37 #[.slice (some ⟨b1, 0, none⟩) 1 1, .slice (some ⟨b2, 0, none⟩) 1 1, .func (.func 38) #[] #[]] w fun e w' => e = .returned (.bool true) ∧ Below w.heap.size w w' := by
  obtain ⟨q1, q2, q3⟩ := h1.rules
  obtain ⟨p1, p2, p3⟩ := h2.rules
  unfold stC at q1 p1
  go_enter Tryz.func37, Tryz.ntmps37
  go_wp2_with fail
  go_loopw [17] (fun v wr => (v = .int .i64 0 ∧ wr = w) ∨ (v = .int .i64 1 ∧ Below w.heap.size w wr)) (fun v _ => 1 - (RowKit.intOf v).toNat)
  case atStart => exact .inl ⟨rfl, rfl⟩
  case round =>
    rcases hrel with ⟨rfl, rfl⟩ | ⟨rfl, hbr⟩
    · go_wp2_with fail
      refine (sameStmt_any k n m _).mono ?_
      rintro e w2 ⟨rfl, hbx⟩
      have hb0 := ((Below.refl wr.heap.size wr).alloc (Nat.le_refl _) (.cells (stC k n) 43)).alloc (by simp) (.cells (stC k m) 43)
      have hb := below_then hb0 hbx (by simp; omega)
      clear hbx hb0 q1 q2 q3 p1 p2 p3
      go_wp2_with fail
      go_roundw
      case rel => exact .inr ⟨by go_num, hb⟩
      case measure => simp [RowKit.intOf]
    · clear q1 q2 q3 p1 p2 p3
      go_wp2_with fail
      go_ret
      exact ⟨rfl, hbr⟩
theorem sameStmts_one (b1 b2 : Nat) (k n m : Int) (w : World) (h1 : Blk w b1 43 (stC k n)) (h2 : Blk w b2 43 (stC k m)) :
    Calls Tryz.prog 22 #[.slice (some ⟨b1, 0, none⟩) 1 1, .slice (some ⟨b2, 0, none⟩) 1 1] w fun e w' => e = .returned (.bool true) ∧ Below w.heap.size w w' := by
  have H := Lib.hid (efStmt_one b1 b2 k n m w h1 h2)
  go_enter Tryz.func22, Tryz.ntmps22
  go_wp2_with fail
  refine H.out.mono ?_
  rintro e w1 ⟨rfl, hb⟩
  go_wp2_with fail
  go_ret
  exact ⟨rfl, hb⟩

set_option maxRecDepth 100000 in
set_option maxHeartbeats 4000000 in
theorem alike_any (b1 b2 : Nat) (n m : Int) (hn1 : 1 ≤ n) (hn2 : n ≤ 16000) (hm1 : 1 ≤ m) (hm2 : m ≤ 16000) (w : World) (h1 : Blk w b1 43 (stC 5 n)) (h2 : Blk w b2 43 (stC 5 m)) :
    Calls Tryz.prog 9 #[.slice (some ⟨b1, 0, none⟩) 1 1, .slice (some ⟨b2, 0, none⟩) 1 1] w fun e w' => e = .returned (.tuple #[.bool true, flt 0 0]) ∧ Below w.heap.size w w' := by
  have hP := Blk.new w 25 #[.int .i64 0, .int .i64 0]
  have hb0 := (Below.refl w.heap.size w).alloc (Nat.le_refl _) (.cells #[.int .i64 0, .int .i64 0] 25)
  have h1a := h1.alloc (.cells #[.int .i64 0, .int .i64 0] 25)
  have h2a := h2.alloc (.cells #[.int .i64 0, .int .i64 0] 25)
  go_enter Tryz.func9, Tryz.ntmps9
  go_wp2_with fail
  refine (validate_ok b1 n hn1 hn2 _ h1a).mono ?_
  rintro e w1 ⟨rfl, ba⟩
  have hP1 := hP.belowS ba
  have hb1 := below_then hb0 ba hb0.size
  have h1b := (h1a.belowS ba).alloc (.cells #[.int .i64 0, .int .i64 0] 25)
  have h2b := (h2a.belowS ba).alloc (.cells #[.int .i64 0, .int .i64 0] 25)
  have hP2 := hP1.alloc (.cells #[.int .i64 0, .int .i64 0] 25)
  have hb2 := hb1.alloc hb1.size (.cells #[.int .i64 0, .int .i64 0] 25)
  clear ba hb0 hb1 h1a h2a hP hP1
  unfold flt
  go_wp2_with fail
  refine (validate_ok b2 m hm1 hm2 _ h2b).mono ?_
  rintro e w3 ⟨rfl, ba⟩
  have hP3 := (hP2.belowS ba).alloc (.cells #[.int .i64 0, .int .i64 0] 25)
  have hb3 := below_then hb2 ba hb2.size
  have hb4 := hb3.alloc hb3.size (.cells #[.int .i64 0, .int .i64 0] 25)
  have h1c := (h1b.belowS ba).alloc (.cells #[.int .i64 0, .int .i64 0] 25)
  have h2c := (h2b.belowS ba).alloc (.cells #[.int .i64 0, .int .i64 0] 25)
  clear ba hb2 hb3 h1b h2b hP2
  unfold flt
  go_wp2_with fail
  refine (sameStmts_one b1 b2 5 n m _ h1c h2c).mono ?_
  rintro e w5 ⟨rfl, ba⟩
  have hP5 := hP3.belowS ba
  have hb5 := below_then hb4 ba hb4.size
  clear ba hb4 h1c h2c hP3
  obtain ⟨q1, q2, q3⟩ := hP5.rules
  go_wp2_with fail
  have hPz := (hP5.set_ 0 (.int .i64 0)).set_ 1 (.int .i64 0)
  exact ret_tmp_blk rfl rfl hPz _ Tryz.underlying25 rfl (by kernel_rfl) rfl _ rfl ⟨rfl, (hb5.setCell (p := ⟨w.heap.size, 0, none⟩) (Nat.le_refl _) _).setCell (p := ⟨w.heap.size, 1, none⟩) (Nat.le_refl _) _⟩

end Go.Proofs.YtegfhjndbnipfaaGreatDoor
