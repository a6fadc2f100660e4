/- The program's trees: Lines of a tree of one statement without parts. Nothing is claimed here. -/
import Derived.Test.YtegfhjndbnipfaaGreatDoorTreF
import Derived.Test.YtegfhjndbnipfaaGreatDoorTreL
import Derived.Test.YtegfhjndbnipfaaGreatDoorTreM
namespace Go.Proofs.YtegfhjndbnipfaaGreatDoor
open Go.RowKit Go.Lib Go.Maps Go.Sort
set_option linter.unusedVariables false

set_option maxRecDepth 100000 in
set_option maxHeartbeats 4000000 in
theorem lines_any (b : Nat) (n : Int) (hn1 : 1 ≤ n) (hn2 : n ≤ 16000) (w : World) (h1 : Blk w b 43 (stC 5 n)) :
    Calls Tryz.prog 11 #[.slice (some ⟨b, 0, none⟩) 1 1] w fun e w' => ∃ (g cap : Nat) (cur : Array Value), e = .returned (.tuple #[.slice (some ⟨g, 0, none⟩) 1 cap, flt 0 0]) ∧ Below w.heap.size w w' ∧ Blk w' g 3 cur ∧ cur[0]? = some (.int .i64 n) := by
  have hmf : ∀ (fn : Fn) (first cap : Array Value) (w : World), (Instr.makeFunc fn first cap).run Tryz.prog w = .ok (.func fn first cap) w := fun _ _ _ _ => rfl
  have hP := Blk.new w 25 #[.int .i64 0, .int .i64 0]
  have hb0 := (Below.refl w.heap.size w).alloc (Nat.le_refl _) (.cells #[.int .i64 0, .int .i64 0] 25)
  have h1a := h1.alloc (.cells #[.int .i64 0, .int .i64 0] 25)
  go_enter Tryz.func11, Tryz.ntmps11
  go_wp2_with fail
  refine (validate_ok b n hn1 hn2 _ h1a).mono ?_
  rintro e w1 ⟨rfl, ba⟩
  have hP2 := ((hP.belowS ba).alloc (.cells #[.int .i64 0, .int .i64 0] 25)).alloc (.cells #[.slice none 0 0] 30)
  have hb1 := below_then hb0 ba hb0.size
  have h1b := ((h1a.belowS ba).alloc (.cells #[.int .i64 0, .int .i64 0] 25)).alloc (.cells #[.slice none 0 0] 30)
  have hO := Blk.new (w1.alloc (.cells #[.int .i64 0, .int .i64 0] 25)) 30 #[.slice none 0 0]
  have hszo : (w1.alloc (.cells #[.int .i64 0, .int .i64 0] 25)).heap.size = w1.heap.size + 1 := by simp
  rw [hszo] at hO
  have hs1 := hb1.size
  have hb2 := (hb1.alloc hb1.size (.cells #[.int .i64 0, .int .i64 0] 25)).alloc (by rw [hszo]; omega) (.cells #[.slice none 0 0] 30)
  have hPlt := (hP.belowS ba).lt
  clear ba hb0 hb1 h1a hP
  unfold flt
  go_wp2_with fail
  refine (wstmts_one (FL (w1.heap.size + 1)) _ b (w1.heap.size + 1) n n _ h1b (by simp) (fun _ => True) (fun W' => ∃ (g cap : Nat) (cur : Array Value), Blk W' (w1.heap.size + 1) 30 #[.slice (some ⟨g, 0, none⟩) 1 cap] ∧ Blk W' g 3 cur ∧ cur[0]? = some (.int .i64 n)) (fun _ _ => trivial) (fun W hW => wstmt_lines n _ _ W (hO.belowS hW))
    (fun W W' ⟨g, cap, cur, t1, t2, t3⟩ hb => ⟨g, cap, cur, t1.belowS hb, t2.belowS hb, t3⟩)).mono ?_
  rintro e w3 ⟨g2, cap2, rfl, ⟨g, cap, cur, hO3, hG3, hcur⟩, hbx, _, hcell⟩
  have hP3 := hP2.below hbx (by omega)
  have hb3 := hb2.trans (hbx.mono (by omega))
  have HCUR := Lib.hid hcur
  have hPG : w.heap.size ≠ g := hP3.ne_ hG3 (by decide)
  clear hbx hO hP2 hb2 hcell hcur
  obtain ⟨q1, q2, q3⟩ := hP3.rules
  obtain ⟨p1, p2, p3⟩ := hO3.rules
  go_wp2_with fail
  have hPz := (hP3.set_ 0 (.int .i64 0)).set_ 1 (.int .i64 0)
  exact ret_tmp_blk rfl rfl hPz _ Tryz.underlying25 rfl (by kernel_rfl) rfl _ rfl ⟨g, cap, cur, rfl, (hb3.setCell (p := ⟨w.heap.size, 0, none⟩) (Nat.le_refl _) _).setCell (p := ⟨w.heap.size, 1, none⟩) (Nat.le_refl _) _, (hG3.far (p := ⟨w.heap.size, 0, none⟩) (Ne.symm hPG) _).far (p := ⟨w.heap.size, 1, none⟩) (Ne.symm hPG) _, HCUR.out⟩

end Go.Proofs.YtegfhjndbnipfaaGreatDoor
