/- The program's trees: Shift of a tree of one statement without parts. Nothing is claimed here. -/
import Derived.Test.YtegfhjndbnipfaaGreatDoorTreN
namespace Go.Proofs.YtegfhjndbnipfaaGreatDoor
open Go.RowKit Go.Lib Go.Maps Go.Sort
set_option linter.unusedVariables false

theorem shift1_any (n by_ : Int) (p : Nat) (w : World) (h : Blk w p 3 #[.int .i64 by_]) (m : Int) (hm : IntKind.i64.wrap (n + by_) = m) (h1 : 1 ≤ m) (h2 : m ≤ 16000) : Calls Tryz.prog 26 #[.int .i64 n, .pointer (some ⟨p, 0, none⟩)] w fun e w' => e = .returned (.bool false) ∧ w = w' := by
  obtain ⟨q1, q2, q3⟩ := h.rules
  go_enter Tryz.func26, Tryz.ntmps26
  go_wp2_with fail
  refine (line_any m h1 h2 w).mono ?_
  rintro e w1 ⟨rfl, rfl⟩
  go_wp2_with fail
  go_ret
  exact ⟨rfl, rfl⟩
theorem ifInt_one (n by_ : Int) (p g cap : Nat) (cur : Array Value) (w : World) (h : Blk w p 3 #[.int .i64 by_]) (m : Int) (hm : IntKind.i64.wrap (n + by_) = m) (h1 : 1 ≤ m) (h2 : m ≤ 16000) (hG : Blk w g 3 cur) (hcur : cur[0]? = some (.int .i64 n)) :
    Calls Tryz.prog 40 #[.slice (some ⟨g, 0, none⟩) 1 cap, .func (.func 26) #[] #[.pointer (some ⟨p, 0, none⟩)]] w fun e w' => e = .returned (.int .i64 (-1)) ∧ w = w' := by
  have hc : w.cell? ⟨g, 0, none⟩ = some (.int .i64 n) := (hG.cell 0).trans hcur
  have HS := Lib.hid (shift1_any n by_ p w h m hm h1 h2)
  clear hG hcur h hm
  go_enter Tryz.func40, Tryz.ntmps40
  go_wp2_with fail
  go_loop [8] (fun v => v = .int .i64 0 ∨ v = .int .i64 1) (fun v => 1 - (RowKit.intOf v).toNat)
  case atStart => exact .inl rfl
  case round =>
    rcases hrel with rfl | rfl
    · go_wp2_with fail
      refine HS.out.mono ?_
      rintro e w1 ⟨rfl, rfl⟩
      go_wp2_with fail
      go_round
      case rel => exact .inr (by go_num)
      case measure => simp [RowKit.intOf]
    · go_wp2_with fail
      go_ret
      exact ⟨rfl, rfl⟩
theorem cfInt_one (n by_ : Int) (p g cap : Nat) (cur : Array Value) (w : World) (h : Blk w p 3 #[.int .i64 by_]) (m : Int) (hm : IntKind.i64.wrap (n + by_) = m) (h1 : 1 ≤ m) (h2 : m ≤ 16000) (hG : Blk w g 3 cur) (hcur : cur[0]? = some (.int .i64 n)) :
    Calls Tryz.prog 25 #[.slice (some ⟨g, 0, none⟩) 1 cap, .func (.func 26) #[] #[.pointer (some ⟨p, 0, none⟩)]] w fun e w' => e = .returned (.bool false) ∧ w = w' := by
  have H := Lib.hid (ifInt_one n by_ p g cap cur w h m hm h1 h2 hG hcur)
  clear h hm hG hcur
  go_enter Tryz.func25, Tryz.ntmps25
  go_wp2_with fail
  refine H.out.mono ?_
  rintro e w1 ⟨rfl, rfl⟩
  go_wp2_with fail
  go_ret
  exact ⟨rfl, rfl⟩

set_option maxRecDepth 100000 in
set_option maxHeartbeats 4000000 in
theorem shift_any (b : Nat) (w : World) (h1 : Blk w b 43 (stC 5 3)) :
    Calls Tryz.prog 12 #[.slice (some ⟨b, 0, none⟩) 1 1, .int .i64 4] w fun e w' => ∃ (g cap : Nat), e = .returned (.tuple #[.slice (some ⟨g, 0, none⟩) 1 cap, flt 0 0]) ∧ Below w.heap.size w w' ∧ w'.cell? ⟨g, 1, none⟩ = some (.int .i64 7) := by
  have hmf : ∀ (fn : Fn) (first cap : Array Value) (w : World), (Instr.makeFunc fn first cap).run Tryz.prog w = .ok (.func fn first cap) w := fun _ _ _ _ => rfl
  have hY := (Blk.new w 3 #[.int .i64 4]).alloc (.cells #[.int .i64 0, .int .i64 0] 25)
  have hP := Blk.new (w.alloc (.cells #[.int .i64 4] 3)) 25 #[.int .i64 0, .int .i64 0]
  rw [show (w.alloc (.cells #[.int .i64 4] 3)).heap.size = w.heap.size + 1 by simp] at hP
  have hb0 := ((Below.refl w.heap.size w).alloc (Nat.le_refl _) (.cells #[.int .i64 4] 3)).alloc (by simp) (.cells #[.int .i64 0, .int .i64 0] 25)
  have h1a := (h1.alloc (.cells #[.int .i64 4] 3)).alloc (.cells #[.int .i64 0, .int .i64 0] 25)
  have hsz0 : ((w.alloc (.cells #[.int .i64 4] 3)).alloc (.cells #[.int .i64 0, .int .i64 0] 25)).heap.size = w.heap.size + 2 := by simp
  go_enter Tryz.func12, Tryz.ntmps12
  go_wp2_with fail
  refine (lines_any b 3 (by omega) (by omega) _ h1a).mono ?_
  rintro e w1 ⟨g, cap, cur, rfl, ba, hG, hcur⟩
  have hY1 := (hY.belowS ba).alloc (.cells #[.int .i64 0, .int .i64 0] 25)
  have hP1 := (hP.belowS ba).alloc (.cells #[.int .i64 0, .int .i64 0] 25)
  have hG1 := hG.alloc (.cells #[.int .i64 0, .int .i64 0] 25)
  have h1b := (h1a.belowS ba).alloc (.cells #[.int .i64 0, .int .i64 0] 25)
  have hb1 := below_then hb0 ba hb0.size
  have hb2 := hb1.alloc hb1.size (.cells #[.int .i64 0, .int .i64 0] 25)
  clear ba hb0 hb1 h1a hY hP hG hsz0
  obtain ⟨q1, q2, q3⟩ := hY1.rules
  unfold flt
  go_wp2_with fail
  refine (cfInt_one 3 4 w.heap.size g cap cur _ hY1 7 (by decide) (by omega) (by omega) hG1 hcur).mono ?_
  rintro e w2 ⟨rfl, rfl⟩
  go_wp2_with fail
  refine (wstmts_one (FS w.heap.size) _ b _ 3 7 _ h1b (Nat.le_refl _) (fun _ => True) (fun _ => True) (fun _ _ => trivial) (fun W hW => (wstmt_shift 3 4 w.heap.size _ W (hY1.belowS hW) 7 (by decide)).mono fun e W' h => ⟨h.1, trivial, h.2.mono hW.size⟩) (fun _ _ _ _ => trivial)).mono ?_
  rintro e w3 ⟨g2, cap2, rfl, _, hbx, hgg, hcell⟩
  have hne : g2 ≠ w.heap.size + 1 := by have := hP1.lt; omega
  have hP3 := hP1.belowS hbx
  have hb3 := below_then hb2 hbx hb2.size
  clear hbx hP1 hb2 hY1 hG1 h1b q1 q2 q3
  obtain ⟨q1, q2, q3⟩ := hP3.rules
  have HC := Lib.hid hcell
  go_wp2_with fail
  have hPz := (hP3.set_ 0 (.int .i64 0)).set_ 1 (.int .i64 0)
  refine ret_tmp_blk rfl rfl hPz _ Tryz.underlying25 rfl (by kernel_rfl) rfl _ rfl ⟨g2, cap2, rfl, (hb3.setCell (p := ⟨w.heap.size + 1, 0, none⟩) (by simp) _).setCell (p := ⟨w.heap.size + 1, 1, none⟩) (by simp) _, ?_⟩
  have hE : ∀ (W : World) (j : Nat) (u : Value), (W.setCell ⟨w.heap.size + 1, j, none⟩ u).cell? ⟨g2, 1, none⟩ = W.cell? ⟨g2, 1, none⟩ := fun W j u => by
    have h0 := Below.heap_setCell W ⟨w.heap.size + 1, j, none⟩ u g2 hne
    unfold World.cell?
    simp only [h0]
  rw [hE, hE]
  exact HC.out

end Go.Proofs.YtegfhjndbnipfaaGreatDoor
