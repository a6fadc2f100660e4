/- The laws on tokens: their example. Nothing is claimed here. -/
import Derived.Great.BuildSlice
import Derived.Test.YtjoeojdciogcgaaDoorJoinC
import Derived.Test.YtjoeojdciogcgaaDoorTokH
namespace Go.Proofs.YtjoeojdciogcgaaDoor
open Go.RowKit Go.Shelf Go.Lib Go.Maps
set_option linter.unusedVariables false

theorem at_any (c i : Int) (w : World) : Calls Tryd.prog 9 #[.int .i64 c, .int .i64 i] w fun e w' => e = .returned (flt c i) ∧ Below w.heap.size w w' := by
  go_enter Tryd.func9, Tryd.ntmps9
  go_wp2
  exact ret_blk rfl rfl (Blk.new w 25 #[.int .i64 c, .int .i64 i]) _ Tryd.underlying25 rfl (by kernel_rfl) rfl ⟨rfl, (Below.refl _ _).alloc (Nat.le_refl _) _⟩
theorem info_str3 : (Tryd.prog.info? 9).map (fun i => (i.zero, i.size, i.bytes)) = some (some (.string ByteArray.empty), 1, 16) := by kernel_rfl
set_option maxHeartbeats 4000000 in
set_option maxRecDepth 100000 in
theorem reserved_any (w : World) :
    Calls Tryd.prog 13 #[] w fun e w' => e = .returned (.slice (some ⟨w.heap.size, 0, none⟩) 38 38) ∧ w' = w.alloc (.cells (strs kws).toArray 9) := by
  obtain ⟨i0, hi, hz0, hz1, hz2⟩ := info_parts info_str3
  go_enter Tryd.func13, Tryd.ntmps13
  go_wp2_with (refine wpList_buildSlice rfl 36 9 38 _ rfl (strs kws).toArray i0 _ Tryd.underlying36 hi hz0 (by rw [hz1]; decide) (by rw [hz1]; decide) (by rw [hz1]; kernel_rfl) ?_)
  go_ret
  exact ⟨rfl, rfl⟩

def exL : List UInt8 := [105, 102, 32, 97, 58, 10, 32, 32, 98]
def exS : List UInt8 := [105, 102, 32, 97, 32, 58, 10, 32, 32, 98, 10]
def exT : List Tok := match scanT exL with | .ok t => t | .error _ => []
theorem ex_scan : scanT exL = .ok exT := by kernel_rfl
theorem ex_len : exT.length = 9 := by kernel_rfl
theorem ex_at : (exT[4]?).map Tok.kind = some 2 := by kernel_rfl
theorem ex_join : joinR exT = (exS, 0, 0) := by kernel_rfl

/-- Join of what Scan gave -/
theorem join_scan (A : Option Addr) (c : Nat) (l : List UInt8) (ts : List Tok) (w : World) (h : scanT l = .ok ts) (hr : Row w A (ts.flatMap tokc)) (he : Env w) :
    Calls Tryd.prog 8 #[.slice A ts.length c] w (JPost w (joinR ts)) := by
  obtain ⟨h1, h2, h3⟩ := scanT_bd h
  exact join_any A c ts w (by omega) (fun t ht => by have := h3 t ht; omega) hr he (fun _ _ _ _ h => scanT_err h)

set_option maxHeartbeats 4000000 in
set_option maxRecDepth 100000 in
theorem scans_any (w : World) (he : Env w) : Calls Tryd.prog 6 #[] w fun e w' => e = .returned (.bool true) ∧ Below w.heap.size w w' := by
  go_enter Tryd.func6, Tryd.ntmps6
  go_wp2_with fail
  refine (scan_all exL w (by decide) he).mono ?_
  rintro e w1 ⟨hb1, hpost⟩
  rw [ex_scan] at hpost
  obtain ⟨vt, rfl, hown⟩ := hpost
  obtain ⟨ts, hts⟩ : ∃ ts, exT = ts := ⟨_, rfl⟩
  have e1 := ex_scan
  have e2 := ex_len
  have e3 := ex_at
  have e4 := ex_join
  rw [hts] at hown e1 e2 e3 e4
  clear hts
  obtain ⟨A, c, rfl, _, _⟩ := own_form hown
  have hr := (Row.of_own hown).keepB ((Below.refl _ w1).alloc (Nat.le_refl _) (.cells #[.int .i64 0, .int .i64 0] 25))
  have hF := Blk.new w1 25 #[.int .i64 0, .int .i64 0]
  have hb2 := hb1.alloc hb1.size (.cells #[.int .i64 0, .int .i64 0] 25)
  have he2 := he.keepB hb2
  clear hown hb1
  have hj := join_scan A c exL ts _ e1 hr he2
  unfold JPost at hj
  rw [e4] at hj
  dsimp only at hj
  rw [e2] at hj ⊢
  have HJ := Lib.hid hj
  have H3 := Lib.hid e3
  clear e1 e4 e3 hj
  unfold flt
  go_wp2_with fail
  refine HJ.out.mono ?_
  rintro e w3 ⟨rfl, hb3⟩
  have hr3 := hr.keepB hb3
  have hF3 := hF.belowS hb3
  have hb4 := below_then hb2 hb3 hb2.size
  have he3 := he2.keepB hb3
  clear hr hF hb3 hb2 he2 HJ
  obtain ⟨b, off, t, rfl, had, H1, a1, a2, a3, a4⟩ := hr3.tok (k := 4) (by omega)
  have hk : t.kind = 2 := by
    have := H3.out
    rw [H1.out] at this
    simpa using this
  rw [hk] at a1
  clear hk H3 H1
  obtain ⟨q1, q2, q3⟩ := hF3.rules
  have hb5 := hb4.alloc hb4.size (.cells #[.int .i64 0, .int .i64 0] 25)
  have he5 := he3.keepB ((Below.refl _ w3).alloc (Nat.le_refl _) (.cells #[.int .i64 0, .int .i64 0] 25))
  unfold exS flt
  go_wp2_with fail
  refine (keywords_any _ he5).mono ?_
  rintro e w6 ⟨rfl, rfl⟩
  have hb6 := hb5.alloc hb5.size (.cells (strs kws).toArray 9)
  go_wp2_with fail
  refine (reserved_any _).mono ?_
  rintro e w7 ⟨rfl, rfl⟩
  have hb7 := hb6.alloc hb6.size (.cells (strs kws).toArray 9)
  go_wp2_with fail
  go_ret
  exact ⟨rfl, hb7⟩

end Go.Proofs.YtjoeojdciogcgaaDoor
