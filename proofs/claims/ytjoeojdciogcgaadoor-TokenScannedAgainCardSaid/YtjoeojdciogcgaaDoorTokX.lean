/- The law TokenScannedAgain: its walk. Nothing is claimed here. -/
import Derived.Lib.QuietBelow
import Derived.Test.YtjoeojdciogcgaaDoorTokW
namespace Go.Proofs.YtjoeojdciogcgaaDoor
open Go.RowKit Go.Shelf Go.Lib Go.Maps Go.Sort
set_option linter.unusedVariables false

theorem sameL_map : ∀ {l m : List Tok}, m.map kt = l.map kt → sameL l m = true
  | [], [], _ => rfl
  | [], _ :: _, h => by simp at h
  | _ :: _, [], h => by simp at h
  | s :: l, t :: m, h => by
    rw [List.map_cons, List.map_cons] at h
    injection h with h1 h2
    injection h1 with h3 h4
    rw [sameL, sameL_map h2, Bool.and_true]
    unfold sameT
    simp [h3, h4]
theorem map_at {l m : List Tok} (h : m.map kt = l.map kt) {k : Nat} {s t : Tok} (h1 : l[k]? = some s) (h2 : m[k]? = some t) : s.kind = t.kind ∧ s.text = t.text := by
  have e := congrArg (·[k]?) h
  simp only [List.getElem?_map, h1, h2, Option.map_some] at e
  injection e with e
  injection e with e1 e2
  exact ⟨e1.symm, e2.symm⟩

set_option maxRecDepth 1000000 in
set_option maxHeartbeats 8000000 in
theorem again_any (l : List UInt8) (w : World) (hl : l.length ≤ 9223372036854775807) (he : Env w) :
    Calls Tryd.prog 3 #[.string ⟨l.toArray⟩] w fun e w' => e = .returned (.bool true) ∧ RowKit.Below w.heap.size w w' := by
  go_enter Tryd.func3, Tryd.ntmps3
  go_wp2_with fail
  refine (scans_any w he).mono ?_
  rintro e w1 ⟨rfl, hb1⟩
  have he1 := he.keepB hb1
  go_wp2_with fail
  refine (scan_all l w1 hl he1).mono ?_
  rintro e w2 ⟨hbb, hpost⟩
  have hb2 := below_then hb1 hbb hb1.size
  have he2 := he1.keepB hbb
  clear hbb hb1 he he1
  obtain ⟨R, hR⟩ : ∃ R, scanT l = R := ⟨_, rfl⟩
  rw [hR] at hpost
  rcases R with ⟨ce, ie⟩ | ts
  · obtain rfl := hpost
    have hce := scanT_err hR
    have hcb : (ce != 0) = true := by simpa using hce
    have hb3 := hb2.alloc hb2.size (.cells #[.int .i64 ce, .int .i64 ie] 25)
    clear hR hce
    unfold flt
    go_wp2_with fail
    go_ret
    exact ⟨rfl, hb3⟩
  · obtain ⟨vt, rfl, hown⟩ := hpost
    obtain ⟨A, c, rfl, _, _⟩ := own_form hown
    have hrw := Row.of_own hown
    have HR := Lib.hid hR
    have hsa := scanned_again l ts hR
    have htl := (scanT_bd hR).2.1
    have hb3 := hb2.alloc hb2.size (.cells #[.int .i64 0, .int .i64 0] 25)
    have ba := (Below.refl w2.heap.size w2).alloc (Nat.le_refl _) (.cells #[.int .i64 0, .int .i64 0] 25)
    have hr3 := hrw.keepB ba
    have he3 := he2.keepB ba
    have hF3 := Blk.new w2 25 #[.int .i64 0, .int .i64 0]
    clear hown hrw he2 hb2 ba hR
    unfold flt
    go_wp2_with fail
    refine (join_scan A c l ts _ HR.out hr3 he3).mono ?_
    rintro e w4 ⟨rfl, hbb⟩
    have hr4 := hr3.keepB hbb
    have he4 := he3.keepB hbb
    have hF4 := hF3.belowS hbb
    have hb4 := below_then hb3 hbb hb3.size
    clear hr3 he3 hF3 hb3 hbb
    cases hj : joined (ts.map kt) with
    | none =>
      rw [hj] at hsa
      have hlong : 800 < l.length := hsa
      have hjr : joinR ts = ([], 14, -1) := by unfold joinR; rw [hj]
      rw [hjr]
      clear hjr hj hsa
      have hb5 := hb4.alloc hb4.size (.cells #[.int .i64 14, .int .i64 (-1)] 25)
      have hG := Blk.new w4 25 #[.int .i64 14, .int .i64 (-1)]
      unfold flt
      go_wp2_with fail
      obtain ⟨W5, hW5⟩ : ∃ W5, w4.alloc (.cells #[.int .i64 (14), .int .i64 (-1)] 25) = W5 := ⟨_, rfl⟩
      obtain ⟨r, hr⟩ : ∃ r, w4.heap.size = r := ⟨_, rfl⟩
      rw [hW5] at hb5 hG ⊢
      rw [hr] at hG ⊢
      clear hW5 hr
      have GG := hG.grows
      have hat : ∀ d os, Calls Tryd.prog 9 #[.int .i64 14, .int .i64 (-1)] (grow (redrawn W5 d) os) (fun e w'' => e = .returned (.agg #[.int .i64 14, .int .i64 (-1)]) ∧ ∃ p : Regrown, w'' = grow (redrawn W5 p.d) p.os) := fun d os => Calls.regrown_of (at_any 14 (-1) (grow (redrawn W5 d) os))
      have HAT := Lib.hid hat
      clear hat
      refine wp_region_quiet_below (by kernel_rfl) (by kernel_rfl) ?_
      repeat (first | go_big_quiet_step (exact HAT.out _ _) | quiet_step (exact HAT.out _ _))
      refine wpQuiet_nil ?_
      intro _ hwq
      obtain ⟨⟨dq, osq⟩, hwq'⟩ := hwq
      subst hwq'
      have hbD := below_regrown W5 dq osq
      have hb6 := below_then hb5 hbD hb5.size
      generalize grow (redrawn W5 dq) osq = W6 at hb6 ⊢
      clear hb5 hG GG HAT hbD
      have c1 : (800 : Int) < (l.length : Int) := by omega
      go_wp2_with fail
      go_ret
      refine ⟨ret_bool ?_, hb6⟩
      simp [ByteArray.size]
    | some u =>
      rw [hj] at hsa
      obtain ⟨hul, ms, hms, hmk⟩ := hsa
      have hjr : joinR ts = (u, 0, 0) := by unfold joinR; rw [hj]; dsimp only; rw [hms]; dsimp only; rw [sameL_map hmk]; rfl
      rw [hjr]
      clear hjr hj
      have HMK := Lib.hid hmk
      have HMS := Lib.hid hms
      clear hmk hms
      have hb5 := hb4.alloc hb4.size (.cells #[.int .i64 0, .int .i64 0] 25)
      have hG := Blk.new w4 25 #[.int .i64 0, .int .i64 0]
      unfold flt
      go_wp2_with fail
      have hrow := hr4.keepB ((Below.refl _ w4).alloc (Nat.le_refl _) (.cells #[.int .i64 0, .int .i64 0] 25))
      have hF5 := hF4.alloc (.cells #[.int .i64 0, .int .i64 0] 25)
      have he5 := he4.keepB ((Below.refl _ w4).alloc (Nat.le_refl _) (.cells #[.int .i64 0, .int .i64 0] 25))
      clear hr4 hF4 he4 hb4
      obtain ⟨W5, hW5⟩ : ∃ W5, w4.alloc (.cells #[.int .i64 (0), .int .i64 (0)] 25) = W5 := ⟨_, rfl⟩
      obtain ⟨r, hr⟩ : ∃ r, w4.heap.size = r := ⟨_, rfl⟩
      rw [hW5] at hb5 hG hrow hF5 he5 ⊢
      rw [hr] at hG ⊢
      clear hW5 hr
      have GG := hG.grows
      have hat : ∀ d os, Calls Tryd.prog 9 #[.int .i64 14, .int .i64 (-1)] (grow (redrawn W5 d) os) (fun e w'' => e = .returned (.agg #[.int .i64 14, .int .i64 (-1)]) ∧ ∃ p : Regrown, w'' = grow (redrawn W5 p.d) p.os) := fun d os => Calls.regrown_of (at_any 14 (-1) (grow (redrawn W5 d) os))
      have HAT := Lib.hid hat
      clear hat
      refine wp_region_quiet_below (by kernel_rfl) (by kernel_rfl) ?_
      repeat (first | go_big_quiet_step (exact HAT.out _ _) | quiet_step (exact HAT.out _ _))
      refine wpQuiet_nil ?_
      intro _ hwq
      obtain ⟨⟨dq, osq⟩, hwq'⟩ := hwq
      subst hwq'
      have hbD := below_regrown W5 dq osq
      have hb6 := below_then hb5 hbD hb5.size
      have hr6 := hrow.keepB hbD
      have hF6 := hF5.belowS hbD
      have hG6 := hG.belowS hbD
      have he6 := he5.keepB hbD
      dsimp only
      generalize grow (redrawn W5 dq) osq = W6 at hb6 hr6 hF6 hG6 he6 ⊢
      clear hb5 hG GG HAT hbD hrow hF5 he5
      go_wp2_with fail
      refine (scan_all u W6 (by omega) he6).mono ?_
      rintro e w7 ⟨hbb, hpost⟩
      rw [HMS.out] at hpost
      obtain ⟨vm, rfl, hown⟩ := hpost
      obtain ⟨B, d, rfl, _, _⟩ := own_form hown
      have hr7 := hr6.keepB hbb
      have hG7 := hG6.belowS hbb
      have hb7 := below_then hb6 hbb hb6.size
      have hm7 := Row.of_own hown
      have hb8 := hb7.alloc hb7.size (.cells #[.int .i64 0, .int .i64 0] 25)
      have ba := (Below.refl w7.heap.size w7).alloc (Nat.le_refl _) (.cells #[.int .i64 0, .int .i64 0] 25)
      have hr8 := hr7.keepB ba
      have hm8 := hm7.keepB ba
      have hlen : ms.length = ts.length := by simpa using congrArg List.length HMK.out
      have hne : ((ts.length : Int) != (ms.length : Int)) = false := by simp [hlen]
      have HL := Lib.hid hlen
      obtain ⟨q1, q2, q3⟩ := hG7.rules
      clear hbb hown hr6 hF6 hG6 he6 hb6 hm7 hr7 ba hlen
      unfold flt
      go_wp2_with fail
      obtain ⟨w8, hw8⟩ : ∃ w8, w7.alloc (.cells #[.int .i64 0, .int .i64 0] 25) = w8 := ⟨_, rfl⟩
      rw [hw8] at hb8 hr8 hm8 ⊢
      clear hw8 q1 q2 q3 hG7 hb7
      go_loopw [51] (fun i wr => ∃ k : Nat, k ≤ ts.length ∧ i = .int .i64 (k : Int) ∧ RowKit.Below w8.heap.size w8 wr) (fun i _ => ts.length - (RowKit.intOf i).toNat)
      case atStart => exact ⟨0, Nat.zero_le _, rfl, Below.refl _ _⟩
      case round =>
        obtain ⟨k, hk, rfl, hbr⟩ := hrel
        by_cases hlt : k < ts.length
        · have hlt' : k < ms.length := by rw [HL.out]; exact hlt
          obtain ⟨b1, o1, s, rfl, had1, H1, a1, a2, a3, a4⟩ := (hr8.keepB hbr).tok hlt
          obtain ⟨b2, o2, t, rfl, had2, H2, c1, c2, c3, c4⟩ := (hm8.keepB hbr).tok hlt'
          obtain ⟨hk1, hk2⟩ := map_at HMK.out H1.out H2.out
          rw [← hk1] at c1
          rw [← hk2] at c2
          have i1 : (k : Int) < ts.length := by omega
          have i2 : (k : Int) < ms.length := by omega
          have e1 : (s.kind != s.kind) = false := by simp
          have e2 : (s.text != s.text) = false := by simp
          clear hk1 hk2 hr8 hm8
          go_wp2_with fail
          go_quiet (fail)
          go_wp2_with fail
          go_roundw
          case rel => exact ⟨k + 1, by omega, by go_num, below_drewN hbr _⟩
          case measure => simp [RowKit.intOf]; omega
        · go_wp2_with fail
          go_ret
          exact ⟨rfl, below_then hb8 hbr hb8.size⟩

end Go.Proofs.YtjoeojdciogcgaaDoor
