/- The law TokenJoinsTokens: its walk. Nothing is claimed here. -/
import Derived.Test.YtjoeojdciogcgaaDoorTokW
import Derived.Test.YtjoeojdciogcgaaDoorRefJ
namespace Go.Proofs.YtjoeojdciogcgaaDoor
open Go.RowKit Go.Shelf Go.Lib Go.Maps Go.Sort
set_option linter.unusedVariables false

set_option maxRecDepth 1000000 in
set_option maxHeartbeats 8000000 in
theorem joinsLaw_any (A : Option Addr) (c : Nat) (l : List Tok) (w : World) (hl : l.length ≤ 5000000) (ht : ∀ t ∈ l, t.text.length ≤ 100000000) (hr : Row w A (l.flatMap tokc)) (he : Env w) (hm : Lim w) :
    Calls Tryd.prog 4 #[.slice A l.length c] w fun e w' => e = .returned (.bool true) ∧ RowKit.Below w.heap.size w w' := by
  go_enter Tryd.func4, Tryd.ntmps4
  go_wp2_with fail
  refine (scans_any w he).mono ?_
  rintro e w1 ⟨rfl, hb1⟩
  have he1 := he.keepB hb1
  have hm1 := hm.keepB hb1
  have hr1 := hr.keepB hb1
  clear he hm hr
  go_wp2_with fail
  refine (join_any A c l w1 hl ht hr1 he1 (fun _ _ _ _ h => scanT_err h)).mono ?_
  rintro e w2 ⟨rfl, ba⟩
  have he2 := he1.keepB ba
  have hm2 := hm1.keepB ba
  have hr2 := hr1.keepB ba
  have hb2 := below_then hb1 ba hb1.size
  clear ba he1 hm1 hr1 hb1
  obtain ⟨⟨u, ce, ie⟩, hR⟩ : ∃ R, joinR l = R := ⟨_, rfl⟩
  have HR := Lib.hid hR
  rw [hR]
  clear hR
  dsimp only
  have hF3 := Blk.new w2 25 #[.int .i64 ce, .int .i64 ie]
  have ba := (Below.refl w2.heap.size w2).alloc (Nat.le_refl _) (.cells #[.int .i64 ce, .int .i64 ie] 25)
  have he3 := he2.keepB ba
  have hm3 := hm2.keepB ba
  have hr3 := hr2.keepB ba
  have hb3 := hb2.alloc hb2.size (.cells #[.int .i64 ce, .int .i64 ie] 25)
  clear ba he2 hm2 hr2 hb2
  unfold flt
  go_wp2_with fail
  refine (joined_any A c l _ hl ht hr3 he3.1 hm3 (fun _ _ _ _ h => scanT_err h)).mono ?_
  rintro e w4 ⟨rfl, ba⟩
  rw [HR.out]
  dsimp only
  have hF4 := hF3.belowS ba
  have hb4 := below_then hb3 ba hb3.size
  clear ba he3 hm3 hr3 hb3 hF3
  have hF5 := hF4.alloc (.cells #[.int .i64 ce, .int .i64 ie] 25)
  have hG5 := Blk.new w4 25 #[.int .i64 ce, .int .i64 ie]
  have hb5 := hb4.alloc hb4.size (.cells #[.int .i64 ce, .int .i64 ie] 25)
  obtain ⟨q1, q2, q3⟩ := hF5.rules
  obtain ⟨p1, p2, p3⟩ := hG5.rules
  have c1 : (ce == ce) = true := by simp
  have c2 : (ie == ie) = true := by simp
  have c3 : (u == u) = true := by simp
  unfold flt
  go_wp2_with fail
  go_ret
  exact ⟨rfl, hb5⟩

end Go.Proofs.YtjoeojdciogcgaaDoor
