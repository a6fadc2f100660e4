/- The law SourceShowsExcerpts: its walk. Nothing is claimed here. -/
import Derived.Test.YtfocggdplahnbaaDoorRefX
namespace Go.Proofs.YtfocggdplahnbaaDoor
open Go.RowKit Go.Shelf Go.Lib

/-- what both excerpts are -/
def exRes (l : List UInt8) (line col width : Int) : List UInt8 × (Int × Int) :=
  if (offOf l line col).2.1 ≠ 0 then ([], (offOf l line col).2)
  else if width < 20 ∨ 200 < width then ([], (4, -4))
  else (exText ((splitB 10 l)[(line - 1).toNat]?.getD []) (col - 1).toNat width, (0, 0))
theorem ExPost.eq {l : List UInt8} {line col width : Int} {w w' : World} {e : Ending} (h : ExPost l line col width w e w') :
    e = .returned (.tuple #[.string ⟨(exRes l line col width).1.toArray⟩, flt (exRes l line col width).2.1 (exRes l line col width).2.2]) ∧ Below w.heap.size w w' := by
  obtain ⟨h1, h2, h3, hb⟩ := h
  refine ⟨?_, hb⟩
  unfold exRes
  by_cases hc : (offOf l line col).2.1 = 0
  · rw [if_neg (by simpa using hc)]
    by_cases hw : width < 20 ∨ 200 < width
    · rw [if_pos hw]
      exact h2 hc hw
    · rw [if_neg hw]
      obtain ⟨hz, ho, q, x, t, hsp, hln, m, hcm, hm, _⟩ := offOf_ok l line col hc
      have e1 : (line - 1).toNat = q.length := by omega
      have e2 : (col - 1).toNat = m := by omega
      have e3 : (splitB 10 l)[(line - 1).toNat]?.getD [] = x := by rw [e1, hsp, List.getElem?_append_right (Nat.le_refl _)]; simp
      rw [e3, e2]
      exact h3 hc hw q x t m hsp hln hcm
  · rw [if_pos hc]
    exact h1 hc

set_option maxRecDepth 100000 in
set_option maxHeartbeats 4000000 in
/-- the law's walk -/
theorem shows_any (l : List UInt8) (line col width : Int) (w : World) (hl : l.length ≤ 1048576) (g1 : -9223372036854775808 ≤ line) (g2 : line ≤ 9223372036854775807) (g3 : -9223372036854775808 ≤ col) (g4 : col ≤ 9223372036854775807)
    (g5 : -9223372036854775808 ≤ width) (g6 : width ≤ 9223372036854775807) (hT : Tabs w) :
    Calls Tryd.prog 5 #[.string ⟨l.toArray⟩, .int .i64 line, .int .i64 col, .int .i64 width] w fun e w' => e = .returned (.bool true) ∧ Below w.heap.size w w' := by
  have HG := Lib.hid (And.intro g1 (And.intro g2 (And.intro g3 (And.intro g4 (And.intro g5 g6)))))
  obtain ⟨S, c, i, hs⟩ : ∃ S c i, exRes l line col width = (S, (c, i)) := ⟨_, _, _, rfl⟩
  have HS := Lib.hid hs
  clear hs g1 g2 g3 g4 g5 g6
  go_enter Tryd.func5, Tryd.ntmps5
  go_wp2_with fail
  refine (places_any _ hT).mono ?_
  rintro e w1 ⟨rfl, hb1⟩
  have hT1 := hT.keepB hb1
  go_wp2_with fail
  refine (excerpt_any l line col width _ (by omega) HG.out.1 HG.out.2.1 HG.out.2.2.1 HG.out.2.2.2.1 HG.out.2.2.2.2.1 HG.out.2.2.2.2.2 hT1).mono ?_
  intro e w2 hx
  obtain ⟨rfl, hb2⟩ := hx.eq
  clear hx
  rw [HS.out]
  have hT2 := hT1.keepB hb2
  have hb3 := below_then hb1 hb2 hb1.size
  clear hb1 hb2 hT1
  unfold flt
  go_wp2_with fail
  refine (excerptOf_any l line col width _ hl HG.out.1 HG.out.2.1 HG.out.2.2.1 HG.out.2.2.2.1 (hT2.keepB ((Below.refl _ w2).alloc (Nat.le_refl _) _))).mono ?_
  intro e w4 hx
  obtain ⟨rfl, hb4⟩ := hx.eq
  clear hx
  rw [HS.out]
  have B1 := keep_new hb4
  have hb5 := below_then (hb3.alloc hb3.size _) hb4 (by have := hb3.size; simp; omega)
  clear hb3 hb4 hT2
  unfold flt
  obtain ⟨q1, q2, q3⟩ := B1.rules
  go_wp2_with fail
  go_ret
  exact ⟨rfl, hb5.alloc hb5.size _⟩

end Go.Proofs.YtfocggdplahnbaaDoor
