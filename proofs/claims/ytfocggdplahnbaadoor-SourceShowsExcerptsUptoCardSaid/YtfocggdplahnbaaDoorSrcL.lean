/- The examples of package source, and the law that places lead back: its walk. Nothing is claimed here. -/
import Derived.Test.YtfocggdplahnbaaDoorSrcK
namespace Go.Proofs.YtfocggdplahnbaaDoor
open Go.RowKit Go.Shelf Go.Lib

def exl : List UInt8 := [97, 10, 98, 99]
theorem ex_s : sfault exl = (0, 0) := by decide +kernel
theorem ex_n : lineN exl = 2 := by decide +kernel
theorem ex_p : posOf exl 3 = ((2, 2), (0, 0)) := by decide +kernel
theorem ex_o : offOf exl 2 2 = (3, (0, 0)) := by decide +kernel
theorem ex_x : exText [98, 99] 1 20 = [98, 99, 10, 32, 94] := by decide +kernel
theorem ex_l : splitB 10 exl = [[97]] ++ [98, 99] :: [] := by decide +kernel

theorem keep_new {w w' : World} {t : TypeId} {cs : Array Value} (hb : Below (w.alloc (.cells cs t)).heap.size (w.alloc (.cells cs t)) w') : Blk w' w.heap.size t cs := (Blk.new w t cs).belowS hb

set_option maxRecDepth 100000 in
set_option maxHeartbeats 1000000 in
theorem places_any (w : World) (hT : Tabs w) : Calls Tryd.prog 6 #[] w fun e w' => e = .returned (.bool true) ∧ Below w.heap.size w w' := by
  go_enter Tryd.func6, Tryd.ntmps6
  go_wp2_with fail
  refine (lines_any exl _ (by decide) hT).mono ?_
  rintro e w1 ⟨rfl, hb1⟩
  rw [ex_n, ex_s]
  have hT1 := (hT.keepB hb1).keepB ((Below.refl _ w1).alloc (Nat.le_refl _) (.cells #[.int .i64 0, .int .i64 0] 24))
  unfold flt
  go_wp2_with fail
  refine (position_any exl 3 _ (by decide) (by omega) (by omega) hT1).mono ?_
  rintro e w2 ⟨rfl, hb2⟩
  rw [ex_p]
  have B1 := keep_new hb2
  have hT2 := (hT1.keepB hb2).keepB ((Below.refl _ w2).alloc (Nat.le_refl _) (.cells #[.int .i64 0, .int .i64 0] 24))
  have hb2' : Below w.heap.size w w2 := below_then (hb1.alloc hb1.size _) hb2 (by have := hb1.size; simp; omega)
  clear hb2 hT1
  unfold flt
  go_wp2_with fail
  refine (offset_any exl 2 2 _ (by decide) (by omega) (by omega) (by omega) (by omega) hT2).mono ?_
  rintro e w3 ⟨rfl, hb3⟩
  rw [ex_o]
  have B2 := keep_new hb3
  have B1' := (B1.alloc (.cells #[.int .i64 0, .int .i64 0] 24)).belowS hb3
  have hT3 := (hT2.keepB hb3).keepB ((Below.refl _ w3).alloc (Nat.le_refl _) (.cells #[.int .i64 0, .int .i64 0] 24))
  have hb3' : Below w.heap.size w w3 := below_then (hb2'.alloc hb2'.size _) hb3 (by have := hb2'.size; simp; omega)
  clear hb3 hT2 B1
  unfold flt
  go_wp2_with fail
  refine (excerpt_any exl 2 2 20 _ (by decide) (by omega) (by omega) (by omega) (by omega) (by omega) (by omega) hT3).mono ?_
  rintro e w4 ⟨_, _, hx, hb4⟩
  have he := hx (by rw [ex_o]) (by omega) _ _ _ 1 ex_l rfl rfl
  rw [ex_x] at he
  subst he
  have B3 := keep_new hb4
  have B2' := (B2.alloc (.cells #[.int .i64 0, .int .i64 0] 24)).belowS hb4
  have B1'' := (B1'.alloc (.cells #[.int .i64 0, .int .i64 0] 24)).belowS hb4
  have hb4' : Below w.heap.size w w4 := below_then (hb3'.alloc hb3'.size _) hb4 (by have := hb3'.size; simp; omega)
  clear hb4 hT3 B2 B1' hx
  obtain ⟨x1, x2, x3⟩ := B1''.rules
  obtain ⟨y1, y2, y3⟩ := B2'.rules
  obtain ⟨z1, z2, z3⟩ := B3.rules
  unfold flt
  go_wp2_with fail
  go_ret
  exact ⟨rfl, hb4'.alloc hb4'.size _⟩

theorem posOf_range (l : List UInt8) (o : Int) (h : (posOf l o).2.1 = 0) (hl : l.length ≤ 9223372036854775807) : 1 ≤ (posOf l o).1.1 ∧ (posOf l o).1.1 ≤ 16001 ∧ 1 ≤ (posOf l o).1.2 ∧ (posOf l o).1.2 ≤ 16001 := by
  obtain ⟨hle, cs, rfl, hcs⟩ := chars_of l (pos_sf l o h)
  obtain ⟨_, hz, k, hk, _, hp⟩ := pos_at cs hcs o h
  have h1 := place_bytes (cs.take k) (fun c hc => hcs c (List.mem_of_mem_take hc))
  rw [hp, ← h1.1, ← h1.2]
  have hlen : (cs.take k).flatten.length ≤ cs.flatten.length := by rw [← take_flatten cs k, List.length_take]; omega
  have h2 := List.count_le_length (a := (10 : UInt8)) (l := (cs.take k).flatten)
  have h3 := rcl_le (tailNl (cs.take k).flatten)
  have h4 : (tailNl (cs.take k).flatten).length ≤ (cs.take k).flatten.length := by unfold tailNl; rw [List.length_drop]; omega
  omega

/-- the law in plain words -/
theorem back_plain (l : List UInt8) (a b : Int) (ha : (posOf l a).2.1 = 0) (hb : (posOf l b).2.1 = 0) :
    offOf l (posOf l a).1.1 (posOf l a).1.2 = (a, (0, 0)) ∧ offOf l (posOf l b).1.1 (posOf l b).1.2 = (b, (0, 0)) ∧ (a < b → before (posOf l a).1 (posOf l b).1) := by
  obtain ⟨hle, cs, rfl, hcs⟩ := chars_of l (pos_sf l a ha)
  obtain ⟨_, hz, k, hk, hak, hp⟩ := pos_at cs hcs a ha
  obtain ⟨_, _, j, hj, hbj, hq⟩ := pos_at cs hcs b hb
  have h1 := off_place cs hcs hz k hk
  have h2 := off_place cs hcs hz j hj
  rw [hp, hq, h1, h2]
  refine ⟨by rw [hak], by rw [hbj], fun hlt => before_take cs k j ?_ hj⟩
  rcases Nat.lt_or_ge k j with h | h
  · exact h
  · exfalso
    have : (cs.take j).flatten.length ≤ (cs.take k).flatten.length := by
      have e : cs.take j = (cs.take k).take j := by rw [List.take_take, Nat.min_eq_left h]
      rw [e, ← take_flatten (cs.take k) j, List.length_take]
      omega
    omega

set_option maxRecDepth 100000 in
set_option maxHeartbeats 1000000 in
theorem back_any (l : List UInt8) (a b : Int) (w : World) (hl : l.length ≤ 9223372036854775807) (g1 : -9223372036854775808 ≤ a) (g2 : a ≤ 9223372036854775807) (g3 : -9223372036854775808 ≤ b) (g4 : b ≤ 9223372036854775807) (hT : Tabs w) :
    Calls Tryd.prog 3 #[.string ⟨l.toArray⟩, .int .i64 a, .int .i64 b] w fun e w' => e = .returned (.bool true) ∧ Below w.heap.size w w' := by
  obtain ⟨p1, p2, c1, i1, hp⟩ : ∃ p1 p2 c1 i1, posOf l a = ((p1, p2), (c1, i1)) := ⟨_, _, _, _, rfl⟩
  obtain ⟨r1, r2, c2, i2, hr⟩ : ∃ r1 r2 c2 i2, posOf l b = ((r1, r2), (c2, i2)) := ⟨_, _, _, _, rfl⟩
  have hc1 := pos_code l a
  have hc2 := pos_code l b
  have hg1 := posOf_range l a
  have hg2 := posOf_range l b
  have hpl := back_plain l a b
  rw [hp] at hc1 hg1 hpl
  rw [hr] at hc2 hg2 hpl
  simp only at hc1 hc2 hg1 hg2 hpl
  have HP := Lib.hid hp
  have HR := Lib.hid hr
  have HG1 := Lib.hid hg1
  have HG2 := Lib.hid hg2
  have HPL := Lib.hid hpl
  obtain ⟨u1, u2⟩ := hc1
  obtain ⟨u3, u4⟩ := hc2
  clear hp hr hg1 hg2 hpl
  go_enter Tryd.func3, Tryd.ntmps3
  go_wp2_with fail
  refine (places_any _ hT).mono ?_
  rintro e w1 ⟨rfl, hb1⟩
  have hT1 := hT.keepB hb1
  go_wp2_with fail
  refine (position_any l a _ hl g1 g2 hT1).mono ?_
  rintro e w2 ⟨rfl, hb2⟩
  rw [HP.out]
  have hb2' := below_then hb1 hb2 hb1.size
  have hT2 := (hT1.keepB hb2).keepB ((Below.refl _ w2).alloc (Nat.le_refl _) (.cells #[.int .i64 c1, .int .i64 i1] 24))
  clear hb1 hb2 hT1
  unfold flt
  go_wp2_with fail
  refine (position_any l b _ hl g3 g4 hT2).mono ?_
  rintro e w3 ⟨rfl, hb3⟩
  rw [HR.out]
  have B1 := keep_new hb3
  have hb3' : Below w.heap.size w w3 := below_then (hb2'.alloc hb2'.size _) hb3 (by have := hb2'.size; simp; omega)
  have hT3 := (hT2.keepB hb3).keepB ((Below.refl _ w3).alloc (Nat.le_refl _) (.cells #[.int .i64 c2, .int .i64 i2] 24))
  clear hb2' hb3 hT2
  unfold flt
  obtain ⟨x1, x2, x3⟩ := B1.rules
  by_cases hz : c1 + c2 = 0
  · have z1 : c1 = 0 := by omega
    have z2 : c2 = 0 := by omega
    obtain ⟨q1, q2, q3⟩ := HPL.out z1 z2
    have G1 := HG1.out z1 hl
    have G2 := HG2.out z2 hl
    subst z1 z2
    have Q1 := Lib.hid q1
    have Q2 := Lib.hid q2
    have Q3 := Lib.hid q3
    clear hz q1 q2 q3 HPL HG1 HG2
    obtain ⟨v1, v2, v3, v4⟩ := G1
    obtain ⟨v5, v6, v7, v8⟩ := G2
    go_wp2_with fail
    refine (offset_any l p1 p2 _ hl (by omega) (by omega) (by omega) (by omega) hT3).mono ?_
    rintro e w4 ⟨rfl, hb4⟩
    rw [Q1.out]
    have hb4' : Below w.heap.size w w4 := below_then (hb3'.alloc hb3'.size _) hb4 (by have := hb3'.size; simp; omega)
    have hT4 := (hT3.keepB hb4).keepB ((Below.refl _ w4).alloc (Nat.le_refl _) (.cells #[.int .i64 0, .int .i64 0] 24))
    clear hb4 hT3 x1 x2 x3 B1 hb3'
    unfold flt
    go_wp2_with fail
    refine (offset_any l r1 r2 _ hl (by omega) (by omega) (by omega) (by omega) hT4).mono ?_
    rintro e w5 ⟨rfl, hb5⟩
    rw [Q2.out]
    have B4 := keep_new hb5
    have hb5' : Below w.heap.size w w5 := below_then (hb4'.alloc hb4'.size _) hb5 (by have := hb4'.size; simp; omega)
    clear hb5 hT4 hb4'
    unfold flt
    obtain ⟨x1, x2, x3⟩ := B4.rules
    by_cases hab : b ≤ a
    · go_wp2_with fail
      go_ret
      exact ⟨rfl, hb5'.alloc hb5'.size _⟩
    · have hbf := Q3.out (by omega)
      unfold before at hbf
      simp only at hbf
      by_cases h1 : p1 < r1
      · go_wp2_with fail
        go_ret
        exact ⟨rfl, hb5'.alloc hb5'.size _⟩
      · have h2 : p1 = r1 := by omega
        have h3 : p2 < r2 := by omega
        subst h2
        clear hbf
        go_wp2_with fail
        all_goals
          go_ret
          exact ⟨rfl, hb5'.alloc hb5'.size _⟩
  · have hzb : (c1 + c2 != 0) = true := by rw [bne_iff_ne]; exact hz
    clear hz
    go_wp2_with fail
    go_ret
    exact ⟨rfl, hb3'.alloc hb3'.size _⟩

end Go.Proofs.YtfocggdplahnbaaDoor
