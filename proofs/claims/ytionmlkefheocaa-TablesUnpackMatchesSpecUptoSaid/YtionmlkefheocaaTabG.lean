/- Walks: the reference's packing of tables of lines. Nothing is claimed here. -/
import Derived.Test.YtionmlkefheocaaTabF
namespace Go.Proofs.Ytionmlkefheocaa
open Go.RowKit
set_option linter.unusedVariables false

def BytesPost (l : List Int) (w : World) (e : Ending) (w' : World) : Prop :=
  ∃ A c, e = .returned (.slice A l.length c) ∧ Row w' A (bcs l) ∧ Below w.heap.size w w'

theorem at_ne {w : World} {g : Nat} {r s : Option Nat} (h : s = r ∨ s = some w.heap.size) (hne : some g ≠ r) (hg : g < w.heap.size) : some g ≠ s := by
  rcases h with h | h
  · rw [h]; exact hne
  · rw [h]; intro e; injection e with e; omega

theorem bcs_one (l : List Int) : ∀ u ∈ bcs l, u.oneCell' = true := by
  intro u hu
  simp [bcs] at hu
  obtain ⟨x, _, rfl⟩ := hu
  rfl

def PackedRel (l : List Mark) (w : World) (v i : Value) (wr : World) : Prop :=
  ∃ (k : Nat) (p a b : Int) (d : List Int), k ≤ l.length ∧ i = .int .i64 k ∧ packGo 0 0 l = d ++ packGo a b (l.drop k) ∧
    wr.ownsRow (w.heap.size + 1) 5 1 v d.length (bcs d) ∧ d.length ≤ 6 * k ∧ 0 ≤ a ∧ a ≤ p + 1 ∧ 0 ≤ b ∧ b ≤ 16000 ∧ okL p (l.drop k) ∧ Below w.heap.size w wr ∧ Blk wr w.heap.size 38 #[.int .i64 a, .int .i64 b]

set_option maxHeartbeats 1000000 in
theorem packedMarks_any (A : Option Addr) (c : Nat) (l : List Mark) (w : World) (hm : Row w A (l.flatMap mkc)) (hf : Hid (marksFault l = (0, 0))) :
    Calls Try.prog 13 #[.slice A l.length c] w (BytesPost (packGo 0 0 l) w) := by
  obtain ⟨hok, hl⟩ := okL_marks hf.out
  obtain ⟨i0, hi, hz0, hz1, hz2⟩ := info_parts info_byte
  go_enter Try.func13, Try.ntmps13
  go_wp2_with fail
  go_loopw [3, 10] (fun v i wr => PackedRel l w v i wr) (fun _ i _ => l.length - (intOf i).toNat)
  case atStart => exact ⟨0, -1, 0, 0, [], Nat.zero_le _, rfl, rfl, World.ownsRow_nil _ _ _ _, by simp, by omega, by omega, by omega, by omega, hok, (Below.refl _ _).alloc (Nat.le_refl _) _, Blk.new _ _ _⟩
  case round =>
    obtain ⟨k, p, a, b, d, hk, rfl, he, hown, hd, a1, a2, b1, b2, hokk, hb0, hB⟩ := hrel
    have He := Lib.hid he
    clear he
    obtain ⟨hr, hfr, hsz⟩ := hB.rules
    by_cases hlt : k < l.length
    · obtain ⟨bb, off, rfl, had, h1, h2⟩ := (hm.keepB hb0).mark hlt
      rw [drop_cons hlt] at hokk
      obtain ⟨o1, o2, o3, o4, o5, o6⟩ := hokk
      have O6 := Lib.hid o6
      clear o6
      have hne : some wr.heap.size ≠ u3.ownBlock := fun e => by have := hown.lt _ e.symm; omega
      have hne0 : some w.heap.size ≠ u3.ownBlock := fun e => by have := hown.lt _ e.symm; omega
      have hl3 := sp_len (l[k].1 - a)
      have hl4 := sp_len (foldI (l[k].2 - b))
      have w1 : IntKind.i64.wrap (l[k].1 - a) = l[k].1 - a := IntWalk.i64_in _ (by omega)
      have w2 : IntKind.i64.wrap (l[k].2 - b) = l[k].2 - b := IntWalk.i64_in _ (by omega)
      go_wp2_with fail
      have W0 : (wr.alloc (.cells #[.int .i64 l[k].1, .int .i64 l[k].2] 38)).drew.heap.size = wr.heap.size + 1 := by simp
      have hownA := (hown.alloc (.cells #[.int .i64 l[k].1, .int .i64 l[k].2] 38)).drew
      have d2 : ((wr.alloc (.cells #[.int .i64 l[k].1, .int .i64 l[k].2] 38)).drew).cell? ⟨w.heap.size, 0, none⟩ = some (.int .i64 a) := ((hB.alloc _).drew).cell 0
      have d3 : ((wr.alloc (.cells #[.int .i64 l[k].1, .int .i64 l[k].2] 38)).drew).cell? ⟨w.heap.size, 1, none⟩ = some (.int .i64 b) := ((hB.alloc _).drew).cell 1
      have D2 := Lib.hid d2
      have D3 := Lib.hid d3
      clear d2 d3
      have HA := Lib.hid hownA
      have HW := Lib.hid W0
      have o7 : foldI (l[k].2 - b) < 2097152 := by unfold foldI; split <;> omega
      clear hownA W0
      have hob : ∀ u ∈ bcs (sp (l[k].1 - a)), u.oneCell' = true := bcs_one _
      have hob2 : ∀ u ∈ bcs (sp (foldI (l[k].2 - b))), u.oneCell' = true := bcs_one _
      go_region_held3 (fun w' => w'.cell? ⟨wr.heap.size, 0, none⟩ = some (.int .i64 l[k].1) ∧ w'.cell? ⟨wr.heap.size, 1, none⟩ = some (.int .i64 l[k].2) ∧ w'.cell? ⟨w.heap.size, 0, none⟩ = some (.int .i64 a) ∧ w'.cell? ⟨w.heap.size, 1, none⟩ = some (.int .i64 b))
        (first | go_keep)
        (first
          | (go_at_call 34
             refine (septets_any _ _ (by omega) (by omega)).mono ?_
             rintro e w3 ⟨v3, rfl, hown3, hb3⟩
             obtain ⟨A3, c3, rfl, hr3, hc3⟩ := own_form hown3
             have hu3 := own_belowS HA.out hb3
             have hz3 := hb3.size
             rw [HW.out] at hz3
             have e0 : w3.cell? ⟨wr.heap.size, 0, none⟩ = some (.int .i64 l[k].1) := (hb3.cell (p := ⟨wr.heap.size, 0, none⟩) (by simp)).trans (by simp)
             have e1 : w3.cell? ⟨wr.heap.size, 1, none⟩ = some (.int .i64 l[k].2) := (hb3.cell (p := ⟨wr.heap.size, 1, none⟩) (by simp)).trans (by simp)
             have e2 : w3.cell? ⟨w.heap.size, 0, none⟩ = some (.int .i64 a) := (hb3.cell (p := ⟨w.heap.size, 0, none⟩) (by simp; omega)).trans D2.out
             have e3 : w3.cell? ⟨w.heap.size, 1, none⟩ = some (.int .i64 b) := (hb3.cell (p := ⟨w.heap.size, 1, none⟩) (by simp; omega)).trans D3.out)
          | (refine step_append_row w3 (by rfl) (.tmp 14) (.tmp 20) 29 (by rfl) (w.heap.size + 1) 5 i0 (.int .u8 0) 1 1 Try.underlying29 hi hz0 hz1 hz2 rfl (by decide) u3 d.length (bcs d) (by rfl) hu3 A3 _ c3 (bcs (sp (l[k].1 - a))) (by rfl) (by simp [bcs]) hr3 hob (by unfold maxLen; omega) (by omega) (by omega) ?_
             intro v4 w4 hown4 hg4 hat4
             have f0 := hg4.cell e0 hne
             have f1 := hg4.cell e1 hne
             have f2 := hg4.cell e2 hne0
             have f3 := hg4.cell e3 hne0)
          | (go_at_call 35
             refine (signedSeptets_any _ _ (by omega) (by omega)).mono ?_
             rintro e w5 ⟨v5, rfl, hown5, hb5⟩
             obtain ⟨A5, c5, rfl, hr5, hc5⟩ := own_form hown5
             have hz5 := hb5.size
             have g0 : w5.cell? ⟨wr.heap.size, 0, none⟩ = some (.int .i64 l[k].1) := (hb5.cell (World.block_lt_of_cell? _ _ f0)).trans f0
             have g1 : w5.cell? ⟨wr.heap.size, 1, none⟩ = some (.int .i64 l[k].2) := (hb5.cell (World.block_lt_of_cell? _ _ f1)).trans f1
             have g2 : w5.cell? ⟨w.heap.size, 0, none⟩ = some (.int .i64 a) := (hb5.cell (World.block_lt_of_cell? _ _ f2)).trans f2
             have g3 : w5.cell? ⟨w.heap.size, 1, none⟩ = some (.int .i64 b) := (hb5.cell (World.block_lt_of_cell? _ _ f3)).trans f3)
          | (refine step_append_row w5 (by rfl) (.tmp 21) (.tmp 27) 29 (by rfl) (w.heap.size + 1) 5 i0 (.int .u8 0) 1 1 Try.underlying29 hi hz0 hz1 hz2 rfl (by decide) v4 _ _ (by rfl) (own_belowS hown4 hb5) A5 _ c5 (bcs (sp (foldI (l[k].2 - b)))) (by rfl) (by simp [bcs]) hr5 hob2 (by unfold maxLen; omega) (by omega) (by have := hg4.size; omega) ?_
             intro v6 w6 hown6 hg6 hat6
             have k0 := hg6.cell g0 (at_ne hat4 hne (World.block_lt_of_cell? _ _ e0))
             have k1 := hg6.cell g1 (at_ne hat4 hne (World.block_lt_of_cell? _ _ e1))
             have k2 := hg6.cell g2 (at_ne hat4 hne0 (World.block_lt_of_cell? _ _ e2))
             have k3 := hg6.cell g3 (at_ne hat4 hne0 (World.block_lt_of_cell? _ _ e3)))
          | fail)
      have HO := Lib.hid hown6
      have hb3' : Below w.heap.size w w3 := below_then ((hb0.alloc hb0.size (.cells #[.int .i64 l[k].1, .int .i64 l[k].2] 38)).drew) hb3 (by rw [HW.out]; omega)
      have hb4 := hb3'.grown hg4 hb3'.size (fun g e => by have := hown.lt g e; omega)
      have hb5' := below_then hb4 hb5 hb4.size
      have hb6 := hb5'.grown hg6 hb5'.size (fun g e => by have := hown4.lt g e; omega)
      have hB6 : Blk w6 w.heap.size 38 #[.int .i64 a, .int .i64 b] := ((((((hB.alloc _).drew).belowS hb3).grown hg4 hne0).belowS hb5).grown hg6 (at_ne hat4 hne0 (World.block_lt_of_cell? _ _ e2)))
      have hz6 := hb6.size
      obtain ⟨q1, q2, q3⟩ := hB6.rules
      clear hown hown3 hown4 hown5 hown6 hg4 hg6 hat4 hat6 hb3 hb5 e0 e1 e2 e3 f0 f1 f2 f3 g0 g1 g2 g3 k2 k3 hu3 HA HW D2 D3 hob hob2 w1 w2 h1 h2 hr hfr hr3 hr5 hB
      go_wp2_with fail
      go_roundw
      case rel =>
        refine ⟨k + 1, l[k].1, l[k].1, l[k].2, d ++ (sp (l[k].1 - a) ++ sp (foldI (l[k].2 - b))), by omega, by go_num, ?_, ?_, ?_, o2, by omega, by omega, o5, O6.out, (hb6.setCell (Nat.le_refl _) _).setCell (Nat.le_refl _) _, (hB6.set_ 0 _).set_ 1 _⟩
        · rw [He.out, drop_cons hlt, packGo]; simp
        · have := ownsRow_setCell_below (ownsRow_setCell_below HO.out (a := ⟨w.heap.size, 0, none⟩) (by simp) (.int .i64 l[k].1)) (a := ⟨w.heap.size, 1, none⟩) (by simp) (.int .i64 l[k].2)
          simpa [bcs, Nat.add_assoc] using this
        · simp; omega
      case measure => simp [intOf]; omega
    · obtain ⟨Av, cv, rfl, hrow, hc⟩ := own_form hown
      go_wp2_with fail
      go_ret
      have e : packGo 0 0 l = d := by rw [He.out, List.drop_of_length_le (by omega), packGo, List.append_nil]
      rw [e]
      exact ⟨Av, cv, rfl, hrow, hb0⟩

end Go.Proofs.Ytionmlkefheocaa
