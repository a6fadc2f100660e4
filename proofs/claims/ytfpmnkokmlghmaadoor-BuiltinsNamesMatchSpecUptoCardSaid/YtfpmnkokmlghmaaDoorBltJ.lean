/- The built-in names: the reference's value of a number. Nothing is claimed here. -/
import Derived.Test.YtfpmnkokmlghmaaDoorBltI
namespace Go.Proofs.YtfpmnkokmlghmaaDoor
open Go.RowKit Go.Lib Go.Shelf Go.Sort
set_option linter.unusedVariables false
attribute [local go_sem] steady

theorem row_cell {w : World} {A : Option Addr} {m : List Int} (h : Row w A (ints m)) {j : Nat} (hj : j < m.length) : ∃ b off z, A = some ⟨b, off, none⟩ ∧ w.cell? ⟨b, off + j, none⟩ = some (.int .i64 z) := by
  obtain ⟨b, off, e, hlt, hc⟩ := h.at_ (k := j) (by simpa [ints] using hj)
  exact ⟨b, off, m[j], e, hc j _ (by simp [ints, hj])⟩
set_option maxRecDepth 100000 in
set_option maxHeartbeats 4000000 in
theorem limbs_any {w : World} (A : Option Addr) (m : List Int) (k d : Nat) (hkm : k ≤ m.length) (hml : m.length ≤ 1000) (hr : Row w A (ints m)) :
    Calls Tryd.prog 96 #[.slice A k d] w fun e w' => (∃ (B : Option Addr) (n c : Nat), e = .returned (.slice B n c)) ∧ Below w.heap.size w w' := by
  obtain ⟨iu, hiu, huz0, huz1, huz2⟩ := info_parts info_u32
  obtain ⟨b, hbb⟩ : ∃ b, w.heap.size = b := ⟨_, rfl⟩
  have HB := Lib.hid hbb
  clear hbb
  go_enter Tryd.func96, Tryd.ntmps96
  go_wp2_with fail
  go_loopw [3, 4] (fun v i wr => ∃ (j n : Nat) (xs : List Value), j ≤ k + 2 ∧ i = .int .i64 (j : Int) ∧ n ≤ j ∧ wr.ownsRow b 63 1 v n xs ∧ Below b w wr) (fun _ i _ => k + 2 - (RowKit.intOf i).toNat)
  case atStart => exact ⟨0, 0, [], by omega, rfl, Nat.le_refl _, World.ownsRow_nil _ _ _ _, by rw [← HB.out]; exact Below.refl _ _⟩
  case round =>
    obtain ⟨j, n, xs, hj, rfl, hn, hown, hb⟩ := hrel
    have hbs := hb.size
    rw [HB.out] at hbs
    by_cases hlt : j < k
    · have hrw := hr.keepB (by rw [HB.out]; exact hb)
      obtain ⟨b0, off, z, rfl, hc0⟩ := row_cell hrw (j := j) (by omega)
      by_cases hlt2 : j + 1 < k
      · obtain ⟨b1, off1, z1, e1, hc1⟩ := row_cell hrw (j := j + 1) (by omega)
        simp only [Option.some.injEq, Addr.mk.injEq] at e1
        obtain ⟨rfl, rfl, _⟩ := e1
        go_wp2_with (at_builtin; refine wpList_append_own_at _ rfl (.tmp 31) (.tmp 33) 22 rfl b 63 iu _ 1 4 Tryd.underlying22 hiu huz0 huz1 huz2 rfl (by decide) _ _ _ rfl (hown.alloc _) ⟨wr.heap.size, 0, none⟩ 1 1 [_] rfl rfl (cell_one_new wr _ _) (by simp [Value.oneCell']) (by unfold maxLen; omega) (by omega) (by simp; omega) ?_; intro v2 w2 hown2 hg2 _ hat2)
        have hb2 := (hb.alloc hbs _).grown hg2 (by simp; omega) (fun g e => by have := hown.lt g e; omega)
        go_roundw
        case rel => exact ⟨j + 2, n + 1, _, by omega, by go_num, by omega, hown2, hb2⟩
        case measure => simp [RowKit.intOf]; omega
      · go_wp2_with (at_builtin; refine wpList_append_own_at _ rfl (.tmp 31) (.tmp 33) 22 rfl b 63 iu _ 1 4 Tryd.underlying22 hiu huz0 huz1 huz2 rfl (by decide) _ _ _ rfl (hown.alloc _) ⟨wr.heap.size, 0, none⟩ 1 1 [_] rfl rfl (cell_one_new wr _ _) (by simp [Value.oneCell']) (by unfold maxLen; omega) (by omega) (by simp; omega) ?_; intro v2 w2 hown2 hg2 _ hat2)
        have hb2 := (hb.alloc hbs _).grown hg2 (by simp; omega) (fun g e => by have := hown.lt g e; omega)
        go_roundw
        case rel => exact ⟨j + 2, n + 1, _, by omega, by go_num, by omega, hown2, hb2⟩
        case measure => simp [RowKit.intOf]; omega
    · obtain ⟨B, c, rfl, _, _⟩ := own_form hown
      go_wp2_with fail
      go_ret
      exact ⟨⟨_, _, _, rfl⟩, by rw [HB.out]; exact hb⟩
set_option maxRecDepth 100000 in
set_option maxHeartbeats 4000000 in
theorem whole_any {w : World} (ng : Bool) (A : Option Addr) (m : List Int) (k d : Nat) (hkm : k ≤ m.length) (hml : m.length ≤ 1000) (hr : Row w A (ints m)) :
    Calls Tryd.prog 88 #[.agg #[.bool ng, .slice A k d]] w fun e w' => (∃ (b' : Bool) (B : Option Addr) (n c : Nat), e = .returned (.agg #[.int .i64 2, .bool b', .slice B n c, .bool false, .slice none 0 0, .string ⟨#[]⟩, .int .i64 0])) ∧ Below w.heap.size w w' := by
  have hBx := (Blk.new w 118 #[.bool ng, .slice A k d]).alloc (.cells (valC 0 [] 0) 26)
  have hRx := Blk.new (w.alloc (.cells #[.bool ng, .slice A k d] 118)) 26 (valC 0 [] 0)
  have hb := ((Below.refl w.heap.size w).alloc (Nat.le_refl _) (.cells #[.bool ng, .slice A k d] 118)).alloc (by simp) (.cells (valC 0 [] 0) 26)
  have hss : (w.alloc (.cells #[.bool ng, .slice A k d] 118)).heap.size = w.heap.size + 1 := by simp
  have hr2 := hr.keepB hb
  go_enter Tryd.func88, Tryd.ntmps88
  go_upto_region 1 with fail
  obtain ⟨w1, hw1⟩ : ∃ W', (w.alloc (.cells #[.bool ng, .slice A k d] 118)).alloc (.cells (valC 0 [] 0) 26) = W' := ⟨_, rfl⟩
  have hw1' := hw1
  unfold valC at hw1'
  rw [show (([] : List UInt8).toArray) = #[] from rfl] at hw1'
  rw [hw1'] 
  rw [hss] at hRx
  rw [hw1] at hBx hRx hb hr2
  obtain ⟨a, ha⟩ : ∃ a, w.heap.size = a := ⟨_, rfl⟩
  have HA := Lib.hid ha
  rw [ha] at hBx hRx hb ⊢
  clear hw1 hw1' ha hr hss
  have G1 : ∀ (p : Held (fun w' => Blk w' a 118 #[.bool ng, .slice A k d])) (i : Nat), p.w.cell? ⟨a, i, none⟩ = (#[.bool ng, .slice A k d] : Array Value)[i]? := fun p i => p.h.cell i
  have hr3 : Row w1.drew A (ints m) := hr2
  have hb3 : Below a w w1.drew := hb.drew
  have hd : (decide ((0 : Int) < (k : Int)) = true) ∨ (decide ((0 : Int) < (k : Int)) = false) := by cases decide ((0 : Int) < (k : Int)) <;> simp
  cases ng <;> rcases hd with hd | hd
  all_goals
    refine wp_region_steady_tail 10 13 (by kernel_rfl) (by kernel_rfl) (fun w' => ∃ p : Held (fun w' => Blk w' a 118 _), w' = p.w) (isHeld_mk hBx.drew) (fun c a d v w h => by cases d <;> exact h) ?_
    simp only [List.take_succ_cons, List.take_zero, List.drop_succ_cons, List.drop_zero]
    repeat (refine wpSteady_step (fun K hK => ?_)
            go_simp
            first
              | (refine ⟨_, fun _ => rfl, hK _ ?_⟩; clear hK K)
              | (refine hK _ ?_; clear hK K))
    refine wpSteady_nil ?_
    refine tailM_one ?_
    go_wp2_with fail
    refine (limbs_any A m k d hkm hml hr3).mono ?_
    rintro e w2 ⟨⟨B, n, c, rfl⟩, ba⟩
    have hB2 := hBx.drew.belowS ba
    have hR2 := hRx.drew.belowS ba
    have hb2 := below_then hb3 ba (by have := hb3.size; rw [HA.out] at this; exact this)
    clear ba hBx hRx hb hb3 hr2 hr3 G1
    go_wp2_with fail
    refine thenC_mk (isHeld_mk hB2) ?_
    refine tailM_one ?_
    go_wp2_with fail
    refine thenC_mk (isHeld_mk hB2) ?_
    refine tailM_one ?_
    go_wp2_with fail
    refine thenC_mk (isHeld_mk hB2) ?_
    refine tailM_zero ?_
    unfold valC at hR2
    rw [show (([] : List UInt8).toArray) = #[] from rfl] at hR2
    obtain ⟨q1, q2, q3⟩ := hR2.rules
    go_wp2_with fail
    refine ret_blk rfl rfl (((((((hR2.set_ 0 _).set_ 1 _).set_ 2 _).set_ 3 _).set_ 4 _).set_ 5 _).set_ 6 _) _ Tryd.underlying26 rfl (by kernel_rfl) rfl ⟨⟨_, B, n, c, rfl⟩, ?_⟩
    rw [HA.out]
    exact ((((((hb2.setCell (p := ⟨a + 1, 0, none⟩) (by simp) _).setCell (p := ⟨a + 1, 1, none⟩) (by simp) _).setCell (p := ⟨a + 1, 2, none⟩) (by simp) _).setCell (p := ⟨a + 1, 3, none⟩) (by simp) _).setCell (p := ⟨a + 1, 4, none⟩) (by simp) _).setCell (p := ⟨a + 1, 5, none⟩) (by simp) _).setCell (p := ⟨a + 1, 6, none⟩) (by simp) _
end Go.Proofs.YtfpmnkokmlghmaaDoor
