/- Walks: tables of lines are packed. Nothing is claimed here. -/
import Derived.Test.YtionmlkefheocaaTabE
namespace Go.Proofs.Ytionmlkefheocaa
open Go.RowKit
set_option linter.unusedVariables false

/-- a table of lines without a fault, behind a mark at p -/
def okL : Int → List Mark → Prop
  | _, [] => True
  | p, m :: l => p < m.1 ∧ 0 ≤ m.1 ∧ m.1 ≤ 59999 ∧ 1 ≤ m.2 ∧ m.2 ≤ 16000 ∧ okL m.1 l

theorem okL_of : ∀ (l : List Mark) (i : Nat) (p : Int), (0 < i ∨ p = -1) → mfGo i p l = (0, 0) → okL p l
  | [], _, _, _, _ => trivial
  | m :: l, i, p, hi, h => by
    rw [mfGo] at h
    split at h
    · rename_i hb
      split at h
      · simp at h
      · rename_i ho
        simp only [btw, Bool.and_eq_true, decide_eq_true_eq] at hb
        refine ⟨by omega, by omega, by omega, by omega, by omega, okL_of l (i + 1) m.1 (.inl (by omega)) h⟩
    · simp at h
theorem okL_marks {l : List Mark} (h : marksFault l = (0, 0)) : okL (-1) l ∧ l.length ≤ 60000 := by
  unfold marksFault at h
  split at h
  · simp at h
  · exact ⟨okL_of l 0 (-1) (.inr rfl) h, by omega⟩

def packGo : Int → Int → List Mark → List Int
  | _, _, [] => []
  | a, b, m :: l => sp (m.1 - a) ++ (sp (foldI (m.2 - b)) ++ packGo m.1 m.2 l)

theorem moved_ne {w : World} {g : Nat} {r s : Option Nat} (h : Moved w r s) (hne : some g ≠ r) (hg : g < w.heap.size) : some g ≠ s := by
  rcases h with h | ⟨x, h, hx⟩
  · rw [h]; exact hne
  · rw [h]; intro e; injection e with e; omega

theorem ownsRow_drewN {w : World} {base : Nat} {e : TypeId} {size n : Nat} {v : Value} {xs : List Value} (h : w.ownsRow base e size v n xs) (k : Nat) : (w.drewN k).ownsRow base e size v n xs := h

def PackRel (l : List Mark) (w : World) (v x y i : Value) (wr : World) : Prop :=
  ∃ (k : Nat) (p a b : Int) (d : List Int), k ≤ l.length ∧ i = .int .i64 k ∧ x = .int .i64 a ∧ y = .int .i64 b ∧ packGo 0 0 l = d ++ packGo a b (l.drop k) ∧
    wr.ownsRow (w.heap.size + 1) 5 1 v d.length (bcs d) ∧ d.length ≤ 6 * k ∧ 0 ≤ a ∧ a ≤ p + 1 ∧ 0 ≤ b ∧ b ≤ 16000 ∧ okL p (l.drop k) ∧ Below w.heap.size w wr ∧ Blk wr w.heap.size 24 #[.int .i64 0, .int .i64 0]

def PackPost (l : List Int) (w : World) (e : Ending) (w' : World) : Prop :=
  ∃ A c, e = .returned (.tuple #[.slice A l.length c, .agg #[.int .i64 0, .int .i64 0]]) ∧ Row w' A (bcs l) ∧ Below w.heap.size w w'

set_option maxHeartbeats 1000000 in
theorem packLines_ok (A : Option Addr) (c : Nat) (l : List Mark) (w : World) (hm : Row w A (l.flatMap mkc)) (hf : Hid (marksFault l = (0, 0))) :
    Calls Try.prog 8 #[.slice A l.length c] w (PackPost (packGo 0 0 l) w) := by
  obtain ⟨hok, hl⟩ := okL_marks hf.out
  have hB : Blk (w.alloc (.cells #[.int .i64 0, .int .i64 0] 24)) w.heap.size 24 #[.int .i64 0, .int .i64 0] := Blk.new _ _ _
  have HB := Lib.hid hB
  clear hB
  have hm1 : Row (w.alloc (.cells #[.int .i64 0, .int .i64 0] 24)) A (l.flatMap mkc) := hm.keepB ((Below.refl _ _).alloc (Nat.le_refl _) _)
  go_enter Try.func8, Try.ntmps8
  go_wp2_with fail
  refine (check_at _ _ _ 0 0 _ (by omega) hm1 hf).mono ?_
  rintro e w' ⟨rfl, hb'⟩
  have hB' := HB.out.belowS hb'
  have hbw : Below w.heap.size w w' := below_then ((Below.refl _ _).alloc (Nat.le_refl _) _) hb' (by simp)
  clear hm1 HB hb'
  go_wp2_with fail
  go_loopw [5, 6, 7, 18] (fun v x y i wr => PackRel l w v x y i wr) (fun _ _ _ i _ => l.length - (intOf i).toNat)
  case atStart => exact ⟨0, -1, 0, 0, [], Nat.zero_le _, rfl, rfl, rfl, rfl, World.ownsRow_nil _ _ _ _, by simp, by omega, by omega, by omega, by omega, hok, hbw.alloc hbw.size _, hB'.alloc _⟩
  case round =>
    clear hB' hbw
    obtain ⟨k, p, a, b, d, hk, rfl, rfl, rfl, he, hown, hd, a1, a2, b1, b2, hokk, hb0, hB⟩ := hrel
    have He := Lib.hid he
    clear he
    obtain ⟨hr, hfr, hsz⟩ := hB.rules
    by_cases hlt : k < l.length
    · obtain ⟨bb, off, rfl, had, h1, h2⟩ := (hm.keepB hb0).mark hlt
      rw [drop_cons hlt] at hokk
      obtain ⟨o1, o2, o3, o4, o5, o6⟩ := hokk
      have O6 := Lib.hid o6
      clear o6
      have hownA := (hown.alloc (.cells #[.int .i64 l[k].1, .int .i64 l[k].2] 38)).drew
      have hne : some wr.heap.size ≠ u5.ownBlock := fun e => by have := hown.lt _ e.symm; omega
      have hF1 : 0 ≤ foldI (l[k].2 - b) := by unfold foldI; split <;> omega
      have hF2 : foldI (l[k].2 - b) < 2097152 := by unfold foldI; split <;> omega
      have hl3 := sp_len (l[k].1 - a)
      have w1 : IntKind.i64.wrap (l[k].1 - a) = l[k].1 - a := IntWalk.i64_in _ (by omega)
      have w2 : IntKind.i64.wrap (l[k].2 - b) = l[k].2 - b := IntWalk.i64_in _ (by omega)
      go_wp2_with fail
      go_region_held3 (fun w' => w'.cell? ⟨wr.heap.size, 0, none⟩ = some (.int .i64 l[k].1) ∧ w'.cell? ⟨wr.heap.size, 1, none⟩ = some (.int .i64 l[k].2))
        (first | go_keep)
        (first | (go_at_call 31; have hz3 := hg3.size; refine (varint_any (w.heap.size + 1) v3 _ _ (foldI (l[k].2 - b)) _ hF1 hF2 (by omega) hown3 (by simp at hz3; omega)).mono ?_; rintro e w4 ⟨v4, rfl, hown4, hg4, hm4⟩; have hne4 : some wr.heap.size ≠ v3.ownBlock := moved_ne hm3 hne (by simp); have c40 := hg4.cell c30 hne4; have c41 := hg4.cell c31 hne4) | (go_at_call 31; refine (varint_any (w.heap.size + 1) u5 d.length (bcs d) _ _ (by omega) (by omega) (by omega) hownA (by simp; omega)).mono ?_; rintro e w3 ⟨v3, rfl, hown3, hg3, hm3⟩; have c30 := hg3.cell (a := ⟨wr.heap.size, 0, none⟩) (v := .int .i64 l[k].1) (by simp) hne; have c31 := hg3.cell (a := ⟨wr.heap.size, 1, none⟩) (v := .int .i64 l[k].2) (by simp) hne) | (go_at_call 32; refine (fold_any _ _ (by omega) (by omega)).mono ?_; rintro e w' ⟨rfl, rfl⟩))
      have HO := Lib.hid hown4
      have hb3 := (hb0.alloc hb0.size (.cells #[.int .i64 l[k].1, .int .i64 l[k].2] 38)).drew.grown hg3 (by simp; omega) (fun g e => by have := hown.lt g e; omega)
      have hb4 := hb3.grown hg4 hb3.size (fun g e => by have := hown3.lt g e; omega)
      have hB4 := (((hB.alloc (.cells #[.int .i64 l[k].1, .int .i64 l[k].2] 38)).drew).grown hg3 (fun e => by have := hown.lt _ e.symm; omega)).grown hg4 (fun e => by have := hown3.lt _ e.symm; omega)
      have hl4 := sp_len (foldI (l[k].2 - b))
      clear hown hown3 hown4 hg3 hg4 hm3 hm4 hownA hne hne4 c30 c31 w1 w2 hz3 h1 h2 hr hfr
      go_wp2_with fail
      go_quiet (fail)
      go_wp2_with fail
      go_roundw
      case rel =>
        refine ⟨k + 1, l[k].1, l[k].1, l[k].2, d ++ (sp (l[k].1 - a) ++ sp (foldI (l[k].2 - b))), by omega, by go_num, rfl, rfl, ?_, ?_, ?_, o2, by omega, by omega, o5, O6.out, below_drewN hb4 _, hB4.drewN _⟩
        · rw [He.out, drop_cons hlt, packGo]; simp
        · have := ownsRow_drewN HO.out nq
          simpa [bcs, Nat.add_assoc] using this
        · simp; omega
      case measure => simp [intOf]; omega
    · obtain ⟨Av, cv, rfl, hrow, hc⟩ := own_form hown
      go_wp2_with fail
      refine ret_tmp_blk Try.results8 rfl ((hB.set_ 0 _).set_ 1 _) _ Try.underlying24 rfl (by kernel_rfl) rfl _ rfl ?_
      have e : packGo 0 0 l = d := by rw [He.out, List.drop_of_length_le (by omega), packGo, List.append_nil]
      rw [e]
      exact ⟨Av, cv, rfl, Row.of_own (ownsRow_setCell_below (ownsRow_setCell_below hown (a := ⟨w.heap.size, 0, none⟩) (by simp) _) (a := ⟨w.heap.size, 1, none⟩) (by simp) _), (hb0.setCell (Nat.le_refl _) _).setCell (Nat.le_refl _) _⟩

end Go.Proofs.Ytionmlkefheocaa
