/- The reference's words: what it computes of them. Nothing is claimed here. -/
import Derived.Test.YtjoeojdciogcgaaDoorRefP
namespace Go.Proofs.YtjoeojdciogcgaaDoor
open Go.RowKit Go.Shelf Go.Lib Go.Maps
set_option linter.unusedVariables false

theorem info_strR : (Tryd.prog.info? 9).map (fun i => (i.zero, i.size, i.bytes)) = some (some (.string ByteArray.empty), 1, 16) := by kernel_rfl
set_option maxHeartbeats 4000000 in
set_option maxRecDepth 100000 in
theorem reservedR_any (w : World) :
    Calls Tryd.prog 13 #[] w fun e w' => e = .returned (.slice (some ⟨w.heap.size, 0, none⟩) 38 38) ∧ w' = w.alloc (.cells (strs kws).toArray 9) := by
  obtain ⟨i0, hi, hz0, hz1, hz2⟩ := info_parts info_strR
  go_enter Tryd.func13, Tryd.ntmps13
  go_wp2_with (refine wpList_buildSlice rfl 36 9 38 _ rfl (strs kws).toArray i0 _ Tryd.underlying36 hi hz0 (by rw [hz1]; decide) (by rw [hz1]; decide) (by rw [hz1]; kernel_rfl) ?_)
  go_ret
  exact ⟨rfl, rfl⟩

set_option maxHeartbeats 4000000 in
set_option maxRecDepth 100000 in
theorem isKeyword_any (t : List UInt8) (w : World) :
    Calls Tryd.prog 80 #[.string ⟨t.toArray⟩] w fun e w' => e = .returned (.bool (kws.contains t)) ∧ Below w.heap.size w w' := by
  obtain ⟨r, hr⟩ : ∃ r, kws.contains t = r := ⟨_, rfl⟩
  rw [hr]
  have HR := Lib.hid hr
  clear hr
  have hB := Blk.new w 9 (strs kws).toArray
  have hb := (Below.refl w.heap.size w).alloc (Nat.le_refl _) (.cells (strs kws).toArray 9)
  go_enter Tryd.func80, Tryd.ntmps80
  go_wp2_with fail
  refine (reservedR_any w).mono ?_
  rintro e w1 ⟨rfl, hw1⟩
  rw [← hw1] at hB hb
  obtain ⟨b, hbb⟩ : ∃ b, w.heap.size = b := ⟨_, rfl⟩
  have hb' := hb
  rw [hbb] at hB hb' ⊢
  clear hw1
  go_wp2_with fail
  go_loop [7] (fun v => ∃ k : Nat, k ≤ 38 ∧ v = .int .i64 (k : Int) ∧ Hid (kws.contains t = (kws.drop k).contains t)) (fun v => 38 - (RowKit.intOf v).toNat)
  case atStart => exact ⟨0, by omega, rfl, Lib.hid rfl⟩
  case round =>
    obtain ⟨k, hk, rfl, HC⟩ := hrel
    have hlen : kws.length = 38 := rfl
    by_cases hlt : k < 38
    · obtain ⟨x, hx⟩ : ∃ x, kws[k]? = some x := ⟨kws[k], List.getElem?_eq_getElem (by omega)⟩
      have hd : kws.drop k = x :: kws.drop (k + 1) := by
        obtain ⟨h1, rfl⟩ := List.getElem?_eq_some_iff.1 hx
        exact List.drop_eq_getElem_cons h1
      have hcell : w1.cell? ⟨b, k, none⟩ = some (.string ⟨x.toArray⟩) := by
        rw [hB.cell k]
        simp [strs, hx]
      have HD := Lib.hid hd
      clear hx hd
      cases hq : (x == t)
      · have HN := Lib.hid (show kws.contains t = (kws.drop (k + 1)).contains t from by
          rw [HC.out, HD.out, List.contains_cons, show (t == x) = false from by rw [beq_eq_false_iff_ne] at hq ⊢; exact fun e => hq e.symm, Bool.false_or])
        go_wp2_with fail
        go_round
        case rel => exact ⟨k + 1, by omega, by go_num, HN⟩
        case measure => simp [RowKit.intOf]; omega
      · have HN := Lib.hid (show kws.contains t = true from by
          rw [HC.out, HD.out, List.contains_cons, show (t == x) = true from by rw [beq_iff_eq] at hq ⊢; exact hq.symm, Bool.true_or])
        go_wp2_with fail
        go_ret
        exact ⟨ret_bool (by rw [← HR.out, HN.out]), hb'⟩
    · have HN := Lib.hid (show kws.contains t = false from by
        rw [HC.out, List.drop_eq_nil_of_le (by omega)]
        rfl)
      go_wp2_with fail
      go_ret
      exact ⟨ret_bool (by rw [← HR.out, HN.out]), hb'⟩

/-- what the reference gives of a piece of a text -/
def pcV (k e c i : Int) : Value := .agg #[.int .i64 k, .int .i64 e, .int .i64 c, .int .i64 i]
def PPost (w : World) (i : Nat) (r : Lex) (e : Ending) (w' : World) : Prop :=
  Below w.heap.size w w' ∧ match r with
  | .ok (k, n) => e = .returned (pcV k ((i + n : Nat) : Int) 0 0)
  | .error (c, d) => ∃ k n : Int, e = .returned (pcV k n c ((i + d : Nat) : Int))

theorem PPost.ok {w : World} {i : Nat} {r : Lex} {e : Ending} {w' : World} {k x : Int} {n : Nat} (hr : r = .ok (k, n)) (hb : Below w.heap.size w w') (he : e = .returned (pcV k x 0 0)) (hx : x = ((i + n : Nat) : Int)) : PPost w i r e w' := by
  subst hr hx
  exact ⟨hb, he⟩
theorem PPost.err {w : World} {i : Nat} {r : Lex} {e : Ending} {w' : World} {c x k n : Int} {d : Nat} (hr : r = .error (c, d)) (hb : Below w.heap.size w w') (he : e = .returned (pcV k n c x)) (hx : x = ((i + d : Nat) : Int)) : PPost w i r e w' := by
  subst hr hx
  exact ⟨hb, k, n, he⟩
theorem Blk.set4 {w : World} {g t : Nat} {x0 x1 x2 x3 : Value} (h : Blk w g t #[x0, x1, x2, x3]) (a b c d : Value) : Blk ((((w.setCell ⟨g, 0, none⟩ a).setCell ⟨g, 1, none⟩ b).setCell ⟨g, 2, none⟩ c).setCell ⟨g, 3, none⟩ d) g t #[a, b, c, d] := (((h.set_ 0 a).set_ 1 b).set_ 2 c).set_ 3 d
theorem below_set4 {B g : Nat} {a w : World} (h : Below B a w) (hg : B ≤ g) (x0 x1 x2 x3 : Value) : Below B a ((((w.setCell ⟨g, 0, none⟩ x0).setCell ⟨g, 1, none⟩ x1).setCell ⟨g, 2, none⟩ x2).setCell ⟨g, 3, none⟩ x3) :=
  (((h.setCell (p := ⟨g, 0, none⟩) hg _).setCell (p := ⟨g, 1, none⟩) hg _).setCell (p := ⟨g, 2, none⟩) hg _).setCell (p := ⟨g, 3, none⟩) hg _

set_option maxHeartbeats 4000000 in
set_option maxRecDepth 100000 in
theorem word_any (l : List UInt8) (i : Nat) (w : World) (hl : l.length ≤ 16000) (hi : i ≤ l.length) :
    Calls Tryd.prog 59 #[.string ⟨l.toArray⟩, .int .i64 (i : Int)] w (PPost w i (lexName (l.drop i))) := by
  obtain ⟨n, hn⟩ : ∃ n, span isWrd (l.drop i) = n := ⟨_, rfl⟩
  have hle := span_drop_le isWrd l i hi
  obtain ⟨t, ht⟩ : ∃ t, (l.drop i).take n = t := ⟨_, rfl⟩
  obtain ⟨kw, hkw⟩ : ∃ kw, kws.contains t = kw := ⟨_, rfl⟩
  have HL := Lib.hid (show lexName (l.drop i) = if 24 < n then .error (7, 0) else .ok (if kw then 5 else 4, n) from by unfold lexName; rw [hn, ht, hkw])
  have HKW := Lib.hid hkw
  clear hkw
  rw [hn] at hle
  have hsub := run_sub l i (i + n) (by omega) hle (i : Int) ((i + n : Nat) : Int) rfl rfl
  rw [show i + n - i = n by omega, ht] at hsub
  obtain ⟨m, hm⟩ : ∃ m, i + n = m := ⟨_, rfl⟩
  rw [hm] at hsub hle
  have HRUN := Lib.hid (fun W => run_any isWrd wrdL wrdL_is l i (i : Int) rfl W hl (by omega))
  have HN := Lib.hid (show i + span isWrd (l.drop i) = m from by rw [hn]; exact hm)
  clear hn ht
  have hP := (Blk.new w 67 #[.int .i64 0, .int .i64 0, .int .i64 0, .int .i64 0]).alloc (.cells #[.int .i64 4, .int .i64 (m : Int), .int .i64 0, .int .i64 0] 67)
  have hQ := Blk.new (w.alloc (.cells #[.int .i64 0, .int .i64 0, .int .i64 0, .int .i64 0] 67)) 67 #[.int .i64 4, .int .i64 (m : Int), .int .i64 0, .int .i64 0]
  have hb2 : Below w.heap.size w ((w.alloc (.cells #[.int .i64 0, .int .i64 0, .int .i64 0, .int .i64 0] 67)).alloc (.cells #[.int .i64 4, .int .i64 (m : Int), .int .i64 0, .int .i64 0] 67)) := ((Below.refl _ w).alloc (Nat.le_refl _) _).alloc (by simp) _
  rw [show (w.alloc (.cells #[.int .i64 0, .int .i64 0, .int .i64 0, .int .i64 0] 67)).heap.size = w.heap.size + 1 from by simp] at hQ
  go_enter Tryd.func59, Tryd.ntmps59
  go_wp2_with fail
  refine (HRUN.out _).mono ?_
  rintro e w1 ⟨rfl, rfl⟩
  rw [HN.out]
  go_wp2_with fail
  refine (isKeyword_any t _).mono ?_
  rintro e w3 ⟨rfl, hbb⟩
  have hP3 := hP.belowS hbb
  have hQ3 := hQ.belowS hbb
  have hb3 := below_then hb2 hbb hb2.size
  clear hP hQ hb2 hbb hsub
  rw [HKW.out]
  obtain ⟨q1, q2, q3⟩ := hQ3.rules
  obtain ⟨p1, p2, p3⟩ := hP3.rules
  cases kw
  · skip
    by_cases h24 : 24 < n
    · have HR := Lib.hid (show lexName (l.drop i) = .error (7, 0) from by rw [HL.out, if_pos h24])
      have c1 : (24 : Int) < (m : Int) - (i : Int) := by omega
      go_wp2_with fail
      refine (atR_any 7 (i : Int) _).mono ?_
      rintro e w5 ⟨rfl, hbb⟩
      have hP5 := Blk.belowS hP3 hbb
      have hQ5 := Blk.belowS hQ3 hbb
      have hb5 := below_then hb3 hbb (Below.size hb3)
      clear q1 q2 q3 p1 p2 p3 hbb
      obtain ⟨q1, q2, q3⟩ := hQ5.rules
      obtain ⟨p1, p2, p3⟩ := hP5.rules
      unfold flt
      go_wp2_with fail
      have hP6 := (hP5.far (p := ⟨w.heap.size + 1, 2, none⟩) (by simp) (.int .i64 7)).far (p := ⟨w.heap.size + 1, 3, none⟩) (by simp) (.int .i64 (i : Int))
      have hb6 := (hb5.setCell (p := ⟨w.heap.size + 1, 2, none⟩) (Nat.le_succ _) (.int .i64 7)).setCell (p := ⟨w.heap.size + 1, 3, none⟩) (Nat.le_succ _) (.int .i64 (i : Int))
      exact ret_blk rfl rfl (hP6.set4 (.int .i64 4) (.int .i64 (m : Int)) (.int .i64 7) (.int .i64 (i : Int))) _ Tryd.underlying67 rfl (by kernel_rfl) rfl (PPost.err HR.out (below_set4 hb6 (Nat.le_refl _) _ _ _ _) rfl (by omega))
    · have HR := Lib.hid (HL.out.trans (if_neg h24))
      have c1 : ¬ (24 : Int) < (m : Int) - (i : Int) := by omega
      go_wp2_with fail
      exact ret_blk rfl rfl (Blk.set4 hP3 (.int .i64 4) (.int .i64 (m : Int)) (.int .i64 0) (.int .i64 0)) _ Tryd.underlying67 rfl (by kernel_rfl) rfl (PPost.ok HR.out (below_set4 hb3 (Nat.le_refl _) _ _ _ _) rfl (by omega))
  · have hQ4 : Blk (w3.setCell ⟨w.heap.size + 1, 0, none⟩ (.int .i64 5)) (w.heap.size + 1) 67 #[.int .i64 5, .int .i64 (m : Int), .int .i64 0, .int .i64 0] := hQ3.set_ 0 (.int .i64 5)
    have hP4 := hP3.far (p := ⟨w.heap.size + 1, 0, none⟩) (by simp) (.int .i64 5)
    have hb4 := hb3.setCell (p := ⟨w.heap.size + 1, 0, none⟩) (Nat.le_succ _) (.int .i64 5)
    by_cases h24 : 24 < n
    · have HR := Lib.hid (show lexName (l.drop i) = .error (7, 0) from by rw [HL.out, if_pos h24])
      have c1 : (24 : Int) < (m : Int) - (i : Int) := by omega
      go_wp2_with fail
      refine (atR_any 7 (i : Int) _).mono ?_
      rintro e w5 ⟨rfl, hbb⟩
      have hP5 := Blk.belowS hP4 hbb
      have hQ5 := Blk.belowS hQ4 hbb
      have hb5 := below_then hb4 hbb (Below.size hb4)
      clear q1 q2 q3 p1 p2 p3 hbb
      obtain ⟨q1, q2, q3⟩ := hQ5.rules
      obtain ⟨p1, p2, p3⟩ := hP5.rules
      unfold flt
      go_wp2_with fail
      have hP6 := (hP5.far (p := ⟨w.heap.size + 1, 2, none⟩) (by simp) (.int .i64 7)).far (p := ⟨w.heap.size + 1, 3, none⟩) (by simp) (.int .i64 (i : Int))
      have hb6 := (hb5.setCell (p := ⟨w.heap.size + 1, 2, none⟩) (Nat.le_succ _) (.int .i64 7)).setCell (p := ⟨w.heap.size + 1, 3, none⟩) (Nat.le_succ _) (.int .i64 (i : Int))
      exact ret_blk rfl rfl (hP6.set4 (.int .i64 5) (.int .i64 (m : Int)) (.int .i64 7) (.int .i64 (i : Int))) _ Tryd.underlying67 rfl (by kernel_rfl) rfl (PPost.err HR.out (below_set4 hb6 (Nat.le_refl _) _ _ _ _) rfl (by omega))
    · have HR := Lib.hid (HL.out.trans (if_neg h24))
      have c1 : ¬ (24 : Int) < (m : Int) - (i : Int) := by omega
      go_wp2_with fail
      exact ret_blk rfl rfl (Blk.set4 hP4 (.int .i64 5) (.int .i64 (m : Int)) (.int .i64 0) (.int .i64 0)) _ Tryd.underlying67 rfl (by kernel_rfl) rfl (PPost.ok HR.out (below_set4 hb4 (Nat.le_refl _) _ _ _ _) rfl (by omega))

end Go.Proofs.YtjoeojdciogcgaaDoor
