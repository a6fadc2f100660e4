/- The reference's OffsetOf: what it computes. Nothing is claimed here. -/
import Derived.Test.YtfocggdplahnbaaDoorRefF
namespace Go.Proofs.YtfocggdplahnbaaDoor
open Go.RowKit Go.Shelf Go.Lib

/-- a line and a column are the place behind some characters -/
theorem split_place : ∀ (cs : List (List UInt8)) (q : List (List (List UInt8))) (x : List (List UInt8)) (t : List (List (List UInt8))) (c : Nat), splitC cs = q ++ x :: t → c ≤ x.length → ∃ k, k ≤ cs.length ∧
    (∀ A B : Int, (cs.take k).foldl step (A, B) = (A + q.length, if q = [] then B + c else 1 + c)) ∧ atOf (q.map List.flatten) + (x.take c).flatten.length = (cs.take k).flatten.length
  | [], q, x, t, c, h, hc => by
    cases q with
    | nil =>
      simp only [splitC, List.nil_append, List.cons.injEq] at h
      obtain ⟨rfl, rfl⟩ := h
      have : c = 0 := by simpa using hc
      subst this
      exact ⟨0, Nat.le_refl _, fun A B => by simp, by simp [atOf]⟩
    | cons q0 qs => simp [splitC] at h
  | ch :: cs, q, x, t, c, h, hc => by
    by_cases hnl : ch = nlc
    · subst hnl
      unfold splitC at h
      rw [if_pos rfl] at h
      cases q with
      | nil =>
        simp only [List.nil_append, List.cons.injEq] at h
        obtain ⟨rfl, rfl⟩ := h
        have : c = 0 := by simpa using hc
        subst this
        exact ⟨0, Nat.zero_le _, fun A B => by simp, by simp [atOf]⟩
      | cons q0 qs =>
        simp only [List.cons_append, List.cons.injEq] at h
        obtain ⟨rfl, h⟩ := h
        obtain ⟨k, hk, h3, h4⟩ := split_place cs qs x t c h hc
        refine ⟨k + 1, by simp; omega, fun A B => ?_, ?_⟩
        · rw [List.take_succ_cons, List.foldl_cons]
          have hst : step (A, B) nlc = (A + 1, 1) := by unfold step; rw [if_pos rfl]
          rw [hst, h3 (A + 1) 1]
          simp only [List.length_cons, reduceCtorEq, if_false]
          refine Prod.ext ?_ ?_
          · simp only; omega
          · simp
        · rw [List.take_succ_cons, List.flatten_cons, List.length_append, ← h4]
          simp only [List.map_cons, atOf, List.flatten_nil, List.length_nil, nlc, List.length_singleton]
          omega
    · unfold splitC at h
      rw [if_neg hnl] at h
      cases hs : splitC cs with
      | nil => exact absurd hs (splitC_ne cs)
      | cons p ps =>
        rw [hs] at h
        have hst : ∀ A B : Int, step (A, B) ch = (A, B + 1) := fun A B => by unfold step; rw [if_neg hnl]
        cases q with
        | nil =>
          simp only [List.nil_append, List.cons.injEq] at h
          obtain ⟨rfl, rfl⟩ := h
          cases c with
          | zero => exact ⟨0, Nat.zero_le _, fun A B => by simp, by simp [atOf]⟩
          | succ c =>
            obtain ⟨k, hk, h3, h4⟩ := split_place cs [] p ps c hs (by simpa using hc)
            refine ⟨k + 1, by simp; omega, fun A B => ?_, ?_⟩
            · rw [List.take_succ_cons, List.foldl_cons, hst, h3 A (B + 1)]
              simp
              omega
            · rw [List.take_succ_cons, List.take_succ_cons, List.flatten_cons, List.flatten_cons, List.length_append, List.length_append, ← h4]
              simp [atOf]
        | cons q0 qs =>
          simp only [List.cons_append, List.cons.injEq] at h
          obtain ⟨rfl, rfl⟩ := h
          obtain ⟨k, hk, h3, h4⟩ := split_place cs (p :: qs) x t c (by rw [hs]; rfl) hc
          refine ⟨k + 1, by simp; omega, fun A B => ?_, ?_⟩
          · rw [List.take_succ_cons, List.foldl_cons, hst, h3 A (B + 1)]
            simp
          · rw [List.take_succ_cons, List.flatten_cons, List.length_append, ← h4]
            simp [atOf]
            omega

theorem map_split {q t : List (List UInt8)} {x : List UInt8} : ∀ {L : List (List (List UInt8))}, L.map List.flatten = q ++ x :: t → ∃ Q X T, L = Q ++ X :: T ∧ Q.map List.flatten = q ∧ X.flatten = x ∧ T.map List.flatten = t := by
  intro L h
  obtain ⟨Q, R, rfl, hQ, hR⟩ := List.map_eq_append_iff.1 h
  obtain ⟨X, T, rfl, hX, hT⟩ := List.map_eq_cons_iff.1 hR
  exact ⟨Q, X, T, rfl, hQ, hX, hT⟩

theorem before_ne {p q : Int × Int} (h : before p q) : p ≠ q := by
  rintro rfl
  unfold before at h
  omega

set_option maxRecDepth 100000 in
set_option maxHeartbeats 2000000 in
theorem offsetOf_any (l : List UInt8) (line col : Int) (w : World) (hl : l.length ≤ 1048576) (g1 : -9223372036854775808 ≤ line) (g2 : line ≤ 9223372036854775807) (g3 : -9223372036854775808 ≤ col) (g4 : col ≤ 9223372036854775807) (hT : Tabs w) :
    Calls Tryd.prog 17 #[.string ⟨l.toArray⟩, .int .i64 line, .int .i64 col] w fun e w' => e = .returned (.tuple #[.int .i64 (offOf l line col).1, flt (offOf l line col).2.1 (offOf l line col).2.2]) ∧ Below w.heap.size w w' := by
  have hT1 : Tabs (w.alloc (.cells #[.int .i64 0, .int .i64 0] 24)) := hT.keepB ((Below.refl _ _).alloc (Nat.le_refl _) _)
  obtain ⟨c, i, hs⟩ : ∃ c i, sfault l = (c, i) := ⟨_, _, rfl⟩
  obtain ⟨N, hN⟩ : ∃ N, (splitB 10 l).length = N := ⟨_, rfl⟩
  have hspl := splitB_length_le 10 l
  rw [hN] at hspl
  have HN := Lib.hid hN
  clear hN
  by_cases hc : c = 0
  · obtain ⟨hle, cs, hlc, hcs⟩ := chars_of l (by rw [hs]; exact hc)
    replace hs := sfault_zero l (by rw [hs]; exact hc)
    have HZ := Lib.hid hs
    have HLC := Lib.hid hlc
    clear hc hs hlc
    by_cases hin : line < 1 ∨ (N : Int) < line
    · have HL := Lib.hid (show offOf l line col = (0, (4, -2)) by unfold offOf; rw [HZ.out, if_neg (by simp), HN.out, if_pos hin])
      by_cases h0 : line < 1
      · have d1 : decide (line < 1) = true := decide_eq_true h0
        clear h0 hin g1 g2 g3 g4
        go_enter Tryd.func17, Tryd.ntmps17
        go_wp2_with fail
        refine (sourceFault_any l _ (by omega) hT1).mono ?_
        rintro e w1 ⟨rfl, hb1⟩
        rw [HZ.out]
        have hB1 := (Blk.new w 24 #[.int .i64 0, .int .i64 0]).belowS hb1
        have hb := below_then ((Below.refl _ w).alloc (Nat.le_refl _) _) hb1 (by simp)
        clear hb1 hT1
        unfold flt
        go_wp2_with fail
        refine (sourceLines_any l _ hl).mono ?_
        rintro e w2 ⟨A, cp, rfl, hcap, hrow, hb2⟩
        rw [HN.out] at hcap
        rw [HN.out]
        have hB2 := (hB1.alloc _).belowS hb2
        have hF2 := (Blk.new w1 24 _).belowS hb2
        have hb3 := below_then (hb.alloc hb.size _) hb2 (by have := hb.size; simp; omega)
        have hs3 := hb.size
        clear hB1 hb hb2
        obtain ⟨q1, q2, q3⟩ := hB2.rules
        obtain ⟨r1, r2, r3⟩ := hF2.rules
        go_wp2_with fail
        refine (at_any _ _ _).mono ?_
        rintro e w9 ⟨rfl, hb9⟩
        have hB9 := hB2.belowS hb9
        have hb9' := below_then hb3 hb9 hb3.size
        clear q1 q2 q3
        obtain ⟨q1, q2, q3⟩ := hB9.rules
        unfold flt
        go_wp2_with fail
        exact ret_tmp_blk rfl rfl ((hB9.set_ 0 (.int .i64 4)).set_ 1 (.int .i64 (-2))) _ Tryd.underlying24 rfl (by kernel_rfl) rfl _ rfl ⟨(by rw [HL.out]; rfl), (hb9'.setCell (p := ⟨_, 0, none⟩) (by simp) _).setCell (p := ⟨_, 1, none⟩) (by simp) _⟩
      · have d1 : decide (line < 1) = false := decide_eq_false h0
        have d2 : decide ((N : Int) < line) = true := decide_eq_true (by omega)
        clear h0 hin g1 g2 g3 g4
        go_enter Tryd.func17, Tryd.ntmps17
        go_wp2_with fail
        refine (sourceFault_any l _ (by omega) hT1).mono ?_
        rintro e w1 ⟨rfl, hb1⟩
        rw [HZ.out]
        have hB1 := (Blk.new w 24 #[.int .i64 0, .int .i64 0]).belowS hb1
        have hb := below_then ((Below.refl _ w).alloc (Nat.le_refl _) _) hb1 (by simp)
        clear hb1 hT1
        unfold flt
        go_wp2_with fail
        refine (sourceLines_any l _ hl).mono ?_
        rintro e w2 ⟨A, cp, rfl, hcap, hrow, hb2⟩
        rw [HN.out] at hcap
        rw [HN.out]
        have hB2 := (hB1.alloc _).belowS hb2
        have hF2 := (Blk.new w1 24 _).belowS hb2
        have hb3 := below_then (hb.alloc hb.size _) hb2 (by have := hb.size; simp; omega)
        have hs3 := hb.size
        clear hB1 hb hb2
        obtain ⟨q1, q2, q3⟩ := hB2.rules
        obtain ⟨r1, r2, r3⟩ := hF2.rules
        go_wp2_with fail
        refine (at_any _ _ _).mono ?_
        rintro e w9 ⟨rfl, hb9⟩
        have hB9 := hB2.belowS hb9
        have hb9' := below_then hb3 hb9 hb3.size
        clear q1 q2 q3
        obtain ⟨q1, q2, q3⟩ := hB9.rules
        unfold flt
        go_wp2_with fail
        exact ret_tmp_blk rfl rfl ((hB9.set_ 0 (.int .i64 4)).set_ 1 (.int .i64 (-2))) _ Tryd.underlying24 rfl (by kernel_rfl) rfl _ rfl ⟨(by rw [HL.out]; rfl), (hb9'.setCell (p := ⟨_, 0, none⟩) (by simp) _).setCell (p := ⟨_, 1, none⟩) (by simp) _⟩
    · obtain ⟨q, x, t, a1, a2, a3, a4⟩ := split_at l line (by omega) (by rw [HN.out]; omega)
      have a1' := a1
      rw [HLC.out, splitB_chars cs hcs] at a1'
      obtain ⟨Q, X, T, b1, b2, b3, b4⟩ := map_split a1'
      have hX : ∀ d ∈ X, Chr d := splitC_chars cs hcs X (by rw [b1]; simp)
      have hrx : runeCountL x = X.length := by rw [← b3]; exact rcl_chars X hX
      have hqk : (splitB 10 l)[q.length]? = some x := by rw [a1, List.getElem?_append_right (Nat.le_refl _)]; simp
      have hql : q.length < N := by rw [← HN.out, a1]; simp
      have hxl : x.length ≤ l.length := by
        have hat := atOf_splitB 10 l
        rw [a1, atOf_append] at hat
        simp only [atOf] at hat
        omega
      have HO := Lib.hid (show offOf l line col = if col < 1 ∨ runeCountL x + 1 < col then (0, (4, -3)) else (((atOf q : Nat) : Int) + ((runeOff (col - 1).toNat x : Nat) : Int), (0, 0)) by unfold offOf; rw [HZ.out, if_neg (by simp), HN.out, if_neg hin, a3, a4])
      have hXl : X.length ≤ x.length := by rw [← hrx]; exact rcl_le x
      have HX := Lib.hid hX
      have HB1 := Lib.hid b1
      have HB2 := Lib.hid b2
      have HB3 := Lib.hid b3
      have HRX := Lib.hid hrx
      have HQK := Lib.hid hqk
      have HCS := Lib.hid hcs
      clear a1' a1 a3 a4 b1 b2 b3 b4 hX hin hrx hqk hcs
      subst a2
      have d1 : decide ((q.length : Int) + 1 < 1) = false := decide_eq_false (by omega)
      have d2 : decide ((N : Int) < (q.length : Int) + 1) = false := decide_eq_false (by omega)
      by_cases hlo : col < 1
      · have HL := Lib.hid (show offOf l ((q.length : Int) + 1) col = (0, (4, -3)) by rw [HO.out, if_pos (.inl hlo)])
        have d3 : decide (col < 1) = true := decide_eq_true hlo
        clear hlo g1 g2 g3 g4
        go_enter Tryd.func17, Tryd.ntmps17
        go_wp2_with fail
        refine (sourceFault_any l _ (by omega) hT1).mono ?_
        rintro e w1 ⟨rfl, hb1⟩
        rw [HZ.out]
        have hB1 := (Blk.new w 24 #[.int .i64 0, .int .i64 0]).belowS hb1
        have hb := below_then ((Below.refl _ w).alloc (Nat.le_refl _) _) hb1 (by simp)
        clear hb1 hT1
        unfold flt
        go_wp2_with fail
        refine (sourceLines_any l _ hl).mono ?_
        rintro e w2 ⟨A, cp, rfl, hcap, hrow, hb2⟩
        rw [HN.out] at hcap
        rw [HN.out]
        have hB2 := (hB1.alloc _).belowS hb2
        have hF2 := (Blk.new w1 24 _).belowS hb2
        have hb3 := below_then (hb.alloc hb.size _) hb2 (by have := hb.size; simp; omega)
        have hs3 := hb.size
        clear hB1 hb hb2
        obtain ⟨q1, q2, q3⟩ := hB2.rules
        obtain ⟨r1, r2, r3⟩ := hF2.rules
        go_wp2_with fail
        refine (at_any _ _ _).mono ?_
        rintro e w9 ⟨rfl, hb9⟩
        have hB9 := hB2.belowS hb9
        have hb9' := below_then hb3 hb9 hb3.size
        clear q1 q2 q3
        obtain ⟨q1, q2, q3⟩ := hB9.rules
        unfold flt
        go_wp2_with fail
        exact ret_tmp_blk rfl rfl ((hB9.set_ 0 (.int .i64 4)).set_ 1 (.int .i64 (-3))) _ Tryd.underlying24 rfl (by kernel_rfl) rfl _ rfl ⟨(by rw [HL.out]; rfl), (hb9'.setCell (p := ⟨_, 0, none⟩) (by simp) _).setCell (p := ⟨_, 1, none⟩) (by simp) _⟩
      · have d3 : decide (col < 1) = false := decide_eq_false hlo
        have HLO := Lib.hid hlo
        have HG4 := Lib.hid g4
        clear hlo g1 g2 g3 g4
        go_enter Tryd.func17, Tryd.ntmps17
        go_wp2_with fail
        refine (sourceFault_any l _ (by omega) hT1).mono ?_
        rintro e w1 ⟨rfl, hb1⟩
        rw [HZ.out]
        have hB1 := (Blk.new w 24 #[.int .i64 0, .int .i64 0]).belowS hb1
        have hb := below_then ((Below.refl _ w).alloc (Nat.le_refl _) _) hb1 (by simp)
        clear hb1 hT1
        unfold flt
        go_wp2_with fail
        refine (sourceLines_any l _ hl).mono ?_
        rintro e w2 ⟨A, cp, rfl, hcap, hrow, hb2⟩
        rw [HN.out] at hcap
        rw [HN.out]
        have hB2 := (hB1.alloc _).belowS hb2
        have hF2 := (Blk.new w1 24 _).belowS hb2
        have hb3 := below_then (hb.alloc hb.size _) hb2 (by have := hb.size; simp; omega)
        have hs3 := hb.size
        clear hB1 hb hb2
        obtain ⟨q1, q2, q3⟩ := hB2.rules
        obtain ⟨r1, r2, r3⟩ := hF2.rules
        have hcell : ∃ b off, A = some ⟨b, off, none⟩ ∧ b < w2.heap.size ∧ w2.cell? ⟨b, off + q.length, none⟩ = some (.string ⟨x.toArray⟩) := by
          have hq2 : q.length < (splitB 10 l).length := by rw [HN.out]; exact hql
          obtain ⟨b, off, e, hlt, hcc⟩ := hrow.str (k := q.length) hq2
          have := HQK.out
          rw [List.getElem?_eq_getElem hq2] at this
          rw [Option.some.inj this] at hcc
          exact ⟨b, off, e, hlt, hcc⟩
        obtain ⟨b, off, rfl, hlt, hcc⟩ := hcell
        clear hrow
        have hch : ∀ W : World, Tabs W → Calls Tryd.prog 27 #[.string ⟨x.toArray⟩] W (StrPost X W) := fun W hW => by
          have := characters_any X HX.out W (by rw [HB3.out]; omega) hW
          rwa [HB3.out] at this
        have HCH := Lib.hid hch
        clear hch
        go_wp2_with fail
        refine (HCH.out _ (hT.keepB hb3)).mono ?_
        rintro e w3 ⟨A3, c3, rfl, _, _, hb4⟩
        have hB3 := hB2.belowS hb4
        have hb5 := below_then hb3 hb4 hb3.size
        clear hB2 hF2 hb3 hb4 q1 q2 q3 r1 r2 r3 hcc hlt
        obtain ⟨q1, q2, q3⟩ := hB3.rules
        by_cases hhi : (X.length : Int) + 1 < col
        · have HL := Lib.hid (show offOf l ((q.length : Int) + 1) col = (0, (4, -3)) by rw [HO.out, HRX.out, if_pos (.inr hhi)])
          have d4 : decide ((X.length : Int) + 1 < col) = true := decide_eq_true hhi
          clear hhi
          go_wp2_with fail
          refine (at_any _ _ _).mono ?_
          rintro e w9 ⟨rfl, hb9⟩
          have hB9 := hB3.belowS hb9
          have hb9' := below_then hb5 hb9 hb5.size
          clear q1 q2 q3
          obtain ⟨q1, q2, q3⟩ := hB9.rules
          unfold flt
          go_wp2_with fail
          exact ret_tmp_blk rfl rfl ((hB9.set_ 0 (.int .i64 4)).set_ 1 (.int .i64 (-3))) _ Tryd.underlying24 rfl (by kernel_rfl) rfl _ rfl ⟨(by rw [HL.out]; rfl), (hb9'.setCell (p := ⟨_, 0, none⟩) (by simp) _).setCell (p := ⟨_, 1, none⟩) (by simp) _⟩
        · have d4 : decide ((X.length : Int) + 1 < col) = false := decide_eq_false hhi
          obtain ⟨m, hm⟩ : ∃ m : Nat, col = (m : Int) + 1 := ⟨(col - 1).toNat, by have := HLO.out; omega⟩
          have hmX : m ≤ X.length := by omega
          obtain ⟨kt, hkt, hpl, hlen⟩ := split_place cs Q X T m HB1.out hmX
          have hp : place (cs.take kt) = ((q.length : Int) + 1, (m : Int) + 1) := by
            unfold place
            rw [hpl 1 1, ← HB2.out, List.length_map]
            split <;> (refine Prod.ext ?_ ?_ <;> simp only <;> omega)
          have hoff : offOf l ((q.length : Int) + 1) col = ((((cs.take kt).flatten.length : Nat) : Int), (0, 0)) := by
            have h1 := runeOff_chars m X HX.out
            rw [HB3.out] at h1
            rw [HO.out, HRX.out, if_neg (by rw [hm]; omega), hm, show ((m : Int) + 1 - 1).toNat = m by omega, h1, ← hlen, HB2.out]
            refine Prod.ext ?_ rfl
            simp
          have hole := take_len_le cs kt
          rw [← HLC.out] at hole
          obtain ⟨o, ho⟩ : ∃ o, (cs.take kt).flatten.length = o := ⟨_, rfl⟩
          rw [ho] at hole hoff
          have HL := Lib.hid hoff
          have HP := Lib.hid hp
          have HK := Lib.hid ho
          have hws := widths_len l
          subst hm
          have d5 : decide (X.length < m) = false := decide_eq_false (by omega)
          clear hhi hpl hlen hp hoff ho HO HLO HG4 d1 d2 HCH
          go_wp2_with fail
          go_loopw [10] (fun i wr => ∃ n : Nat, i = .int .i64 n ∧ n ≤ o ∧ Blk wr w.heap.size 24 #[.int .i64 0, .int .i64 0] ∧ Below w.heap.size w wr) (fun i _ => l.length + 1 - (RowKit.intOf i).toNat)
          case atStart => exact ⟨0, rfl, Nat.zero_le _, hB3, hb5⟩
          case round =>
            obtain ⟨n, rfl, hn, hB, hb⟩ := hrel
            clear hB3 hb5 q1 q2 q3
            have hTr := hT.keepB hb
            by_cases heq : n = o
            · subst heq
              have hpc : ∀ W : World, Tabs W → Calls Tryd.prog 16 #[.string ⟨l.toArray⟩, .int .i64 (n : Int)] W fun e w' => e = .returned (.tuple #[.int .i64 ((q.length : Int) + 1), .int .i64 ((m : Int) + 1)]) ∧ Below W.heap.size W w' := fun W hW => by
                have := place_any cs HCS.out kt hkt n (by rw [HK.out]) W (by rw [← HLC.out]; exact hle) hW
                rwa [HP.out, ← HLC.out] at this
              have HPC := Lib.hid hpc
              clear hpc hws
              by_cases hnl : n < l.length
              · have hktl : kt < cs.length := by
                  rcases Nat.lt_or_ge kt cs.length with h | h
                  · exact h
                  · exfalso
                    have := HK.out
                    rw [List.take_of_length_le h, ← HLC.out] at this
                    omega
                have hpos := (HCS.out cs[kt] (List.getElem_mem hktl)).pos
                have hwa := wid_at cs HCS.out kt hktl 0 hpos
                rw [HK.out, Nat.add_zero, if_pos rfl, ← HLC.out] at hwa
                have hcm : (ics (widths l)).toArray[n]? = some (.int .i64 (cs[kt].length : Int)) := by simp [ics, hwa]
                have HCM := Lib.hid hcm
                have hz : (((cs[kt].length : Nat) : Int) == 0) = false := by rw [beq_eq_false_iff_ne]; omega
                generalize cs[kt].length = wl at *
                clear hwa hcm
                go_wp2_with fail
                refine (widths_any l _ hle hTr).mono ?_
                rintro e w7 ⟨rfl, hBW, hb7x⟩
                have hcw := hBW.cell n
                rw [HCM.out] at hcw
                have hB7 := hB.belowS hb7x
                have hb7 := below_then hb hb7x hb.size
                have hlw : wr.heap.size < w7.heap.size := hBW.lt
                clear hBW hb7x
                obtain ⟨q1, q2, q3⟩ := hB7.rules
                go_wp2_with fail
                refine (HPC.out _ (hT.keepB hb7)).mono ?_
                rintro e w8 ⟨rfl, hb8⟩
                have hB8 := hB7.belowS hb8
                have hb8' := below_then hb7 hb8 hb7.size
                clear hB7 hb7 q1 q2 q3
                obtain ⟨q1, q2, q3⟩ := hB8.rules
                go_wp2_with fail
                exact ret_tmp_blk rfl rfl ((hB8.set_ 0 (.int .i64 0)).set_ 1 (.int .i64 0)) _ Tryd.underlying24 rfl (by kernel_rfl) rfl _ rfl ⟨(by rw [HL.out]; rfl), (hb8'.setCell (p := ⟨_, 0, none⟩) (by simp) _).setCell (p := ⟨_, 1, none⟩) (by simp) _⟩
              · have dn : decide ((n : Int) < (l.length : Int)) = false := decide_eq_false (by omega)
                go_wp2_with fail
                refine (HPC.out _ hTr).mono ?_
                rintro e w8 ⟨rfl, hb8⟩
                have hB8 := hB.belowS hb8
                have hb8' := below_then hb hb8 hb.size
                obtain ⟨q1, q2, q3⟩ := hB8.rules
                go_wp2_with fail
                exact ret_tmp_blk rfl rfl ((hB8.set_ 0 (.int .i64 0)).set_ 1 (.int .i64 0)) _ Tryd.underlying24 rfl (by kernel_rfl) rfl _ rfl ⟨(by rw [HL.out]; rfl), (hb8'.setCell (p := ⟨_, 0, none⟩) (by simp) _).setCell (p := ⟨_, 1, none⟩) (by simp) _⟩
            · have hnl : n < l.length := by omega
              obtain ⟨j, r, hj, hr, hnj⟩ := in_char cs n (by rw [← HLC.out]; exact hnl)
              have hwa := wid_at cs HCS.out j hj r hr
              rw [← hnj, ← HLC.out] at hwa
              rcases Nat.eq_zero_or_pos r with hr0 | hr0
              · subst hr0
                rw [Nat.add_zero] at hnj
                have hpos := (HCS.out cs[j] (List.getElem_mem hj)).pos
                rw [if_pos rfl] at hwa
                have hcm : (ics (widths l)).toArray[n]? = some (.int .i64 (cs[j].length : Int)) := by simp [ics, hwa]
                have HCM := Lib.hid hcm
                have hz : (((cs[j].length : Nat) : Int) == 0) = false := by rw [beq_eq_false_iff_ne]; omega
                have hjk : j < kt := by
                  rcases Nat.lt_or_ge j kt with h | h
                  · exact h
                  · exfalso
                    have h1 : (cs.take kt).flatten.length ≤ (cs.take j).flatten.length := by
                      have e : cs.take kt = (cs.take j).take kt := by rw [List.take_take, Nat.min_eq_left h]
                      rw [e]
                      exact take_len_le _ _
                    have := HK.out
                    omega
                have hne := before_ne (before_take cs j kt hjk hkt)
                rw [HP.out] at hne
                obtain ⟨pa, pb, hpab⟩ : ∃ pa pb, place (cs.take j) = (pa, pb) := ⟨_, _, rfl⟩
                rw [hpab] at hne
                have hpc : ∀ W : World, Tabs W → Calls Tryd.prog 16 #[.string ⟨l.toArray⟩, .int .i64 (n : Int)] W fun e w' => e = .returned (.tuple #[.int .i64 pa, .int .i64 pb]) ∧ Below W.heap.size W w' := fun W hW => by
                  have := place_any cs HCS.out j (by omega) n (by rw [hnj]) W (by rw [← HLC.out]; exact hle) hW
                  rwa [hpab, ← HLC.out] at this
                have HPC := Lib.hid hpc
                have HNE := Lib.hid hne
                generalize cs[j].length = wl at *
                clear hwa hcm hpc hne hpab hnj
                go_wp2_with fail
                refine (widths_any l _ hle hTr).mono ?_
                rintro e w7 ⟨rfl, hBW, hb7x⟩
                have hcw := hBW.cell n
                rw [HCM.out] at hcw
                have hB7 := hB.belowS hb7x
                have hb7 := below_then hb hb7x hb.size
                have hlw : wr.heap.size < w7.heap.size := hBW.lt
                clear hBW hb7x
                obtain ⟨q1, q2, q3⟩ := hB7.rules
                go_wp2_with fail
                refine (HPC.out _ (hT.keepB hb7)).mono ?_
                rintro e w8 ⟨rfl, hb8⟩
                have hB8 := hB7.belowS hb8
                have hb8' := below_then hb7 hb8 hb7.size
                clear hB7 hb7 q1 q2 q3
                by_cases hpa : pa = (q.length : Int) + 1
                · subst hpa
                  have hpb : (pb == (m : Int) + 1) = false := by rw [beq_eq_false_iff_ne]; exact fun e => HNE.out (by rw [e])
                  go_wp2_with fail
                  go_roundw
                  case rel => first | exact ⟨n + 1, by go_num, by omega, hB8, hb8'⟩ | ((repeat apply Exists.intro); exact ⟨⟨n + 1, by go_num, by omega, hB8, hb8'⟩, rfl⟩)
                  case measure => simp [RowKit.intOf]; omega
                · have hpb : (pa == (q.length : Int) + 1) = false := by rw [beq_eq_false_iff_ne]; exact hpa
                  clear hpa
                  go_wp2_with fail
                  go_roundw
                  case rel => first | exact ⟨n + 1, by go_num, by omega, hB8, hb8'⟩ | ((repeat apply Exists.intro); exact ⟨⟨n + 1, by go_num, by omega, hB8, hb8'⟩, rfl⟩)
                  case measure => simp [RowKit.intOf]; omega
              · rw [if_neg (by omega)] at hwa
                have hcm : (ics (widths l)).toArray[n]? = some (.int .i64 0) := by simp [ics, hwa]
                have HCM := Lib.hid hcm
                clear hwa hcm hnj hr
                go_wp2_with fail
                refine (widths_any l _ hle hTr).mono ?_
                rintro e w7 ⟨rfl, hBW, hb7x⟩
                have hcw := hBW.cell n
                rw [HCM.out] at hcw
                have hB7 := hB.belowS hb7x
                have hb7 := below_then hb hb7x hb.size
                have hlw : wr.heap.size < w7.heap.size := hBW.lt
                clear hBW hb7x
                obtain ⟨q1, q2, q3⟩ := hB7.rules
                go_wp2_with fail
                go_roundw
                case rel => first | exact ⟨n + 1, by go_num, by omega, hB7, hb7⟩ | ((repeat apply Exists.intro); exact ⟨⟨n + 1, by go_num, by omega, hB7, hb7⟩, rfl⟩)
                case measure => simp [RowKit.intOf]; omega
  · have HL := Lib.hid (show offOf l line col = (0, (c, i)) by unfold offOf; rw [hs]; exact if_pos hc)
    have HZ := Lib.hid hs
    have hcb : (c != 0) = true := by simpa using hc
    clear hc hs
    go_enter Tryd.func17, Tryd.ntmps17
    go_wp2_with fail
    refine (sourceFault_any l _ (by omega) hT1).mono ?_
    rintro e w1 ⟨rfl, hb1⟩
    rw [HZ.out]
    have hB1 := (Blk.new w 24 #[.int .i64 0, .int .i64 0]).belowS hb1
    have hb := below_then ((Below.refl _ w).alloc (Nat.le_refl _) _) hb1 (by simp)
    clear hb1 hT1
    unfold flt
    go_wp2_with fail
    refine (sourceLines_any l _ hl).mono ?_
    rintro e w2 ⟨A, cp, rfl, hcap, hrow, hb2⟩
    rw [HN.out] at hcap
    rw [HN.out]
    have hB2 := (hB1.alloc _).belowS hb2
    have hF2 := (Blk.new w1 24 _).belowS hb2
    have hb3 := below_then (hb.alloc hb.size _) hb2 (by have := hb.size; simp; omega)
    have hs3 := hb.size
    clear hB1 hb hb2
    obtain ⟨q1, q2, q3⟩ := hB2.rules
    obtain ⟨r1, r2, r3⟩ := hF2.rules
    go_wp2_with fail
    go_region
    all_goals go_wp2_with fail
    exact ret_tmp_blk rfl rfl ((hB2.set_ 0 (.int .i64 c)).set_ 1 (.int .i64 i)) _ Tryd.underlying24 rfl (by kernel_rfl) rfl _ rfl ⟨(by rw [HL.out]; rfl), ((hb3.setCell (p := ⟨_, 0, none⟩) (by simp) _).setCell (p := ⟨_, 1, none⟩) (by simp) _).drew⟩

end Go.Proofs.YtfocggdplahnbaaDoor
