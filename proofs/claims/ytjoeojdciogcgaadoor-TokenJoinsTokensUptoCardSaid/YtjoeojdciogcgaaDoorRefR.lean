/- The reference's numerals: what it computes of them. Nothing is claimed here. -/
import Derived.Test.YtjoeojdciogcgaaDoorRefQ
namespace Go.Proofs.YtjoeojdciogcgaaDoor
open Go.RowKit Go.Shelf Go.Lib Go.Maps
set_option linter.unusedVariables false

theorem hasB_p (p : UInt8 → Bool) (S : List UInt8) (hS : ∀ c, S.contains c = p c) (h0 : p 0 = false) (l : List UInt8) (i : Nat) : hasB l i S = p (at0 l i) := by
  unfold hasB
  rw [hS]
  by_cases h : i < l.length
  · rw [decide_eq_true h, Bool.true_and]
  · rw [decide_eq_false h, Bool.false_and, at0_ge l i (by omega), h0]
theorem hasp_any (p : UInt8 → Bool) (S : List UInt8) (hS : ∀ c, S.contains c = p c) (h0 : p 0 = false) (l : List UInt8) (i : Nat) (x : Int) (hx : x = (i : Int)) (b : Bool) (hb : p (at0 l i) = b) (w : World) (hl : l.length ≤ 16000) (hi : i ≤ 20000) :
    Calls Tryd.prog 56 #[.string ⟨l.toArray⟩, .int .i64 x, .string ⟨S.toArray⟩] w fun e w' => e = .returned (.bool b) ∧ w = w' := by
  have h := has_any l S i x hx w hl hi
  rw [hasB_p p S hS h0, hb] at h
  exact h
def isXb (c : UInt8) : Bool := c == 120 || c == 98
theorem xbL_is (c : UInt8) : ([120, 98] : List UInt8).contains c = isXb c := by
  have := byte_all (fun c => ([120, 98] : List UInt8).contains c == isXb c) (by decide +kernel) c
  simpa using this
def isDot (c : UInt8) : Bool := c == 46
theorem dotL_is (c : UInt8) : ([46] : List UInt8).contains c = isDot c := by
  have := byte_all (fun c => ([46] : List UInt8).contains c == isDot c) (by decide +kernel) c
  simpa using this

theorem hasW_any (l : List UInt8) (i : Nat) (x : Int) (hx : x = (i : Int)) (b : Bool) (hb : isWrd (at0 l i) = b) (w : World) (hl : l.length ≤ 16000) (hi : i ≤ 20000) :
    Calls Tryd.prog 56 #[.string ⟨l.toArray⟩, .int .i64 x, .string ⟨#[97, 98, 99, 100, 101, 102, 103, 104, 105, 106, 107, 108, 109, 110, 111, 112, 113, 114, 115, 116, 117, 118, 119, 120, 121, 122, 65, 66, 67, 68, 69, 70, 71, 72, 73, 74, 75, 76, 77, 78, 79, 80, 81, 82, 83, 84, 85, 86, 87, 88, 89, 90, 95, 48, 49, 50, 51, 52, 53, 54, 55, 56, 57]⟩] w fun e w' => e = .returned (.bool b) ∧ w = w' := hasp_any isWrd wrdL wrdL_is rfl l i x hx b hb w hl hi
theorem hasD_any (l : List UInt8) (i : Nat) (x : Int) (hx : x = (i : Int)) (b : Bool) (hb : isDig (at0 l i) = b) (w : World) (hl : l.length ≤ 16000) (hi : i ≤ 20000) :
    Calls Tryd.prog 56 #[.string ⟨l.toArray⟩, .int .i64 x, .string ⟨#[48, 49, 50, 51, 52, 53, 54, 55, 56, 57]⟩] w fun e w' => e = .returned (.bool b) ∧ w = w' := hasp_any isDig digL digL_is rfl l i x hx b hb w hl hi
theorem runD_any (l : List UInt8) (i : Nat) (x : Int) (hx : x = (i : Int)) (w : World) (hl : l.length ≤ 16000) (hi : i ≤ l.length + 2) :
    Calls Tryd.prog 55 #[.string ⟨l.toArray⟩, .int .i64 x, .string ⟨#[48, 49, 50, 51, 52, 53, 54, 55, 56, 57]⟩] w fun e w' => e = .returned (.int .i64 ((i + span isDig (l.drop i) : Nat) : Int)) ∧ w = w' := run_any isDig digL digL_is l i x hx w hl hi
theorem runH_any (l : List UInt8) (i : Nat) (x : Int) (hx : x = (i : Int)) (w : World) (hl : l.length ≤ 16000) (hi : i ≤ l.length + 2) :
    Calls Tryd.prog 55 #[.string ⟨l.toArray⟩, .int .i64 x, .string ⟨#[48, 49, 50, 51, 52, 53, 54, 55, 56, 57, 97, 98, 99, 100, 101, 102]⟩] w fun e w' => e = .returned (.int .i64 ((i + span isHex (l.drop i) : Nat) : Int)) ∧ w = w' := run_any isHex hexL hexL_is l i x hx w hl hi
theorem runB_any (l : List UInt8) (i : Nat) (x : Int) (hx : x = (i : Int)) (w : World) (hl : l.length ≤ 16000) (hi : i ≤ l.length + 2) :
    Calls Tryd.prog 55 #[.string ⟨l.toArray⟩, .int .i64 x, .string ⟨#[48, 49]⟩] w fun e w' => e = .returned (.int .i64 ((i + span isBin (l.drop i) : Nat) : Int)) ∧ w = w' := run_any isBin [48, 49] binL_is l i x hx w hl hi
set_option maxHeartbeats 4000000 in
set_option maxRecDepth 100000 in
theorem numeral_any (l : List UInt8) (i : Nat) (w : World) (hl : l.length ≤ 16000) (hi : i < l.length) (hd : isDig (at0 l i) = true) :
    Calls Tryd.prog 60 #[.string ⟨l.toArray⟩, .int .i64 (i : Int)] w (PPost w i (lexNum (l.drop i))) := by
  have hP : ∀ v : Int, Blk ((w.alloc (.cells #[.int .i64 0, .int .i64 0, .int .i64 0, .int .i64 0] 67)).alloc (.cells #[.int .i64 6, .int .i64 v, .int .i64 0, .int .i64 0] 67)) w.heap.size 67 #[.int .i64 0, .int .i64 0, .int .i64 0, .int .i64 0] := fun v => (Blk.new w 67 #[.int .i64 0, .int .i64 0, .int .i64 0, .int .i64 0]).alloc (.cells #[.int .i64 6, .int .i64 v, .int .i64 0, .int .i64 0] 67)
  have hQ : ∀ v : Int, Blk ((w.alloc (.cells #[.int .i64 0, .int .i64 0, .int .i64 0, .int .i64 0] 67)).alloc (.cells #[.int .i64 6, .int .i64 v, .int .i64 0, .int .i64 0] 67)) (w.heap.size + 1) 67 #[.int .i64 6, .int .i64 v, .int .i64 0, .int .i64 0] := fun v => by
    have h := Blk.new (w.alloc (.cells #[.int .i64 0, .int .i64 0, .int .i64 0, .int .i64 0] 67)) 67 #[.int .i64 6, .int .i64 v, .int .i64 0, .int .i64 0]
    rw [show (w.alloc (.cells #[.int .i64 0, .int .i64 0, .int .i64 0, .int .i64 0] 67)).heap.size = w.heap.size + 1 from by simp] at h
    exact h
  have hb : ∀ v : Int, Below w.heap.size w ((w.alloc (.cells #[.int .i64 0, .int .i64 0, .int .i64 0, .int .i64 0] 67)).alloc (.cells #[.int .i64 6, .int .i64 v, .int .i64 0, .int .i64 0] 67)) := fun v => ((Below.refl _ w).alloc (Nat.le_refl _) _).alloc (by simp) _
  have HP := Lib.hid hP
  have HQ := Lib.hid hQ
  have HB := Lib.hid hb
  clear hP hQ hb
  have hix := run_idx l i hi (i : Int) rfl
  have h00 : at0 (l.drop i) 0 = at0 l i := at0_drop l i 0
  have h01 : at0 (l.drop i) 1 = at0 l (i + 1) := at0_drop l i 1
  cases h48 : (at0 l i == 48)
  · have hne : at0 l i ≠ 48 := by simpa using h48
    have hlx : lexNum (l.drop i) = numTail (l.drop i) (numLen (l.drop i)) := by
      unfold lexNum
      rw [if_neg (fun h => hne (h00 ▸ h.1))]
    have hx48 : (((at0 l i).toNat : Int) == 48) = false := by
      rw [beq_eq_false_iff_ne]
      intro h
      exact hne (UInt8.toNat_inj.1 (by show (at0 l i).toNat = 48; omega))
    have hsp := span_at isDig l i hi
    rw [hd, if_pos rfl] at hsp
    obtain ⟨n1, hn1⟩ : ∃ n1, span isDig (l.drop i) = n1 := ⟨_, rfl⟩
    have hil : intLen (l.drop i) = n1 := by
      unfold intLen
      rw [if_neg (fun h => hne (h00 ▸ h)), List.drop_drop, ← hn1, hsp]
      omega
    have hle1 := span_drop_le isDig l i (by omega)
    rw [hn1] at hle1
    have hpos : 0 < n1 := by omega
    clear hsp
    have HRUN := Lib.hid (fun W => runD_any l i (i : Int) rfl W hl (by omega))
    have HN := Lib.hid hn1
    have HIL := Lib.hid hil
    have HLX := Lib.hid hlx
    clear hn1 hil hlx h00 h01 h48 hne hd
    go_enter Tryd.func60, Tryd.ntmps60
    go_wp2_with fail
    refine (HRUN.out _).mono ?_
    rintro e w1 ⟨rfl, rfl⟩
    rw [HN.out]
    obtain ⟨e1, he1⟩ : ∃ e1, i + n1 = e1 := ⟨_, rfl⟩
    rw [he1] at hle1 ⊢
    go_wp2_with fail
    cases hd1 : isDot (at0 l e1)
    · have HL := Lib.hid (HLX.out.trans (by rw [show numLen (l.drop i) = n1 from by unfold numLen; rw [HIL.out, at0_drop, at0_drop, ← Nat.add_assoc, he1, if_neg (by rintro ⟨h1, h2⟩; simp_all [isDot])]] : _ = numTail (l.drop i) n1))
      have HE := Lib.hid he1
      refine (hasp_any isDot [46] dotL_is rfl l e1 _ rfl false hd1 _ hl (by omega)).mono ?_
      rintro e w1 ⟨rfl, rfl⟩
      clear hd1
      go_wp2_with fail
      -- the rest of a numeral
      refine (hasW_any l e1 _ (by omega) (isWrd (at0 l e1)) rfl _ hl (by omega)).mono ?_
      rintro e0 w9 ⟨rfl, rfl⟩
      cases hw : isWrd (at0 l e1)
      · by_cases h6 : 600 < n1
        · have HR := Lib.hid (show lexNum (l.drop i) = Except.error (3, 0) from by rw [HL.out]; unfold numTail; rw [at0_drop, HE.out, hw, if_neg (by decide), if_pos h6])
          have c1 : (600 : Int) < (e1 : Int) - (i : Int) := by omega
          clear hw
          go_wp2_with fail
          refine (atR_any 3 (i : Int) _).mono ?_
          rintro e0 w5 ⟨rfl, hbb⟩
          have hP5 := Blk.belowS (HP.out e1) hbb
          have hQ5 := Blk.belowS (HQ.out e1) hbb
          have hb5 := below_then (HB.out e1) hbb (Below.size (HB.out e1))
          clear hbb
          obtain ⟨q1, q2, q3⟩ := hQ5.rules
          obtain ⟨p1, p2, p3⟩ := hP5.rules
          unfold flt
          go_wp2_with fail
          have hP6 := (hP5.far (p := ⟨w.heap.size + 1, 2, none⟩) (by simp) (.int .i64 3)).far (p := ⟨w.heap.size + 1, 3, none⟩) (by simp) (.int .i64 (i : Int))
          have hb6 := (hb5.setCell (p := ⟨w.heap.size + 1, 2, none⟩) (Nat.le_succ _) (.int .i64 3)).setCell (p := ⟨w.heap.size + 1, 3, none⟩) (Nat.le_succ _) (.int .i64 (i : Int))
          exact ret_blk rfl rfl (hP6.set4 (.int .i64 6) (.int .i64 (e1 : Int)) (.int .i64 3) (.int .i64 (i : Int))) _ Tryd.underlying67 rfl (by kernel_rfl) rfl (PPost.err HR.out (below_set4 hb6 (Nat.le_refl _) _ _ _ _) rfl (by have := HE.out; omega))
        · have HR := Lib.hid (show lexNum (l.drop i) = Except.ok (6, n1) from by rw [HL.out]; unfold numTail; rw [at0_drop, HE.out, hw, if_neg (by decide), if_neg h6])
          have c1 : ¬ (600 : Int) < (e1 : Int) - (i : Int) := by omega
          clear hw
          go_wp2_with fail
          exact ret_blk rfl rfl ((Blk.new w 67 #[.int .i64 6, .int .i64 (e1 : Int), .int .i64 0, .int .i64 0]).alloc (.cells #[.int .i64 6, .int .i64 (e1 : Int), .int .i64 0, .int .i64 0] 67)) _ Tryd.underlying67 rfl (by kernel_rfl) rfl (PPost.ok HR.out (((Below.refl _ w).alloc (Nat.le_refl _) _).alloc (by simp) _) rfl (by have := HE.out; omega))
      · have HR := Lib.hid (show lexNum (l.drop i) = Except.error (1, n1) from by rw [HL.out]; unfold numTail; rw [at0_drop, HE.out, hw, if_pos rfl])
        clear hw
        go_wp2_with fail
        refine (atR_any 1 (e1 : Int) _).mono ?_
        rintro e0 w5 ⟨rfl, hbb⟩
        have hP5 := Blk.belowS (HP.out e1) hbb
        have hQ5 := Blk.belowS (HQ.out e1) hbb
        have hb5 := below_then (HB.out e1) hbb (Below.size (HB.out e1))
        clear hbb
        obtain ⟨q1, q2, q3⟩ := hQ5.rules
        obtain ⟨p1, p2, p3⟩ := hP5.rules
        unfold flt
        go_wp2_with fail
        have hP6 := (hP5.far (p := ⟨w.heap.size + 1, 2, none⟩) (by simp) (.int .i64 1)).far (p := ⟨w.heap.size + 1, 3, none⟩) (by simp) (.int .i64 (e1 : Int))
        have hb6 := (hb5.setCell (p := ⟨w.heap.size + 1, 2, none⟩) (Nat.le_succ _) (.int .i64 1)).setCell (p := ⟨w.heap.size + 1, 3, none⟩) (Nat.le_succ _) (.int .i64 (e1 : Int))
        exact ret_blk rfl rfl (hP6.set4 (.int .i64 6) (.int .i64 (e1 : Int)) (.int .i64 1) (.int .i64 (e1 : Int))) _ Tryd.underlying67 rfl (by kernel_rfl) rfl (PPost.err HR.out (below_set4 hb6 (Nat.le_refl _) _ _ _ _) rfl (by have := HE.out; omega))
    · cases hd2 : isDig (at0 l (e1 + 1))
      · have HL := Lib.hid (HLX.out.trans (by rw [show numLen (l.drop i) = n1 from by unfold numLen; rw [HIL.out, at0_drop, at0_drop, ← Nat.add_assoc, he1, if_neg (by rintro ⟨h1, h2⟩; simp_all [isDot])]] : _ = numTail (l.drop i) n1))
        have HE := Lib.hid he1
        refine (hasp_any isDot [46] dotL_is rfl l e1 _ rfl true hd1 _ hl (by omega)).mono ?_
        rintro e w1 ⟨rfl, rfl⟩
        have HD2 := Lib.hid hd2
        clear hd1 hd2
        go_wp2_with fail
        refine (hasD_any l (e1 + 1) _ (by omega) false HD2.out _ hl (by omega)).mono ?_
        rintro e w1 ⟨rfl, rfl⟩
        go_wp2_with fail
        -- the rest of a numeral
        refine (hasW_any l e1 _ (by omega) (isWrd (at0 l e1)) rfl _ hl (by omega)).mono ?_
        rintro e0 w9 ⟨rfl, rfl⟩
        cases hw : isWrd (at0 l e1)
        · by_cases h6 : 600 < n1
          · have HR := Lib.hid (show lexNum (l.drop i) = Except.error (3, 0) from by rw [HL.out]; unfold numTail; rw [at0_drop, HE.out, hw, if_neg (by decide), if_pos h6])
            have c1 : (600 : Int) < (e1 : Int) - (i : Int) := by omega
            clear hw
            go_wp2_with fail
            refine (atR_any 3 (i : Int) _).mono ?_
            rintro e0 w5 ⟨rfl, hbb⟩
            have hP5 := Blk.belowS (HP.out e1) hbb
            have hQ5 := Blk.belowS (HQ.out e1) hbb
            have hb5 := below_then (HB.out e1) hbb (Below.size (HB.out e1))
            clear hbb
            obtain ⟨q1, q2, q3⟩ := hQ5.rules
            obtain ⟨p1, p2, p3⟩ := hP5.rules
            unfold flt
            go_wp2_with fail
            have hP6 := (hP5.far (p := ⟨w.heap.size + 1, 2, none⟩) (by simp) (.int .i64 3)).far (p := ⟨w.heap.size + 1, 3, none⟩) (by simp) (.int .i64 (i : Int))
            have hb6 := (hb5.setCell (p := ⟨w.heap.size + 1, 2, none⟩) (Nat.le_succ _) (.int .i64 3)).setCell (p := ⟨w.heap.size + 1, 3, none⟩) (Nat.le_succ _) (.int .i64 (i : Int))
            exact ret_blk rfl rfl (hP6.set4 (.int .i64 6) (.int .i64 (e1 : Int)) (.int .i64 3) (.int .i64 (i : Int))) _ Tryd.underlying67 rfl (by kernel_rfl) rfl (PPost.err HR.out (below_set4 hb6 (Nat.le_refl _) _ _ _ _) rfl (by have := HE.out; omega))
          · have HR := Lib.hid (show lexNum (l.drop i) = Except.ok (6, n1) from by rw [HL.out]; unfold numTail; rw [at0_drop, HE.out, hw, if_neg (by decide), if_neg h6])
            have c1 : ¬ (600 : Int) < (e1 : Int) - (i : Int) := by omega
            clear hw
            go_wp2_with fail
            exact ret_blk rfl rfl ((Blk.new w 67 #[.int .i64 6, .int .i64 (e1 : Int), .int .i64 0, .int .i64 0]).alloc (.cells #[.int .i64 6, .int .i64 (e1 : Int), .int .i64 0, .int .i64 0] 67)) _ Tryd.underlying67 rfl (by kernel_rfl) rfl (PPost.ok HR.out (((Below.refl _ w).alloc (Nat.le_refl _) _).alloc (by simp) _) rfl (by have := HE.out; omega))
        · have HR := Lib.hid (show lexNum (l.drop i) = Except.error (1, n1) from by rw [HL.out]; unfold numTail; rw [at0_drop, HE.out, hw, if_pos rfl])
          clear hw
          go_wp2_with fail
          refine (atR_any 1 (e1 : Int) _).mono ?_
          rintro e0 w5 ⟨rfl, hbb⟩
          have hP5 := Blk.belowS (HP.out e1) hbb
          have hQ5 := Blk.belowS (HQ.out e1) hbb
          have hb5 := below_then (HB.out e1) hbb (Below.size (HB.out e1))
          clear hbb
          obtain ⟨q1, q2, q3⟩ := hQ5.rules
          obtain ⟨p1, p2, p3⟩ := hP5.rules
          unfold flt
          go_wp2_with fail
          have hP6 := (hP5.far (p := ⟨w.heap.size + 1, 2, none⟩) (by simp) (.int .i64 1)).far (p := ⟨w.heap.size + 1, 3, none⟩) (by simp) (.int .i64 (e1 : Int))
          have hb6 := (hb5.setCell (p := ⟨w.heap.size + 1, 2, none⟩) (Nat.le_succ _) (.int .i64 1)).setCell (p := ⟨w.heap.size + 1, 3, none⟩) (Nat.le_succ _) (.int .i64 (e1 : Int))
          exact ret_blk rfl rfl (hP6.set4 (.int .i64 6) (.int .i64 (e1 : Int)) (.int .i64 1) (.int .i64 (e1 : Int))) _ Tryd.underlying67 rfl (by kernel_rfl) rfl (PPost.err HR.out (below_set4 hb6 (Nat.le_refl _) _ _ _ _) rfl (by have := HE.out; omega))
      · obtain ⟨n2, hn2⟩ : ∃ n2, n1 + 1 + span isDig (l.drop (e1 + 1)) = n2 := ⟨_, rfl⟩
        obtain ⟨e2, he2⟩ : ∃ e2, i + n2 = e2 := ⟨_, rfl⟩
        have HL := Lib.hid (HLX.out.trans (by rw [show numLen (l.drop i) = n2 from by unfold numLen; rw [HIL.out, at0_drop, at0_drop, ← Nat.add_assoc, he1, if_pos ⟨by simpa [isDot] using hd1, hd2⟩, List.drop_drop, ← Nat.add_assoc, he1, hn2]] : _ = numTail (l.drop i) n2))
        have HE := Lib.hid he2
        have hlt2 : e1 < l.length := by
          rcases Nat.lt_or_ge e1 l.length with h | h
          · exact h
          · rw [at0_ge l e1 h] at hd1; exact absurd hd1 (by decide)
        have hle2 := span_drop_le isDig l (e1 + 1) (by omega)
        have he3 : e1 + 1 + span isDig (l.drop (e1 + 1)) = e2 := by omega
        rw [he3] at hle2
        have HRUN2 := Lib.hid (fun W => runD_any l (e1 + 1) ((e1 : Int) + 1) (by omega) W hl (by omega))
        have HE3 := Lib.hid he3
        refine (hasp_any isDot [46] dotL_is rfl l e1 _ rfl true hd1 _ hl (by omega)).mono ?_
        rintro e w1 ⟨rfl, rfl⟩
        have HD2 := Lib.hid hd2
        clear hd1 hd2 hn2 he3
        go_wp2_with fail
        refine (hasD_any l (e1 + 1) _ (by omega) true HD2.out _ hl (by omega)).mono ?_
        rintro e w1 ⟨rfl, rfl⟩
        go_wp2_with fail
        refine (HRUN2.out _).mono ?_
        rintro e w1 ⟨rfl, rfl⟩
        rw [HE3.out]
        go_wp2_with fail
        -- the rest of a numeral
        refine (hasW_any l e2 _ (by omega) (isWrd (at0 l e2)) rfl _ hl (by omega)).mono ?_
        rintro e0 w9 ⟨rfl, rfl⟩
        cases hw : isWrd (at0 l e2)
        · by_cases h6 : 600 < n2
          · have HR := Lib.hid (show lexNum (l.drop i) = Except.error (3, 0) from by rw [HL.out]; unfold numTail; rw [at0_drop, HE.out, hw, if_neg (by decide), if_pos h6])
            have c1 : (600 : Int) < (e2 : Int) - (i : Int) := by omega
            clear hw
            go_wp2_with fail
            refine (atR_any 3 (i : Int) _).mono ?_
            rintro e0 w5 ⟨rfl, hbb⟩
            have hP5 := Blk.belowS (HP.out e2) hbb
            have hQ5 := Blk.belowS (HQ.out e2) hbb
            have hb5 := below_then (HB.out e2) hbb (Below.size (HB.out e2))
            clear hbb
            obtain ⟨q1, q2, q3⟩ := hQ5.rules
            obtain ⟨p1, p2, p3⟩ := hP5.rules
            unfold flt
            go_wp2_with fail
            have hP6 := (hP5.far (p := ⟨w.heap.size + 1, 2, none⟩) (by simp) (.int .i64 3)).far (p := ⟨w.heap.size + 1, 3, none⟩) (by simp) (.int .i64 (i : Int))
            have hb6 := (hb5.setCell (p := ⟨w.heap.size + 1, 2, none⟩) (Nat.le_succ _) (.int .i64 3)).setCell (p := ⟨w.heap.size + 1, 3, none⟩) (Nat.le_succ _) (.int .i64 (i : Int))
            exact ret_blk rfl rfl (hP6.set4 (.int .i64 6) (.int .i64 (e2 : Int)) (.int .i64 3) (.int .i64 (i : Int))) _ Tryd.underlying67 rfl (by kernel_rfl) rfl (PPost.err HR.out (below_set4 hb6 (Nat.le_refl _) _ _ _ _) rfl (by have := HE.out; omega))
          · have HR := Lib.hid (show lexNum (l.drop i) = Except.ok (6, n2) from by rw [HL.out]; unfold numTail; rw [at0_drop, HE.out, hw, if_neg (by decide), if_neg h6])
            have c1 : ¬ (600 : Int) < (e2 : Int) - (i : Int) := by omega
            clear hw
            go_wp2_with fail
            exact ret_blk rfl rfl ((Blk.new w 67 #[.int .i64 6, .int .i64 (e2 : Int), .int .i64 0, .int .i64 0]).alloc (.cells #[.int .i64 6, .int .i64 (e2 : Int), .int .i64 0, .int .i64 0] 67)) _ Tryd.underlying67 rfl (by kernel_rfl) rfl (PPost.ok HR.out (((Below.refl _ w).alloc (Nat.le_refl _) _).alloc (by simp) _) rfl (by have := HE.out; omega))
        · have HR := Lib.hid (show lexNum (l.drop i) = Except.error (1, n2) from by rw [HL.out]; unfold numTail; rw [at0_drop, HE.out, hw, if_pos rfl])
          clear hw
          go_wp2_with fail
          refine (atR_any 1 (e2 : Int) _).mono ?_
          rintro e0 w5 ⟨rfl, hbb⟩
          have hP5 := Blk.belowS (HP.out e2) hbb
          have hQ5 := Blk.belowS (HQ.out e2) hbb
          have hb5 := below_then (HB.out e2) hbb (Below.size (HB.out e2))
          clear hbb
          obtain ⟨q1, q2, q3⟩ := hQ5.rules
          obtain ⟨p1, p2, p3⟩ := hP5.rules
          unfold flt
          go_wp2_with fail
          have hP6 := (hP5.far (p := ⟨w.heap.size + 1, 2, none⟩) (by simp) (.int .i64 1)).far (p := ⟨w.heap.size + 1, 3, none⟩) (by simp) (.int .i64 (e2 : Int))
          have hb6 := (hb5.setCell (p := ⟨w.heap.size + 1, 2, none⟩) (Nat.le_succ _) (.int .i64 1)).setCell (p := ⟨w.heap.size + 1, 3, none⟩) (Nat.le_succ _) (.int .i64 (e2 : Int))
          exact ret_blk rfl rfl (hP6.set4 (.int .i64 6) (.int .i64 (e2 : Int)) (.int .i64 1) (.int .i64 (e2 : Int))) _ Tryd.underlying67 rfl (by kernel_rfl) rfl (PPost.err HR.out (below_set4 hb6 (Nat.le_refl _) _ _ _ _) rfl (by have := HE.out; omega))
  · have heq : at0 l i = 48 := by simpa using h48
    clear h48
    cases hxb : isXb (at0 l (i + 1))
    · have hil : intLen (l.drop i) = 1 := by
        unfold intLen
        rw [h00, if_pos heq]
      have hlx : lexNum (l.drop i) = numTail (l.drop i) (numLen (l.drop i)) := by
        unfold lexNum
        rw [h00, h01, if_neg (by rintro ⟨_, h | h⟩ <;> rw [h] at hxb <;> exact absurd hxb (by decide))]
      obtain ⟨n1, hn1⟩ : ∃ n1 : Nat, 1 = n1 := ⟨_, rfl⟩
      rw [hn1] at hil
      have HN1 := Lib.hid hn1
      have HIL := Lib.hid hil
      have HLX := Lib.hid hlx
      have HXB := Lib.hid hxb
      clear hil hlx h00 h01 hxb hn1
      rw [heq] at hix
      go_enter Tryd.func60, Tryd.ntmps60
      go_wp2_with fail
      refine (hasp_any isXb [120, 98] xbL_is rfl l (i + 1) ((i : Int) + 1) (by omega) false HXB.out _ hl (by omega)).mono ?_
      rintro e w1 ⟨rfl, rfl⟩
      go_wp2_with fail
      obtain ⟨e1, he1⟩ : ∃ e1, i + n1 = e1 := ⟨_, rfl⟩
      have hc1 : (i : Int) + 1 = (e1 : Int) := by have := HN1.out; omega
      have hle1 : e1 ≤ l.length := by have := HN1.out; omega
      rw [hc1]
      clear hc1
      cases hd1 : isDot (at0 l e1)
      · have HL := Lib.hid (HLX.out.trans (by rw [show numLen (l.drop i) = n1 from by unfold numLen; rw [HIL.out, at0_drop, at0_drop, ← Nat.add_assoc, he1, if_neg (by rintro ⟨h1, h2⟩; simp_all [isDot])]] : _ = numTail (l.drop i) n1))
        have HE := Lib.hid he1
        refine (hasp_any isDot [46] dotL_is rfl l e1 _ rfl false hd1 _ hl (by omega)).mono ?_
        rintro e w1 ⟨rfl, rfl⟩
        clear hd1
        go_wp2_with fail
        -- the rest of a numeral
        refine (hasW_any l e1 _ (by omega) (isWrd (at0 l e1)) rfl _ hl (by omega)).mono ?_
        rintro e0 w9 ⟨rfl, rfl⟩
        cases hw : isWrd (at0 l e1)
        · by_cases h6 : 600 < n1
          · have HR := Lib.hid (show lexNum (l.drop i) = Except.error (3, 0) from by rw [HL.out]; unfold numTail; rw [at0_drop, HE.out, hw, if_neg (by decide), if_pos h6])
            have c1 : (600 : Int) < (e1 : Int) - (i : Int) := by omega
            clear hw
            go_wp2_with fail
            refine (atR_any 3 (i : Int) _).mono ?_
            rintro e0 w5 ⟨rfl, hbb⟩
            have hP5 := Blk.belowS (HP.out e1) hbb
            have hQ5 := Blk.belowS (HQ.out e1) hbb
            have hb5 := below_then (HB.out e1) hbb (Below.size (HB.out e1))
            clear hbb
            obtain ⟨q1, q2, q3⟩ := hQ5.rules
            obtain ⟨p1, p2, p3⟩ := hP5.rules
            unfold flt
            go_wp2_with fail
            have hP6 := (hP5.far (p := ⟨w.heap.size + 1, 2, none⟩) (by simp) (.int .i64 3)).far (p := ⟨w.heap.size + 1, 3, none⟩) (by simp) (.int .i64 (i : Int))
            have hb6 := (hb5.setCell (p := ⟨w.heap.size + 1, 2, none⟩) (Nat.le_succ _) (.int .i64 3)).setCell (p := ⟨w.heap.size + 1, 3, none⟩) (Nat.le_succ _) (.int .i64 (i : Int))
            exact ret_blk rfl rfl (hP6.set4 (.int .i64 6) (.int .i64 (e1 : Int)) (.int .i64 3) (.int .i64 (i : Int))) _ Tryd.underlying67 rfl (by kernel_rfl) rfl (PPost.err HR.out (below_set4 hb6 (Nat.le_refl _) _ _ _ _) rfl (by have := HE.out; omega))
          · have HR := Lib.hid (show lexNum (l.drop i) = Except.ok (6, n1) from by rw [HL.out]; unfold numTail; rw [at0_drop, HE.out, hw, if_neg (by decide), if_neg h6])
            have c1 : ¬ (600 : Int) < (e1 : Int) - (i : Int) := by omega
            clear hw
            go_wp2_with fail
            exact ret_blk rfl rfl ((Blk.new w 67 #[.int .i64 6, .int .i64 (e1 : Int), .int .i64 0, .int .i64 0]).alloc (.cells #[.int .i64 6, .int .i64 (e1 : Int), .int .i64 0, .int .i64 0] 67)) _ Tryd.underlying67 rfl (by kernel_rfl) rfl (PPost.ok HR.out (((Below.refl _ w).alloc (Nat.le_refl _) _).alloc (by simp) _) rfl (by have := HE.out; omega))
        · have HR := Lib.hid (show lexNum (l.drop i) = Except.error (1, n1) from by rw [HL.out]; unfold numTail; rw [at0_drop, HE.out, hw, if_pos rfl])
          clear hw
          go_wp2_with fail
          refine (atR_any 1 (e1 : Int) _).mono ?_
          rintro e0 w5 ⟨rfl, hbb⟩
          have hP5 := Blk.belowS (HP.out e1) hbb
          have hQ5 := Blk.belowS (HQ.out e1) hbb
          have hb5 := below_then (HB.out e1) hbb (Below.size (HB.out e1))
          clear hbb
          obtain ⟨q1, q2, q3⟩ := hQ5.rules
          obtain ⟨p1, p2, p3⟩ := hP5.rules
          unfold flt
          go_wp2_with fail
          have hP6 := (hP5.far (p := ⟨w.heap.size + 1, 2, none⟩) (by simp) (.int .i64 1)).far (p := ⟨w.heap.size + 1, 3, none⟩) (by simp) (.int .i64 (e1 : Int))
          have hb6 := (hb5.setCell (p := ⟨w.heap.size + 1, 2, none⟩) (Nat.le_succ _) (.int .i64 1)).setCell (p := ⟨w.heap.size + 1, 3, none⟩) (Nat.le_succ _) (.int .i64 (e1 : Int))
          exact ret_blk rfl rfl (hP6.set4 (.int .i64 6) (.int .i64 (e1 : Int)) (.int .i64 1) (.int .i64 (e1 : Int))) _ Tryd.underlying67 rfl (by kernel_rfl) rfl (PPost.err HR.out (below_set4 hb6 (Nat.le_refl _) _ _ _ _) rfl (by have := HE.out; omega))
      · cases hd2 : isDig (at0 l (e1 + 1))
        · have HL := Lib.hid (HLX.out.trans (by rw [show numLen (l.drop i) = n1 from by unfold numLen; rw [HIL.out, at0_drop, at0_drop, ← Nat.add_assoc, he1, if_neg (by rintro ⟨h1, h2⟩; simp_all [isDot])]] : _ = numTail (l.drop i) n1))
          have HE := Lib.hid he1
          refine (hasp_any isDot [46] dotL_is rfl l e1 _ rfl true hd1 _ hl (by omega)).mono ?_
          rintro e w1 ⟨rfl, rfl⟩
          have HD2 := Lib.hid hd2
          clear hd1 hd2
          go_wp2_with fail
          refine (hasD_any l (e1 + 1) _ (by omega) false HD2.out _ hl (by omega)).mono ?_
          rintro e w1 ⟨rfl, rfl⟩
          go_wp2_with fail
          -- the rest of a numeral
          refine (hasW_any l e1 _ (by omega) (isWrd (at0 l e1)) rfl _ hl (by omega)).mono ?_
          rintro e0 w9 ⟨rfl, rfl⟩
          cases hw : isWrd (at0 l e1)
          · by_cases h6 : 600 < n1
            · have HR := Lib.hid (show lexNum (l.drop i) = Except.error (3, 0) from by rw [HL.out]; unfold numTail; rw [at0_drop, HE.out, hw, if_neg (by decide), if_pos h6])
              have c1 : (600 : Int) < (e1 : Int) - (i : Int) := by omega
              clear hw
              go_wp2_with fail
              refine (atR_any 3 (i : Int) _).mono ?_
              rintro e0 w5 ⟨rfl, hbb⟩
              have hP5 := Blk.belowS (HP.out e1) hbb
              have hQ5 := Blk.belowS (HQ.out e1) hbb
              have hb5 := below_then (HB.out e1) hbb (Below.size (HB.out e1))
              clear hbb
              obtain ⟨q1, q2, q3⟩ := hQ5.rules
              obtain ⟨p1, p2, p3⟩ := hP5.rules
              unfold flt
              go_wp2_with fail
              have hP6 := (hP5.far (p := ⟨w.heap.size + 1, 2, none⟩) (by simp) (.int .i64 3)).far (p := ⟨w.heap.size + 1, 3, none⟩) (by simp) (.int .i64 (i : Int))
              have hb6 := (hb5.setCell (p := ⟨w.heap.size + 1, 2, none⟩) (Nat.le_succ _) (.int .i64 3)).setCell (p := ⟨w.heap.size + 1, 3, none⟩) (Nat.le_succ _) (.int .i64 (i : Int))
              exact ret_blk rfl rfl (hP6.set4 (.int .i64 6) (.int .i64 (e1 : Int)) (.int .i64 3) (.int .i64 (i : Int))) _ Tryd.underlying67 rfl (by kernel_rfl) rfl (PPost.err HR.out (below_set4 hb6 (Nat.le_refl _) _ _ _ _) rfl (by have := HE.out; omega))
            · have HR := Lib.hid (show lexNum (l.drop i) = Except.ok (6, n1) from by rw [HL.out]; unfold numTail; rw [at0_drop, HE.out, hw, if_neg (by decide), if_neg h6])
              have c1 : ¬ (600 : Int) < (e1 : Int) - (i : Int) := by omega
              clear hw
              go_wp2_with fail
              exact ret_blk rfl rfl ((Blk.new w 67 #[.int .i64 6, .int .i64 (e1 : Int), .int .i64 0, .int .i64 0]).alloc (.cells #[.int .i64 6, .int .i64 (e1 : Int), .int .i64 0, .int .i64 0] 67)) _ Tryd.underlying67 rfl (by kernel_rfl) rfl (PPost.ok HR.out (((Below.refl _ w).alloc (Nat.le_refl _) _).alloc (by simp) _) rfl (by have := HE.out; omega))
          · have HR := Lib.hid (show lexNum (l.drop i) = Except.error (1, n1) from by rw [HL.out]; unfold numTail; rw [at0_drop, HE.out, hw, if_pos rfl])
            clear hw
            go_wp2_with fail
            refine (atR_any 1 (e1 : Int) _).mono ?_
            rintro e0 w5 ⟨rfl, hbb⟩
            have hP5 := Blk.belowS (HP.out e1) hbb
            have hQ5 := Blk.belowS (HQ.out e1) hbb
            have hb5 := below_then (HB.out e1) hbb (Below.size (HB.out e1))
            clear hbb
            obtain ⟨q1, q2, q3⟩ := hQ5.rules
            obtain ⟨p1, p2, p3⟩ := hP5.rules
            unfold flt
            go_wp2_with fail
            have hP6 := (hP5.far (p := ⟨w.heap.size + 1, 2, none⟩) (by simp) (.int .i64 1)).far (p := ⟨w.heap.size + 1, 3, none⟩) (by simp) (.int .i64 (e1 : Int))
            have hb6 := (hb5.setCell (p := ⟨w.heap.size + 1, 2, none⟩) (Nat.le_succ _) (.int .i64 1)).setCell (p := ⟨w.heap.size + 1, 3, none⟩) (Nat.le_succ _) (.int .i64 (e1 : Int))
            exact ret_blk rfl rfl (hP6.set4 (.int .i64 6) (.int .i64 (e1 : Int)) (.int .i64 1) (.int .i64 (e1 : Int))) _ Tryd.underlying67 rfl (by kernel_rfl) rfl (PPost.err HR.out (below_set4 hb6 (Nat.le_refl _) _ _ _ _) rfl (by have := HE.out; omega))
        · obtain ⟨n2, hn2⟩ : ∃ n2, n1 + 1 + span isDig (l.drop (e1 + 1)) = n2 := ⟨_, rfl⟩
          obtain ⟨e2, he2⟩ : ∃ e2, i + n2 = e2 := ⟨_, rfl⟩
          have HL := Lib.hid (HLX.out.trans (by rw [show numLen (l.drop i) = n2 from by unfold numLen; rw [HIL.out, at0_drop, at0_drop, ← Nat.add_assoc, he1, if_pos ⟨by simpa [isDot] using hd1, hd2⟩, List.drop_drop, ← Nat.add_assoc, he1, hn2]] : _ = numTail (l.drop i) n2))
          have HE := Lib.hid he2
          have hlt2 : e1 < l.length := by
            rcases Nat.lt_or_ge e1 l.length with h | h
            · exact h
            · rw [at0_ge l e1 h] at hd1; exact absurd hd1 (by decide)
          have hle2 := span_drop_le isDig l (e1 + 1) (by omega)
          have he3 : e1 + 1 + span isDig (l.drop (e1 + 1)) = e2 := by omega
          rw [he3] at hle2
          have HRUN2 := Lib.hid (fun W => runD_any l (e1 + 1) ((e1 : Int) + 1) (by omega) W hl (by omega))
          have HE3 := Lib.hid he3
          refine (hasp_any isDot [46] dotL_is rfl l e1 _ rfl true hd1 _ hl (by omega)).mono ?_
          rintro e w1 ⟨rfl, rfl⟩
          have HD2 := Lib.hid hd2
          clear hd1 hd2 hn2 he3
          go_wp2_with fail
          refine (hasD_any l (e1 + 1) _ (by omega) true HD2.out _ hl (by omega)).mono ?_
          rintro e w1 ⟨rfl, rfl⟩
          go_wp2_with fail
          refine (HRUN2.out _).mono ?_
          rintro e w1 ⟨rfl, rfl⟩
          rw [HE3.out]
          go_wp2_with fail
          -- the rest of a numeral
          refine (hasW_any l e2 _ (by omega) (isWrd (at0 l e2)) rfl _ hl (by omega)).mono ?_
          rintro e0 w9 ⟨rfl, rfl⟩
          cases hw : isWrd (at0 l e2)
          · by_cases h6 : 600 < n2
            · have HR := Lib.hid (show lexNum (l.drop i) = Except.error (3, 0) from by rw [HL.out]; unfold numTail; rw [at0_drop, HE.out, hw, if_neg (by decide), if_pos h6])
              have c1 : (600 : Int) < (e2 : Int) - (i : Int) := by omega
              clear hw
              go_wp2_with fail
              refine (atR_any 3 (i : Int) _).mono ?_
              rintro e0 w5 ⟨rfl, hbb⟩
              have hP5 := Blk.belowS (HP.out e2) hbb
              have hQ5 := Blk.belowS (HQ.out e2) hbb
              have hb5 := below_then (HB.out e2) hbb (Below.size (HB.out e2))
              clear hbb
              obtain ⟨q1, q2, q3⟩ := hQ5.rules
              obtain ⟨p1, p2, p3⟩ := hP5.rules
              unfold flt
              go_wp2_with fail
              have hP6 := (hP5.far (p := ⟨w.heap.size + 1, 2, none⟩) (by simp) (.int .i64 3)).far (p := ⟨w.heap.size + 1, 3, none⟩) (by simp) (.int .i64 (i : Int))
              have hb6 := (hb5.setCell (p := ⟨w.heap.size + 1, 2, none⟩) (Nat.le_succ _) (.int .i64 3)).setCell (p := ⟨w.heap.size + 1, 3, none⟩) (Nat.le_succ _) (.int .i64 (i : Int))
              exact ret_blk rfl rfl (hP6.set4 (.int .i64 6) (.int .i64 (e2 : Int)) (.int .i64 3) (.int .i64 (i : Int))) _ Tryd.underlying67 rfl (by kernel_rfl) rfl (PPost.err HR.out (below_set4 hb6 (Nat.le_refl _) _ _ _ _) rfl (by have := HE.out; omega))
            · have HR := Lib.hid (show lexNum (l.drop i) = Except.ok (6, n2) from by rw [HL.out]; unfold numTail; rw [at0_drop, HE.out, hw, if_neg (by decide), if_neg h6])
              have c1 : ¬ (600 : Int) < (e2 : Int) - (i : Int) := by omega
              clear hw
              go_wp2_with fail
              exact ret_blk rfl rfl ((Blk.new w 67 #[.int .i64 6, .int .i64 (e2 : Int), .int .i64 0, .int .i64 0]).alloc (.cells #[.int .i64 6, .int .i64 (e2 : Int), .int .i64 0, .int .i64 0] 67)) _ Tryd.underlying67 rfl (by kernel_rfl) rfl (PPost.ok HR.out (((Below.refl _ w).alloc (Nat.le_refl _) _).alloc (by simp) _) rfl (by have := HE.out; omega))
          · have HR := Lib.hid (show lexNum (l.drop i) = Except.error (1, n2) from by rw [HL.out]; unfold numTail; rw [at0_drop, HE.out, hw, if_pos rfl])
            clear hw
            go_wp2_with fail
            refine (atR_any 1 (e2 : Int) _).mono ?_
            rintro e0 w5 ⟨rfl, hbb⟩
            have hP5 := Blk.belowS (HP.out e2) hbb
            have hQ5 := Blk.belowS (HQ.out e2) hbb
            have hb5 := below_then (HB.out e2) hbb (Below.size (HB.out e2))
            clear hbb
            obtain ⟨q1, q2, q3⟩ := hQ5.rules
            obtain ⟨p1, p2, p3⟩ := hP5.rules
            unfold flt
            go_wp2_with fail
            have hP6 := (hP5.far (p := ⟨w.heap.size + 1, 2, none⟩) (by simp) (.int .i64 1)).far (p := ⟨w.heap.size + 1, 3, none⟩) (by simp) (.int .i64 (e2 : Int))
            have hb6 := (hb5.setCell (p := ⟨w.heap.size + 1, 2, none⟩) (Nat.le_succ _) (.int .i64 1)).setCell (p := ⟨w.heap.size + 1, 3, none⟩) (Nat.le_succ _) (.int .i64 (e2 : Int))
            exact ret_blk rfl rfl (hP6.set4 (.int .i64 6) (.int .i64 (e2 : Int)) (.int .i64 1) (.int .i64 (e2 : Int))) _ Tryd.underlying67 rfl (by kernel_rfl) rfl (PPost.err HR.out (below_set4 hb6 (Nat.le_refl _) _ _ _ _) rfl (by have := HE.out; omega))
    · have hlt1 : i + 1 < l.length := by
        rcases Nat.lt_or_ge (i + 1) l.length with h | h
        · exact h
        · rw [at0_ge l (i + 1) h] at hxb; exact absurd hxb (by decide)
      have hix1 := run_idx l (i + 1) hlt1 ((i : Int) + 1) (by omega)
      have HXB := Lib.hid hxb
      by_cases h120 : at0 l (i + 1) = 120
      · have hx2 : at0 l (i + 1) = 120 ∨ at0 l (i + 1) = 98 := .inl h120
        have hrad : radix (l.drop i) = isHex := by unfold radix; rw [h01, if_pos h120]
        rw [h120] at hix1
        clear hxb h120
        obtain ⟨m2, hm2⟩ : ∃ m2, span isHex (l.drop (i + 2)) = m2 := ⟨_, rfl⟩
        obtain ⟨e2, he2⟩ : ∃ e2, i + (2 + m2) = e2 := ⟨_, rfl⟩
        have hle2 := span_drop_le isHex l (i + 2) (by omega)
        have he3 : i + 2 + span isHex (l.drop (i + 2)) = e2 := by omega
        rw [he3] at hle2
        have HRUN := Lib.hid (fun W => runH_any l (i + 2) ((i : Int) + 2) (by omega) W hl (by omega))
        have HE3 := Lib.hid he3
        have hlx : lexNum (l.drop i) = if m2 = 0 then .error (1, 2) else numTail (l.drop i) (2 + m2) := by
          unfold lexNum
          rw [h00, h01, if_pos ⟨heq, hx2⟩, hrad, List.drop_drop, hm2]
        have HLX := Lib.hid hlx
        clear hlx he3 hrad h00 h01 hx2
        rw [heq] at hix
        go_enter Tryd.func60, Tryd.ntmps60
        go_wp2_with fail
        refine (hasp_any isXb [120, 98] xbL_is rfl l (i + 1) _ (by omega) true HXB.out _ hl (by omega)).mono ?_
        rintro e w1 ⟨rfl, rfl⟩
        go_wp2_with fail
        refine (HRUN.out _).mono ?_
        rintro e w1 ⟨rfl, rfl⟩
        rw [HE3.out]
        by_cases hm0 : m2 = 0
        · have HR := Lib.hid (HLX.out.trans (if_pos hm0))
          have HE := Lib.hid (show i + 2 = e2 by omega)
          have c0 : ((e2 : Int) == (i : Int) + 2) = true := by rw [beq_iff_eq]; omega
          clear hm2 he2 hm0
          go_wp2_with fail
          refine (atR_any 1 (e2 : Int) _).mono ?_
          rintro e0 w5 ⟨rfl, hbb⟩
          have hP5 := Blk.belowS (HP.out e2) hbb
          have hQ5 := Blk.belowS (HQ.out e2) hbb
          have hb5 := below_then (HB.out e2) hbb (Below.size (HB.out e2))
          clear hbb
          obtain ⟨q1, q2, q3⟩ := hQ5.rules
          obtain ⟨p1, p2, p3⟩ := hP5.rules
          unfold flt
          go_wp2_with fail
          have hP6 := (hP5.far (p := ⟨w.heap.size + 1, 2, none⟩) (by simp) (.int .i64 1)).far (p := ⟨w.heap.size + 1, 3, none⟩) (by simp) (.int .i64 (e2 : Int))
          have hb6 := (hb5.setCell (p := ⟨w.heap.size + 1, 2, none⟩) (Nat.le_succ _) (.int .i64 1)).setCell (p := ⟨w.heap.size + 1, 3, none⟩) (Nat.le_succ _) (.int .i64 (e2 : Int))
          exact ret_blk rfl rfl (hP6.set4 (.int .i64 6) (.int .i64 (e2 : Int)) (.int .i64 1) (.int .i64 (e2 : Int))) _ Tryd.underlying67 rfl (by kernel_rfl) rfl (PPost.err HR.out (below_set4 hb6 (Nat.le_refl _) _ _ _ _) rfl (by have := HE.out; omega))
        · have HL := Lib.hid (HLX.out.trans (if_neg hm0))
          have HE := Lib.hid he2
          have c0 : ((e2 : Int) == (i : Int) + 2) = false := by rw [beq_eq_false_iff_ne]; omega
          clear hm2
          go_wp2_with fail
          -- the rest of a numeral
          refine (hasW_any l e2 _ (by omega) (isWrd (at0 l e2)) rfl _ hl (by omega)).mono ?_
          rintro e0 w9 ⟨rfl, rfl⟩
          cases hw : isWrd (at0 l e2)
          · by_cases h6 : 600 < 2 + m2
            · have HR := Lib.hid (show lexNum (l.drop i) = Except.error (3, 0) from by rw [HL.out]; unfold numTail; rw [at0_drop, HE.out, hw, if_neg (by decide), if_pos h6])
              have c1 : (600 : Int) < (e2 : Int) - (i : Int) := by omega
              clear hw
              go_wp2_with fail
              refine (atR_any 3 (i : Int) _).mono ?_
              rintro e0 w5 ⟨rfl, hbb⟩
              have hP5 := Blk.belowS (HP.out e2) hbb
              have hQ5 := Blk.belowS (HQ.out e2) hbb
              have hb5 := below_then (HB.out e2) hbb (Below.size (HB.out e2))
              clear hbb
              obtain ⟨q1, q2, q3⟩ := hQ5.rules
              obtain ⟨p1, p2, p3⟩ := hP5.rules
              unfold flt
              go_wp2_with fail
              have hP6 := (hP5.far (p := ⟨w.heap.size + 1, 2, none⟩) (by simp) (.int .i64 3)).far (p := ⟨w.heap.size + 1, 3, none⟩) (by simp) (.int .i64 (i : Int))
              have hb6 := (hb5.setCell (p := ⟨w.heap.size + 1, 2, none⟩) (Nat.le_succ _) (.int .i64 3)).setCell (p := ⟨w.heap.size + 1, 3, none⟩) (Nat.le_succ _) (.int .i64 (i : Int))
              exact ret_blk rfl rfl (hP6.set4 (.int .i64 6) (.int .i64 (e2 : Int)) (.int .i64 3) (.int .i64 (i : Int))) _ Tryd.underlying67 rfl (by kernel_rfl) rfl (PPost.err HR.out (below_set4 hb6 (Nat.le_refl _) _ _ _ _) rfl (by have := HE.out; omega))
            · have HR := Lib.hid (show lexNum (l.drop i) = Except.ok (6, 2 + m2) from by rw [HL.out]; unfold numTail; rw [at0_drop, HE.out, hw, if_neg (by decide), if_neg h6])
              have c1 : ¬ (600 : Int) < (e2 : Int) - (i : Int) := by omega
              clear hw
              go_wp2_with fail
              exact ret_blk rfl rfl ((Blk.new w 67 #[.int .i64 6, .int .i64 (e2 : Int), .int .i64 0, .int .i64 0]).alloc (.cells #[.int .i64 6, .int .i64 (e2 : Int), .int .i64 0, .int .i64 0] 67)) _ Tryd.underlying67 rfl (by kernel_rfl) rfl (PPost.ok HR.out (((Below.refl _ w).alloc (Nat.le_refl _) _).alloc (by simp) _) rfl (by have := HE.out; omega))
          · have HR := Lib.hid (show lexNum (l.drop i) = Except.error (1, 2 + m2) from by rw [HL.out]; unfold numTail; rw [at0_drop, HE.out, hw, if_pos rfl])
            clear hw
            go_wp2_with fail
            refine (atR_any 1 (e2 : Int) _).mono ?_
            rintro e0 w5 ⟨rfl, hbb⟩
            have hP5 := Blk.belowS (HP.out e2) hbb
            have hQ5 := Blk.belowS (HQ.out e2) hbb
            have hb5 := below_then (HB.out e2) hbb (Below.size (HB.out e2))
            clear hbb
            obtain ⟨q1, q2, q3⟩ := hQ5.rules
            obtain ⟨p1, p2, p3⟩ := hP5.rules
            unfold flt
            go_wp2_with fail
            have hP6 := (hP5.far (p := ⟨w.heap.size + 1, 2, none⟩) (by simp) (.int .i64 1)).far (p := ⟨w.heap.size + 1, 3, none⟩) (by simp) (.int .i64 (e2 : Int))
            have hb6 := (hb5.setCell (p := ⟨w.heap.size + 1, 2, none⟩) (Nat.le_succ _) (.int .i64 1)).setCell (p := ⟨w.heap.size + 1, 3, none⟩) (Nat.le_succ _) (.int .i64 (e2 : Int))
            exact ret_blk rfl rfl (hP6.set4 (.int .i64 6) (.int .i64 (e2 : Int)) (.int .i64 1) (.int .i64 (e2 : Int))) _ Tryd.underlying67 rfl (by kernel_rfl) rfl (PPost.err HR.out (below_set4 hb6 (Nat.le_refl _) _ _ _ _) rfl (by have := HE.out; omega))
      · have h98 : at0 l (i + 1) = 98 := by
          unfold isXb at hxb
          simpa [h120] using hxb
        have hx2 : at0 l (i + 1) = 120 ∨ at0 l (i + 1) = 98 := .inr h98
        have hrad : radix (l.drop i) = isBin := by unfold radix; rw [h01, if_neg h120]
        rw [h98] at hix1
        clear hxb h120 h98
        obtain ⟨m2, hm2⟩ : ∃ m2, span isBin (l.drop (i + 2)) = m2 := ⟨_, rfl⟩
        obtain ⟨e2, he2⟩ : ∃ e2, i + (2 + m2) = e2 := ⟨_, rfl⟩
        have hle2 := span_drop_le isBin l (i + 2) (by omega)
        have he3 : i + 2 + span isBin (l.drop (i + 2)) = e2 := by omega
        rw [he3] at hle2
        have HRUN := Lib.hid (fun W => runB_any l (i + 2) ((i : Int) + 2) (by omega) W hl (by omega))
        have HE3 := Lib.hid he3
        have hlx : lexNum (l.drop i) = if m2 = 0 then .error (1, 2) else numTail (l.drop i) (2 + m2) := by
          unfold lexNum
          rw [h00, h01, if_pos ⟨heq, hx2⟩, hrad, List.drop_drop, hm2]
        have HLX := Lib.hid hlx
        clear hlx he3 hrad h00 h01 hx2
        rw [heq] at hix
        go_enter Tryd.func60, Tryd.ntmps60
        go_wp2_with fail
        refine (hasp_any isXb [120, 98] xbL_is rfl l (i + 1) _ (by omega) true HXB.out _ hl (by omega)).mono ?_
        rintro e w1 ⟨rfl, rfl⟩
        go_wp2_with fail
        refine (HRUN.out _).mono ?_
        rintro e w1 ⟨rfl, rfl⟩
        rw [HE3.out]
        by_cases hm0 : m2 = 0
        · have HR := Lib.hid (HLX.out.trans (if_pos hm0))
          have HE := Lib.hid (show i + 2 = e2 by omega)
          have c0 : ((e2 : Int) == (i : Int) + 2) = true := by rw [beq_iff_eq]; omega
          clear hm2 he2 hm0
          go_wp2_with fail
          refine (atR_any 1 (e2 : Int) _).mono ?_
          rintro e0 w5 ⟨rfl, hbb⟩
          have hP5 := Blk.belowS (HP.out e2) hbb
          have hQ5 := Blk.belowS (HQ.out e2) hbb
          have hb5 := below_then (HB.out e2) hbb (Below.size (HB.out e2))
          clear hbb
          obtain ⟨q1, q2, q3⟩ := hQ5.rules
          obtain ⟨p1, p2, p3⟩ := hP5.rules
          unfold flt
          go_wp2_with fail
          have hP6 := (hP5.far (p := ⟨w.heap.size + 1, 2, none⟩) (by simp) (.int .i64 1)).far (p := ⟨w.heap.size + 1, 3, none⟩) (by simp) (.int .i64 (e2 : Int))
          have hb6 := (hb5.setCell (p := ⟨w.heap.size + 1, 2, none⟩) (Nat.le_succ _) (.int .i64 1)).setCell (p := ⟨w.heap.size + 1, 3, none⟩) (Nat.le_succ _) (.int .i64 (e2 : Int))
          exact ret_blk rfl rfl (hP6.set4 (.int .i64 6) (.int .i64 (e2 : Int)) (.int .i64 1) (.int .i64 (e2 : Int))) _ Tryd.underlying67 rfl (by kernel_rfl) rfl (PPost.err HR.out (below_set4 hb6 (Nat.le_refl _) _ _ _ _) rfl (by have := HE.out; omega))
        · have HL := Lib.hid (HLX.out.trans (if_neg hm0))
          have HE := Lib.hid he2
          have c0 : ((e2 : Int) == (i : Int) + 2) = false := by rw [beq_eq_false_iff_ne]; omega
          clear hm2
          go_wp2_with fail
          -- the rest of a numeral
          refine (hasW_any l e2 _ (by omega) (isWrd (at0 l e2)) rfl _ hl (by omega)).mono ?_
          rintro e0 w9 ⟨rfl, rfl⟩
          cases hw : isWrd (at0 l e2)
          · by_cases h6 : 600 < 2 + m2
            · have HR := Lib.hid (show lexNum (l.drop i) = Except.error (3, 0) from by rw [HL.out]; unfold numTail; rw [at0_drop, HE.out, hw, if_neg (by decide), if_pos h6])
              have c1 : (600 : Int) < (e2 : Int) - (i : Int) := by omega
              clear hw
              go_wp2_with fail
              refine (atR_any 3 (i : Int) _).mono ?_
              rintro e0 w5 ⟨rfl, hbb⟩
              have hP5 := Blk.belowS (HP.out e2) hbb
              have hQ5 := Blk.belowS (HQ.out e2) hbb
              have hb5 := below_then (HB.out e2) hbb (Below.size (HB.out e2))
              clear hbb
              obtain ⟨q1, q2, q3⟩ := hQ5.rules
              obtain ⟨p1, p2, p3⟩ := hP5.rules
              unfold flt
              go_wp2_with fail
              have hP6 := (hP5.far (p := ⟨w.heap.size + 1, 2, none⟩) (by simp) (.int .i64 3)).far (p := ⟨w.heap.size + 1, 3, none⟩) (by simp) (.int .i64 (i : Int))
              have hb6 := (hb5.setCell (p := ⟨w.heap.size + 1, 2, none⟩) (Nat.le_succ _) (.int .i64 3)).setCell (p := ⟨w.heap.size + 1, 3, none⟩) (Nat.le_succ _) (.int .i64 (i : Int))
              exact ret_blk rfl rfl (hP6.set4 (.int .i64 6) (.int .i64 (e2 : Int)) (.int .i64 3) (.int .i64 (i : Int))) _ Tryd.underlying67 rfl (by kernel_rfl) rfl (PPost.err HR.out (below_set4 hb6 (Nat.le_refl _) _ _ _ _) rfl (by have := HE.out; omega))
            · have HR := Lib.hid (show lexNum (l.drop i) = Except.ok (6, 2 + m2) from by rw [HL.out]; unfold numTail; rw [at0_drop, HE.out, hw, if_neg (by decide), if_neg h6])
              have c1 : ¬ (600 : Int) < (e2 : Int) - (i : Int) := by omega
              clear hw
              go_wp2_with fail
              exact ret_blk rfl rfl ((Blk.new w 67 #[.int .i64 6, .int .i64 (e2 : Int), .int .i64 0, .int .i64 0]).alloc (.cells #[.int .i64 6, .int .i64 (e2 : Int), .int .i64 0, .int .i64 0] 67)) _ Tryd.underlying67 rfl (by kernel_rfl) rfl (PPost.ok HR.out (((Below.refl _ w).alloc (Nat.le_refl _) _).alloc (by simp) _) rfl (by have := HE.out; omega))
          · have HR := Lib.hid (show lexNum (l.drop i) = Except.error (1, 2 + m2) from by rw [HL.out]; unfold numTail; rw [at0_drop, HE.out, hw, if_pos rfl])
            clear hw
            go_wp2_with fail
            refine (atR_any 1 (e2 : Int) _).mono ?_
            rintro e0 w5 ⟨rfl, hbb⟩
            have hP5 := Blk.belowS (HP.out e2) hbb
            have hQ5 := Blk.belowS (HQ.out e2) hbb
            have hb5 := below_then (HB.out e2) hbb (Below.size (HB.out e2))
            clear hbb
            obtain ⟨q1, q2, q3⟩ := hQ5.rules
            obtain ⟨p1, p2, p3⟩ := hP5.rules
            unfold flt
            go_wp2_with fail
            have hP6 := (hP5.far (p := ⟨w.heap.size + 1, 2, none⟩) (by simp) (.int .i64 1)).far (p := ⟨w.heap.size + 1, 3, none⟩) (by simp) (.int .i64 (e2 : Int))
            have hb6 := (hb5.setCell (p := ⟨w.heap.size + 1, 2, none⟩) (Nat.le_succ _) (.int .i64 1)).setCell (p := ⟨w.heap.size + 1, 3, none⟩) (Nat.le_succ _) (.int .i64 (e2 : Int))
            exact ret_blk rfl rfl (hP6.set4 (.int .i64 6) (.int .i64 (e2 : Int)) (.int .i64 1) (.int .i64 (e2 : Int))) _ Tryd.underlying67 rfl (by kernel_rfl) rfl (PPost.err HR.out (below_set4 hb6 (Nat.le_refl _) _ _ _ _) rfl (by have := HE.out; omega))

end Go.Proofs.YtjoeojdciogcgaaDoor
