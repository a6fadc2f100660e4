/- The reference's added: a token more. Nothing is claimed here. -/
import Derived.Test.YtjoeojdciogcgaaDoorRefM
namespace Go.Proofs.YtjoeojdciogcgaaDoor
open Go.RowKit Go.Shelf Go.Lib Go.Maps
set_option linter.unusedVariables false

theorem best_succ (r : List UInt8) (k : Nat) (x : List UInt8) (hx : sgR[k]? = some x) : best (sgR.take (k + 1)) r 0 = bestF r (best (sgR.take k) r 0) x := by
  unfold best
  rw [List.take_add_one, hx]
  show List.foldl (bestF r) 0 (List.take k sgR ++ [x]) = _
  rw [List.foldl_append]
  rfl
theorem sgR_short : ∀ s ∈ sgR, s.length ≤ 3 := by decide
theorem best_le3 (r : List UInt8) (k : Nat) : best (sgR.take k) r 0 ≤ 3 := by
  rcases best_mem r (sgR.take k) 0 with h | ⟨s, hs, _, h⟩
  · omega
  · rw [h]; exact sgR_short s (List.mem_of_mem_take hs)

set_option maxHeartbeats 4000000 in
set_option maxRecDepth 100000 in
theorem mark_any (l : List UInt8) (i : Nat) (w : World) (hl : l.length ≤ 16000) (hi : i ≤ l.length) (hm : Lim w) :
    Calls Tryd.prog 61 #[.string ⟨l.toArray⟩, .int .i64 (i : Int)] w (PPost w i (lexSign (l.drop i))) := by
  have HL := Lib.hid (lexSign_best (l.drop i))
  have htail := run_tail l i hi (i : Int) rfl
  have hP := Blk.new w 67 #[.int .i64 0, .int .i64 0, .int .i64 0, .int .i64 0]
  have hb := (Below.refl w.heap.size w).alloc (Nat.le_refl _) (.cells #[.int .i64 0, .int .i64 0, .int .i64 0, .int .i64 0] 67)
  have hm1 := hm.keepB hb
  go_enter Tryd.func61, Tryd.ntmps61
  go_wp2_with fail
  refine (split_any _ _ (by kernel_rfl) hm1).mono ?_
  rintro e w1 ⟨rfl, hw1⟩
  have hS : Blk w1 (w.heap.size + 1) 9 (strs sgR).toArray := by
    rw [hw1, show w.heap.size + 1 = (w.alloc (.cells #[.int .i64 0, .int .i64 0, .int .i64 0, .int .i64 0] 67)).heap.size from by simp]
    exact Blk.new _ _ _
  have hP1 : Blk w1 w.heap.size 67 #[.int .i64 0, .int .i64 0, .int .i64 0, .int .i64 0] := by rw [hw1]; exact hP.alloc _
  have hb1 : Below w.heap.size w w1 := by rw [hw1]; exact hb.alloc hb.size _
  rw [show (w.alloc (.cells #[.int .i64 0, .int .i64 0, .int .i64 0, .int .i64 0] 67)).heap.size = w.heap.size + 1 from by simp]
  clear hw1 hP hb hm hm1
  go_wp2_with fail
  go_loop [5, 11] (fun b v => ∃ k : Nat, k ≤ 43 ∧ v = .int .i64 (k : Int) ∧ b = .int .i64 ((best (sgR.take k) (l.drop i) 0 : Nat) : Int)) (fun _ v => 43 - (RowKit.intOf v).toNat)
  case atStart => exact ⟨0, by omega, rfl, rfl⟩
  case round =>
    obtain ⟨k, hk, rfl, rfl⟩ := hrel
    have hb3 := best_le3 (l.drop i) k
    obtain ⟨bk, hbk⟩ : ∃ bk, best (sgR.take k) (l.drop i) 0 = bk := ⟨_, rfl⟩
    rw [hbk] at hb3 ⊢
    have HBK := Lib.hid hbk
    clear hbk
    by_cases hlt : k < 43
    · obtain ⟨x, hx⟩ : ∃ x, sgR[k]? = some x := ⟨sgR[k]'(by rw [sgR_len]; exact hlt), List.getElem?_eq_getElem _⟩
      have HX := Lib.hid hx
      have hxl := sgR_short x (List.mem_of_getElem? hx)
      have hcell : w1.cell? ⟨w.heap.size + 1, k, none⟩ = some (.string ⟨x.toArray⟩) := by
        rw [hS.cell k]
        simp [strs, hx]
      clear hx
      have hsucc := best_succ (l.drop i) k x HX.out
      rw [HBK.out] at hsucc
      unfold bestF at hsucc
      go_wp2_with fail
      refine (pre_any (l.drop i) x w1).mono ?_
      rintro e w2 ⟨rfl, rfl⟩
      cases hp : x.isPrefixOf (l.drop i)
      · rw [if_neg (by rw [hp]; rintro ⟨h, _⟩; exact absurd h (by decide))] at hsucc
        have HS := Lib.hid hsucc
        clear hp hsucc
        go_wp2_with fail
        go_round
        case rel => exact ⟨k + 1, by omega, by go_num, by rw [HS.out]⟩
        case measure => simp [RowKit.intOf]; omega
      · by_cases hg : bk < x.length
        · rw [if_pos ⟨hp, hg⟩] at hsucc
          have HS := Lib.hid hsucc
          have c1 : decide ((bk : Int) < (x.length : Int)) = true := decide_eq_true (by omega)
          clear hp hsucc
          go_wp2_with fail
          go_round
          case rel => exact ⟨k + 1, by omega, by go_num, by rw [HS.out]⟩
          case measure => simp [RowKit.intOf]; omega
        · rw [if_neg (fun h => hg h.2)] at hsucc
          have HS := Lib.hid hsucc
          have c1 : decide ((bk : Int) < (x.length : Int)) = false := decide_eq_false (by omega)
          clear hp hsucc
          go_wp2_with fail
          go_round
          case rel => exact ⟨k + 1, by omega, by go_num, by rw [HS.out]⟩
          case measure => simp [RowKit.intOf]; omega
    · obtain rfl : k = 43 := by omega
      have hall : best sgR (l.drop i) 0 = bk := by rw [← HBK.out, List.take_of_length_le (by rw [sgR_len]; omega)]
      have hlx := HL.out
      rw [hall] at hlx
      have HLX := Lib.hid hlx
      have hPlt := hP1.lt
      obtain ⟨q1, q2, q3⟩ := hP1.rules
      have hne : w.heap.size ≠ w1.heap.size := Nat.ne_of_lt hPlt
      clear hall hlx htail hS
      by_cases h0 : bk = 0
      · have HR := Lib.hid (HLX.out.trans (if_pos h0))
        subst h0
        have hQ := Blk.new w1 67 #[.int .i64 8, .int .i64 (i : Int), .int .i64 0, .int .i64 0]
        have hP2 := hP1.alloc (.cells #[.int .i64 8, .int .i64 (i : Int), .int .i64 0, .int .i64 0] 67)
        have hb2 := hb1.alloc hb1.size (.cells #[.int .i64 8, .int .i64 (i : Int), .int .i64 0, .int .i64 0] 67)
        go_wp2_with fail
        refine (atR_any 1 (i : Int) _).mono ?_
        rintro e w5 ⟨rfl, hbb⟩
        have hP5 := hP2.belowS hbb
        have hQ5 := hQ.belowS hbb
        have hb5 := below_then hb2 hbb hb2.size
        have hle := hb1.size
        clear hP1 hb1 hQ hP2 hb2 hbb q1 q2 q3
        obtain ⟨r, hr⟩ : ∃ r, w1.heap.size = r := ⟨_, rfl⟩
        rw [hr] at hQ5 hne hle ⊢
        obtain ⟨q1, q2, q3⟩ := hQ5.rules
        obtain ⟨p1, p2, p3⟩ := hP5.rules
        unfold flt
        go_wp2_with fail
        have hP6 := (hP5.far (p := ⟨r, 2, none⟩) hne (.int .i64 1)).far (p := ⟨r, 3, none⟩) hne (.int .i64 (i : Int))
        have hb6 := (hb5.setCell (p := ⟨r, 2, none⟩) hle (.int .i64 1)).setCell (p := ⟨r, 3, none⟩) hle (.int .i64 (i : Int))
        exact ret_blk rfl rfl (hP6.set4 (.int .i64 8) (.int .i64 (i : Int)) (.int .i64 1) (.int .i64 (i : Int))) _ Tryd.underlying67 rfl (by kernel_rfl) rfl (PPost.err HR.out (below_set4 hb6 (Nat.le_refl _) _ _ _ _) rfl (by omega))
      · have HR := Lib.hid (HLX.out.trans (if_neg h0))
        have c0 : ((bk : Int) == 0) = false := by rw [beq_eq_false_iff_ne]; omega
        go_wp2_with fail
        exact ret_blk rfl rfl ((hP1.set4 (.int .i64 8) (.int .i64 ((i : Int) + (bk : Int))) (.int .i64 0) (.int .i64 0)).alloc (.cells #[.int .i64 8, .int .i64 ((i : Int) + (bk : Int)), .int .i64 0, .int .i64 0] 67)) _ Tryd.underlying67 rfl (by kernel_rfl) rfl (PPost.ok HR.out ((below_set4 hb1 (Nat.le_refl _) _ _ _ _).alloc (by simpa using hb1.size) _) rfl (by omega))

end Go.Proofs.YtjoeojdciogcgaaDoor

namespace Go.Proofs.YtjoeojdciogcgaaDoor
open Go.RowKit Go.Shelf Go.Lib Go.Maps
set_option linter.unusedVariables false

theorem hasL_any (l : List UInt8) (i : Nat) (x : Int) (hx : x = (i : Int)) (b : Bool) (hb : isLet (at0 l i) = b) (w : World) (hl : l.length ≤ 16000) (hi : i ≤ 20000) :
    Calls Tryd.prog 56 #[.string ⟨l.toArray⟩, .int .i64 x, .string ⟨#[97, 98, 99, 100, 101, 102, 103, 104, 105, 106, 107, 108, 109, 110, 111, 112, 113, 114, 115, 116, 117, 118, 119, 120, 121, 122, 65, 66, 67, 68, 69, 70, 71, 72, 73, 74, 75, 76, 77, 78, 79, 80, 81, 82, 83, 84, 85, 86, 87, 88, 89, 90, 95]⟩] w fun e w' => e = .returned (.bool b) ∧ w = w' := hasp_any isLet letL letL_is rfl l i x hx b hb w hl hi
theorem hasQ_any (l : List UInt8) (i : Nat) (x : Int) (hx : x = (i : Int)) (b : Bool) (hb : isQuo (at0 l i) = b) (w : World) (hl : l.length ≤ 16000) (hi : i ≤ 20000) :
    Calls Tryd.prog 56 #[.string ⟨l.toArray⟩, .int .i64 x, .string ⟨#[39, 34]⟩] w fun e w' => e = .returned (.bool b) ∧ w = w' := hasp_any isQuo [39, 34] quL_is rfl l i x hx b hb w hl hi
theorem hasR_any (l : List UInt8) (i : Nat) (x : Int) (hx : x = (i : Int)) (b : Bool) (hb : isPre (at0 l i) = b) (w : World) (hl : l.length ≤ 16000) (hi : i ≤ 20000) :
    Calls Tryd.prog 56 #[.string ⟨l.toArray⟩, .int .i64 x, .string ⟨#[114, 98, 102]⟩] w fun e w' => e = .returned (.bool b) ∧ w = w' := hasp_any isPre [114, 98, 102] prL_is rfl l i x hx b hb w hl hi
theorem PPost.val {w : World} {i : Nat} {r : Lex} {e : Ending} {w' : World} (h : PPost w i r e w') : ∃ k n c d : Int, e = .returned (pcV k n c d) ∧ Below w.heap.size w w' ∧ ∀ w0 w'' : World, Below w0.heap.size w0 w'' → PPost w0 i r (.returned (pcV k n c d)) w'' := by
  obtain ⟨hb, h⟩ := h
  rcases r with ⟨c, d⟩ | ⟨k, n⟩
  · obtain ⟨k, n, rfl⟩ := h
    exact ⟨_, _, _, _, rfl, hb, fun _ _ h => ⟨h, k, n, rfl⟩⟩
  · exact ⟨_, _, _, _, h, hb, fun _ _ h => ⟨h, rfl⟩⟩

set_option maxHeartbeats 4000000 in
set_option maxRecDepth 100000 in
theorem rnext_any (l : List UInt8) (i : Nat) (w : World) (hl : l.length ≤ 16000) (hi : i < l.length) (hm : Lim w) :
    Calls Tryd.prog 32 #[.string ⟨l.toArray⟩, .int .i64 (i : Int)] w (PPost w i (lexTok (l.drop i))) := by
  have hP := Blk.new w 67 #[.int .i64 0, .int .i64 0, .int .i64 0, .int .i64 0]
  have hb := (Below.refl w.heap.size w).alloc (Nat.le_refl _) (.cells #[.int .i64 0, .int .i64 0, .int .i64 0, .int .i64 0] 67)
  have hm1 := hm.keepB hb
  have h00 : at0 (l.drop i) 0 = at0 l i := at0_drop l i 0
  have h01 : at0 (l.drop i) 1 = at0 l (i + 1) := at0_drop l i 1
  have hlx : lexTok (l.drop i) = if isQuo (at0 l i) then lexStr 0 (l.drop i) else if isPre (at0 l i) && isQuo (at0 l (i + 1)) then lexStr 1 (l.drop i) else if isLet (at0 l i) then lexName (l.drop i) else if isDig (at0 l i) then lexNum (l.drop i) else lexSign (l.drop i) := by
    unfold lexTok
    rw [h00, h01]
  obtain ⟨w0, hw0⟩ : ∃ w0, w.alloc (.cells #[.int .i64 0, .int .i64 0, .int .i64 0, .int .i64 0] 67) = w0 := ⟨_, rfl⟩
  rw [hw0] at hP hb hm1
  clear hm h00 h01
  cases h1 : isQuo (at0 l i)
  · cases h2 : isPre (at0 l i)
    · have hlx2 : lexTok (l.drop i) = if isLet (at0 l i) then lexName (l.drop i) else if isDig (at0 l i) then lexNum (l.drop i) else lexSign (l.drop i) := by rw [hlx, h1, h2]; rfl
      have H1 := Lib.hid h1
      have H2 := Lib.hid h2
      clear h1 h2 hlx
      cases h4 : isLet (at0 l i)
      · cases h5 : isDig (at0 l i)
        · have HT := Lib.hid (show lexTok (l.drop i) = lexSign (l.drop i) from by rw [hlx2, h4, h5]; rfl)
          have H4 := Lib.hid h4
          have H5 := Lib.hid h5
          clear h4 h5 hlx2
          go_enter Tryd.func32, Tryd.ntmps32
          go_wp2_with fail
          refine (hasQ_any l i (i : Int) rfl false H1.out _ hl (by omega)).mono ?_
          rintro e w1 ⟨rfl, rfl⟩
          go_wp2_with fail
          refine (hasR_any l i (i : Int) rfl false H2.out _ hl (by omega)).mono ?_
          rintro e w1 ⟨rfl, rfl⟩
          go_wp2_with fail
          refine (hasL_any l i (i : Int) rfl false H4.out _ hl (by omega)).mono ?_
          rintro e w1 ⟨rfl, rfl⟩
          go_wp2_with fail
          refine (hasD_any l i (i : Int) rfl false H5.out _ hl (by omega)).mono ?_
          rintro e w1 ⟨rfl, rfl⟩
          go_wp2_with fail
          refine (mark_any l i w0 hl (by omega) hm1).mono ?_
          rintro e w5 hpost
          obtain ⟨pk, pn, pc, pd, rfl, hbb, hback⟩ := hpost.val
          have hP5 := hP.belowS hbb
          have hb5 := below_then hb hbb hb.size
          have HBK := Lib.hid hback
          clear hback hbb hpost
          obtain ⟨p1, p2, p3⟩ := hP5.rules
          unfold pcV
          go_wp2_with fail
          exact ret_blk rfl rfl (hP5.set4 (.int .i64 pk) (.int .i64 pn) (.int .i64 pc) (.int .i64 pd)) _ Tryd.underlying67 rfl (by kernel_rfl) rfl (by rw [HT.out]; exact HBK.out _ _ (below_set4 hb5 (Nat.le_refl _) _ _ _ _))
        · have HT := Lib.hid (show lexTok (l.drop i) = lexNum (l.drop i) from by rw [hlx2, h4, h5]; rfl)
          have H4 := Lib.hid h4
          have H5 := Lib.hid h5
          clear h4 h5 hlx2
          go_enter Tryd.func32, Tryd.ntmps32
          go_wp2_with fail
          refine (hasQ_any l i (i : Int) rfl false H1.out _ hl (by omega)).mono ?_
          rintro e w1 ⟨rfl, rfl⟩
          go_wp2_with fail
          refine (hasR_any l i (i : Int) rfl false H2.out _ hl (by omega)).mono ?_
          rintro e w1 ⟨rfl, rfl⟩
          go_wp2_with fail
          refine (hasL_any l i (i : Int) rfl false H4.out _ hl (by omega)).mono ?_
          rintro e w1 ⟨rfl, rfl⟩
          go_wp2_with fail
          refine (hasD_any l i (i : Int) rfl true H5.out _ hl (by omega)).mono ?_
          rintro e w1 ⟨rfl, rfl⟩
          go_wp2_with fail
          refine (numeral_any l i w0 hl hi H5.out).mono ?_
          rintro e w5 hpost
          obtain ⟨pk, pn, pc, pd, rfl, hbb, hback⟩ := hpost.val
          have hP5 := hP.belowS hbb
          have hb5 := below_then hb hbb hb.size
          have HBK := Lib.hid hback
          clear hback hbb hpost
          obtain ⟨p1, p2, p3⟩ := hP5.rules
          unfold pcV
          go_wp2_with fail
          exact ret_blk rfl rfl (hP5.set4 (.int .i64 pk) (.int .i64 pn) (.int .i64 pc) (.int .i64 pd)) _ Tryd.underlying67 rfl (by kernel_rfl) rfl (by rw [HT.out]; exact HBK.out _ _ (below_set4 hb5 (Nat.le_refl _) _ _ _ _))
      · have HT := Lib.hid (show lexTok (l.drop i) = lexName (l.drop i) from by rw [hlx2, h4]; rfl)
        have H4 := Lib.hid h4
        clear h4 hlx2
        go_enter Tryd.func32, Tryd.ntmps32
        go_wp2_with fail
        refine (hasQ_any l i (i : Int) rfl false H1.out _ hl (by omega)).mono ?_
        rintro e w1 ⟨rfl, rfl⟩
        go_wp2_with fail
        refine (hasR_any l i (i : Int) rfl false H2.out _ hl (by omega)).mono ?_
        rintro e w1 ⟨rfl, rfl⟩
        go_wp2_with fail
        refine (hasL_any l i (i : Int) rfl true H4.out _ hl (by omega)).mono ?_
        rintro e w1 ⟨rfl, rfl⟩
        go_wp2_with fail
        refine (word_any l i w0 hl (by omega)).mono ?_
        rintro e w5 hpost
        obtain ⟨pk, pn, pc, pd, rfl, hbb, hback⟩ := hpost.val
        have hP5 := hP.belowS hbb
        have hb5 := below_then hb hbb hb.size
        have HBK := Lib.hid hback
        clear hback hbb hpost
        obtain ⟨p1, p2, p3⟩ := hP5.rules
        unfold pcV
        go_wp2_with fail
        exact ret_blk rfl rfl (hP5.set4 (.int .i64 pk) (.int .i64 pn) (.int .i64 pc) (.int .i64 pd)) _ Tryd.underlying67 rfl (by kernel_rfl) rfl (by rw [HT.out]; exact HBK.out _ _ (below_set4 hb5 (Nat.le_refl _) _ _ _ _))
    · cases h3 : isQuo (at0 l (i + 1))
      · have hlx2 : lexTok (l.drop i) = if isLet (at0 l i) then lexName (l.drop i) else if isDig (at0 l i) then lexNum (l.drop i) else lexSign (l.drop i) := by rw [hlx, h1, h2, h3]; rfl
        have H1 := Lib.hid h1
        have H2 := Lib.hid h2
        have H3 := Lib.hid h3
        clear h1 h2 h3 hlx
        cases h4 : isLet (at0 l i)
        · cases h5 : isDig (at0 l i)
          · have HT := Lib.hid (show lexTok (l.drop i) = lexSign (l.drop i) from by rw [hlx2, h4, h5]; rfl)
            have H4 := Lib.hid h4
            have H5 := Lib.hid h5
            clear h4 h5 hlx2
            go_enter Tryd.func32, Tryd.ntmps32
            go_wp2_with fail
            refine (hasQ_any l i (i : Int) rfl false H1.out _ hl (by omega)).mono ?_
            rintro e w1 ⟨rfl, rfl⟩
            go_wp2_with fail
            refine (hasR_any l i (i : Int) rfl true H2.out _ hl (by omega)).mono ?_
            rintro e w1 ⟨rfl, rfl⟩
            go_wp2_with fail
            refine (hasQ_any l (i + 1) ((i : Int) + 1) (by omega) false H3.out _ hl (by omega)).mono ?_
            rintro e w1 ⟨rfl, rfl⟩
            go_wp2_with fail
            refine (hasL_any l i (i : Int) rfl false H4.out _ hl (by omega)).mono ?_
            rintro e w1 ⟨rfl, rfl⟩
            go_wp2_with fail
            refine (hasD_any l i (i : Int) rfl false H5.out _ hl (by omega)).mono ?_
            rintro e w1 ⟨rfl, rfl⟩
            go_wp2_with fail
            refine (mark_any l i w0 hl (by omega) hm1).mono ?_
            rintro e w5 hpost
            obtain ⟨pk, pn, pc, pd, rfl, hbb, hback⟩ := hpost.val
            have hP5 := hP.belowS hbb
            have hb5 := below_then hb hbb hb.size
            have HBK := Lib.hid hback
            clear hback hbb hpost
            obtain ⟨p1, p2, p3⟩ := hP5.rules
            unfold pcV
            go_wp2_with fail
            exact ret_blk rfl rfl (hP5.set4 (.int .i64 pk) (.int .i64 pn) (.int .i64 pc) (.int .i64 pd)) _ Tryd.underlying67 rfl (by kernel_rfl) rfl (by rw [HT.out]; exact HBK.out _ _ (below_set4 hb5 (Nat.le_refl _) _ _ _ _))
          · have HT := Lib.hid (show lexTok (l.drop i) = lexNum (l.drop i) from by rw [hlx2, h4, h5]; rfl)
            have H4 := Lib.hid h4
            have H5 := Lib.hid h5
            clear h4 h5 hlx2
            go_enter Tryd.func32, Tryd.ntmps32
            go_wp2_with fail
            refine (hasQ_any l i (i : Int) rfl false H1.out _ hl (by omega)).mono ?_
            rintro e w1 ⟨rfl, rfl⟩
            go_wp2_with fail
            refine (hasR_any l i (i : Int) rfl true H2.out _ hl (by omega)).mono ?_
            rintro e w1 ⟨rfl, rfl⟩
            go_wp2_with fail
            refine (hasQ_any l (i + 1) ((i : Int) + 1) (by omega) false H3.out _ hl (by omega)).mono ?_
            rintro e w1 ⟨rfl, rfl⟩
            go_wp2_with fail
            refine (hasL_any l i (i : Int) rfl false H4.out _ hl (by omega)).mono ?_
            rintro e w1 ⟨rfl, rfl⟩
            go_wp2_with fail
            refine (hasD_any l i (i : Int) rfl true H5.out _ hl (by omega)).mono ?_
            rintro e w1 ⟨rfl, rfl⟩
            go_wp2_with fail
            refine (numeral_any l i w0 hl hi H5.out).mono ?_
            rintro e w5 hpost
            obtain ⟨pk, pn, pc, pd, rfl, hbb, hback⟩ := hpost.val
            have hP5 := hP.belowS hbb
            have hb5 := below_then hb hbb hb.size
            have HBK := Lib.hid hback
            clear hback hbb hpost
            obtain ⟨p1, p2, p3⟩ := hP5.rules
            unfold pcV
            go_wp2_with fail
            exact ret_blk rfl rfl (hP5.set4 (.int .i64 pk) (.int .i64 pn) (.int .i64 pc) (.int .i64 pd)) _ Tryd.underlying67 rfl (by kernel_rfl) rfl (by rw [HT.out]; exact HBK.out _ _ (below_set4 hb5 (Nat.le_refl _) _ _ _ _))
        · have HT := Lib.hid (show lexTok (l.drop i) = lexName (l.drop i) from by rw [hlx2, h4]; rfl)
          have H4 := Lib.hid h4
          clear h4 hlx2
          go_enter Tryd.func32, Tryd.ntmps32
          go_wp2_with fail
          refine (hasQ_any l i (i : Int) rfl false H1.out _ hl (by omega)).mono ?_
          rintro e w1 ⟨rfl, rfl⟩
          go_wp2_with fail
          refine (hasR_any l i (i : Int) rfl true H2.out _ hl (by omega)).mono ?_
          rintro e w1 ⟨rfl, rfl⟩
          go_wp2_with fail
          refine (hasQ_any l (i + 1) ((i : Int) + 1) (by omega) false H3.out _ hl (by omega)).mono ?_
          rintro e w1 ⟨rfl, rfl⟩
          go_wp2_with fail
          refine (hasL_any l i (i : Int) rfl true H4.out _ hl (by omega)).mono ?_
          rintro e w1 ⟨rfl, rfl⟩
          go_wp2_with fail
          refine (word_any l i w0 hl (by omega)).mono ?_
          rintro e w5 hpost
          obtain ⟨pk, pn, pc, pd, rfl, hbb, hback⟩ := hpost.val
          have hP5 := hP.belowS hbb
          have hb5 := below_then hb hbb hb.size
          have HBK := Lib.hid hback
          clear hback hbb hpost
          obtain ⟨p1, p2, p3⟩ := hP5.rules
          unfold pcV
          go_wp2_with fail
          exact ret_blk rfl rfl (hP5.set4 (.int .i64 pk) (.int .i64 pn) (.int .i64 pc) (.int .i64 pd)) _ Tryd.underlying67 rfl (by kernel_rfl) rfl (by rw [HT.out]; exact HBK.out _ _ (below_set4 hb5 (Nat.le_refl _) _ _ _ _))
      · have HT := Lib.hid (show lexTok (l.drop i) = lexStr 1 (l.drop i) from by rw [hlx, h1, h2, h3]; rfl)
        clear hlx
        have H1 := Lib.hid h1
        have H2 := Lib.hid h2
        have H3 := Lib.hid h3
        clear h1 h2 h3
        go_enter Tryd.func32, Tryd.ntmps32
        go_wp2_with fail
        refine (hasQ_any l i (i : Int) rfl false H1.out _ hl (by omega)).mono ?_
        rintro e w1 ⟨rfl, rfl⟩
        go_wp2_with fail
        refine (hasR_any l i (i : Int) rfl true H2.out _ hl (by omega)).mono ?_
        rintro e w1 ⟨rfl, rfl⟩
        go_wp2_with fail
        refine (hasQ_any l (i + 1) ((i : Int) + 1) (by omega) true H3.out _ hl (by omega)).mono ?_
        rintro e w1 ⟨rfl, rfl⟩
        go_wp2_with fail
        refine (quoted1_any l i w0 hl hi H2.out H3.out).mono ?_
        rintro e w5 hpost
        obtain ⟨pk, pn, pc, pd, rfl, hbb, hback⟩ := hpost.val
        have hP5 := hP.belowS hbb
        have hb5 := below_then hb hbb hb.size
        have HBK := Lib.hid hback
        clear hback hbb hpost
        obtain ⟨p1, p2, p3⟩ := hP5.rules
        unfold pcV
        go_wp2_with fail
        exact ret_blk rfl rfl (hP5.set4 (.int .i64 pk) (.int .i64 pn) (.int .i64 pc) (.int .i64 pd)) _ Tryd.underlying67 rfl (by kernel_rfl) rfl (by rw [HT.out]; exact HBK.out _ _ (below_set4 hb5 (Nat.le_refl _) _ _ _ _))
  · have HT := Lib.hid (show lexTok (l.drop i) = lexStr 0 (l.drop i) from by rw [hlx, h1]; rfl)
    clear hlx
    have H1 := Lib.hid h1
    clear h1
    go_enter Tryd.func32, Tryd.ntmps32
    go_wp2_with fail
    refine (hasQ_any l i (i : Int) rfl true H1.out _ hl (by omega)).mono ?_
    rintro e w1 ⟨rfl, rfl⟩
    go_wp2_with fail
    refine (quoted0_any l i w0 hl hi H1.out).mono ?_
    rintro e w5 hpost
    obtain ⟨pk, pn, pc, pd, rfl, hbb, hback⟩ := hpost.val
    have hP5 := hP.belowS hbb
    have hb5 := below_then hb hbb hb.size
    have HBK := Lib.hid hback
    clear hback hbb hpost
    obtain ⟨p1, p2, p3⟩ := hP5.rules
    unfold pcV
    go_wp2_with fail
    exact ret_blk rfl rfl (hP5.set4 (.int .i64 pk) (.int .i64 pn) (.int .i64 pc) (.int .i64 pd)) _ Tryd.underlying67 rfl (by kernel_rfl) rfl (by rw [HT.out]; exact HBK.out _ _ (below_set4 hb5 (Nat.le_refl _) _ _ _ _))

end Go.Proofs.YtjoeojdciogcgaaDoor

namespace Go.Proofs.YtjoeojdciogcgaaDoor
open Go.Lib

/-- the place of an offset at which a character begins -/
theorem place_at (cs : List (List UInt8)) (h : ∀ c ∈ cs, Chr c) (j : Nat) : (place (cs.take j)).1 = lineAt cs.flatten (cs.take j).flatten.length ∧ (place (cs.take j)).2 = colAt cs.flatten (cs.take j).flatten.length := by
  have hb := place_bytes (cs.take j) (fun c hc => h c (List.mem_of_mem_take hc))
  unfold lineAt colAt
  rw [take_flatten cs j]
  exact ⟨hb.1.symm, hb.2.symm⟩

end Go.Proofs.YtjoeojdciogcgaaDoor

namespace Go.Proofs.YtjoeojdciogcgaaDoor
open Go.RowKit Go.Shelf Go.Lib Go.Maps
set_option linter.unusedVariables false

/-- what added gives -/
def AdPost (B : Nat) (w : World) (v : Value) (ts : List Tok) (e : Ending) (w' : World) : Prop :=
  ∃ v', e = .returned v' ∧ w'.ownsRow B 32 4 v' ts.length (ts.flatMap tokc) ∧ ∃ w1, Below w.heap.size w w1 ∧ w1.grownBy w' v.ownBlock
set_option maxHeartbeats 4000000 in
set_option maxRecDepth 100000 in
theorem added_any (cs : List (List UInt8)) (h : ∀ c ∈ cs, Chr c) (j : Nat) (hj : j ≤ cs.length) (l : List UInt8) (hcl : cs.flatten = l) (i : Nat) (hij : (cs.take j).flatten.length = i) (w : World) (hl : l.length ≤ 16000) (hT : Tabs w)
    (B : Nat) (v : Value) (ts : List Tok) (hown : w.ownsRow B 32 4 v ts.length (ts.flatMap tokc)) (hB : B ≤ w.heap.size) (hts : ts.length ≤ 1000000) (k : Int) (e : Nat) (he : i ≤ e) (hel : e ≤ l.length) :
    Calls Tryd.prog 31 #[v, .string ⟨l.toArray⟩, .int .i64 k, .int .i64 (i : Int), .int .i64 (e : Int)] w (AdPost B w v (ts ++ [tokAt l k ((l.drop i).take (e - i)) i])) := by
  obtain ⟨i0, hi0, hz0, hz1, hz2⟩ := info_parts info_tok
  have hpl := place_any cs h j hj (i : Int) (by rw [hij]) w (by rw [hcl]; exact hl) hT
  obtain ⟨p1, p2⟩ := place_at cs h j
  rw [p1, p2, hcl, hij] at hpl
  obtain ⟨L, hL⟩ : ∃ L, lineAt l i = L := ⟨_, rfl⟩
  obtain ⟨C, hC⟩ : ∃ C, colAt l i = C := ⟨_, rfl⟩
  obtain ⟨t, ht⟩ : ∃ t, (l.drop i).take (e - i) = t := ⟨_, rfl⟩
  rw [hL, hC] at hpl
  have HPL := Lib.hid hpl
  have hsub := run_sub l i e he hel (i : Int) (e : Int) rfl rfl
  rw [ht] at hsub ⊢
  have HT := Lib.hid (show tokc (tokAt l k t i) = [.int .i64 k, .string ⟨t.toArray⟩, .int .i64 L, .int .i64 C] by unfold tokAt tokc; rw [hC, hL])
  have HLEN := Lib.hid (show ((ts ++ [tokAt l k t i]).flatMap tokc) = ts.flatMap tokc ++ [.int .i64 k, .string ⟨t.toArray⟩, .int .i64 L, .int .i64 C] by rw [List.flatMap_append, List.flatMap_singleton, HT.out])
  have m1 : ts.length + 1 ≤ maxLen := by unfold maxLen; omega
  have m2 : (ts.length + 1) * 40 ≤ 140737488355328 := by omega
  obtain ⟨A, c, rfl, _, _⟩ := own_form hown
  have HO := Lib.hid hown
  clear hpl p1 p2 hL hC ht hown hij hcl hj h
  go_enter Tryd.func31, Tryd.ntmps31
  go_wp2_with fail
  refine HPL.out.mono ?_
  rintro e0 w1 ⟨rfl, hb1⟩
  have hown1 := own_belowS HO.out hb1
  have hB1 : B ≤ w1.heap.size := Nat.le_trans hB hb1.size
  go_wp2_with (at_builtin
               refine wpList_append_row _ rfl (.tmp 19) (.tmp 28) 23 rfl B 32 i0 (.agg #[.int .i64 0, .string ByteArray.empty, .int .i64 0, .int .i64 0]) 4 40 Tryd.underlying23 hi0 hz0 hz1 hz2 rfl (by decide) (.slice A ts.length c) ts.length (ts.flatMap tokc) rfl (own_belowS hown1 ((Below.refl _ w1).alloc (Nat.le_refl _) _)) (some ⟨w1.heap.size, 0, none⟩) 1 1 [.int .i64 k, .string ⟨t.toArray⟩, .int .i64 L, .int .i64 C] rfl rfl (Row.new w1 #[.int .i64 k, .string ⟨t.toArray⟩, .int .i64 L, .int .i64 C] 32) (by simp [Value.oneCell']) m1 m2 (by simp; omega) ?_
               intro v3 w3 hown3 hg3 hat3)
  go_ret
  refine ⟨v3, rfl, ?_, w1.alloc (.cells #[.int .i64 k, .string ⟨t.toArray⟩, .int .i64 L, .int .i64 C] 32), hb1.alloc hb1.size _, hg3⟩
  rw [HLEN.out, List.length_append]
  exact hown3

end Go.Proofs.YtjoeojdciogcgaaDoor
