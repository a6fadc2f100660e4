/- Walks: the reference's encoding. Nothing is claimed here. -/
import Derived.Test.YtdajaddgdmoneaaDoorOpF
namespace Go.Proofs.YtdajaddgdmoneaaDoor
open Go.RowKit
set_option linter.unusedVariables false

def okAt (n j : Nat) (v : Int) : Prop := 0 ≤ v ∧ v ≤ 16000 ∧ (n ≤ j → v = 0)
theorem rangeOk_iff {q : Nat} {a bb : Int} {n : Nat} (hn : opk q = n) : rangeOk ((q : Int), a, bb) ↔ okAt n 0 a ∧ okAt n 1 bb := by
  unfold rangeOk okAt
  simp only [Int.toNat_natCast, hn]
  constructor
  · rintro ⟨h1, h2, h3, h4, h5, h6⟩
    exact ⟨⟨h1, h2, fun h => h6 (by omega)⟩, h3, h4, fun h => h5 (by omega)⟩
  · rintro ⟨⟨h1, h2, h3⟩, h4, h5, h6⟩
    exact ⟨h1, h2, h4, h5, fun h => h6 (by omega), fun h => h3 (by omega)⟩

def argsT (a bb : Int) (n j : Nat) : List Int := (([a, bb].take n).take j).flatMap sp
theorem argsT_0u {a bb : Int} {n : Nat} (h : 0 < n) (h2 : n ≤ 2) : argsT a bb n 1 = argsT a bb n 0 ++ sp a := by
  have : n = 1 ∨ n = 2 := by omega
  rcases this with rfl | rfl <;> simp [argsT]
theorem argsT_1u {a bb : Int} {n : Nat} (h : 1 < n) (h2 : n ≤ 2) : argsT a bb n 2 = argsT a bb n 1 ++ sp bb := by
  obtain rfl : n = 2 := by omega
  simp [argsT]
theorem argsT_0n {a bb : Int} {n : Nat} (h : ¬ 0 < n) : argsT a bb n 1 = argsT a bb n 0 := by
  obtain rfl : n = 0 := by omega
  simp [argsT]
theorem argsT_1n {a bb : Int} {n : Nat} (h : ¬ 1 < n) : argsT a bb n 2 = argsT a bb n 1 := by
  have : n = 0 ∨ n = 1 := by omega
  rcases this with rfl | rfl <;> simp [argsT]
theorem argsT_len (a bb : Int) (n j : Nat) : (argsT a bb n j).length ≤ 6 := by
  have h1 := sp_len a
  have h2 := sp_len bb
  unfold argsT
  rcases n with _ | _ | n <;> rcases j with _ | _ | j <;> simp <;> omega
theorem enc1_args {q : Nat} {a bb : Int} {n : Nat} (hn : opk q = n) : enc1 ((q : Int), a, bb) = (q : Int) :: argsT a bb n 2 := by
  have h2 := opk_le q
  unfold enc1 args argsT
  simp only [Int.toNat_natCast, hn]
  have h3 : n = 0 ∨ n = 1 ∨ n = 2 := by omega
  rcases h3 with rfl | rfl | rfl <;> simp

theorem Row.strA {w : World} {A : Option Addr} {l : List (List UInt8)} (h : Row w A (strs l)) {k : Nat} (hk : k < l.length) :
    ∃ b off s, A = some ⟨b, off, none⟩ ∧ b < w.heap.size ∧ Hid (l[k]? = some s) ∧ w.cell? ⟨b, off + k, none⟩ = some (.string ⟨s.toArray⟩) := by
  obtain ⟨b, off, e, hlt, hc⟩ := h.str hk
  exact ⟨b, off, l[k], e, hlt, Lib.hid (List.getElem?_eq_getElem hk), hc⟩
theorem letters_opk {q : Nat} {s : List UInt8} (h : lettersL[q]? = some s) : opk q = s.length := by
  have h1 : (lettersL.map List.length)[q]? = some s.length := by rw [List.getElem?_map, h]; rfl
  rw [ins_letters, List.getElem?_map] at h1
  unfold opk
  cases h2 : opTab[q]? with
  | none => rw [h2] at h1; simp at h1
  | some e => rw [h2] at h1; simpa using h1

/-- what the inner loop has added -/
def EncIn2 (w1 : World) (gI gO : Nat) (a bb : Int) (d : List Int) (q n : Nat) (v i : Value) (wr : World) : Prop :=
  ∃ j : Nat, j ≤ 2 ∧ i = .int .i64 j ∧ wr.ownsRow w1.heap.size 5 1 v (d ++ (q : Int) :: argsT a bb n j).length (bcs (d ++ (q : Int) :: argsT a bb n j)) ∧ Blk wr gI 30 #[.int .i64 q, .int .i64 a, .int .i64 bb] ∧ Blk wr gO 3 #[.int .i64 a, .int .i64 bb] ∧
    some gI ≠ v.ownBlock ∧ some gO ≠ v.ownBlock ∧ Below w1.heap.size w1 wr ∧ (0 < j → okAt n 0 a) ∧ (1 < j → okAt n 1 bb)


set_option maxHeartbeats 4000000 in
set_option maxRecDepth 100000 in
theorem encoded_any (A : Option Addr) (c : Nat) (l : List Ins) (w : World) (hl : l.length ≤ 9223372036854775807) (hm : Row w A (l.flatMap insc)) (henv : Env w) :
    Calls Tryd.prog 15 #[.slice A l.length c] w (EncPost l w) := by
  obtain ⟨i0, hi, hz0, hz1, hz2⟩ := info_parts info_byte
  have hB : Blk (w.alloc (.cells #[.int .i64 0, .int .i64 0] 25)) w.heap.size 25 #[.int .i64 0, .int .i64 0] := Blk.new _ _ _
  have HB := Lib.hid hB
  clear hB
  have hb00 := (Below.refl w.heap.size w).alloc (Nat.le_refl _) (.cells #[.int .i64 0, .int .i64 0] 25)
  have HM := Lib.hid (hm.keepB hb00)
  have HV := Lib.hid (henv.keepB hb00)
  clear hm henv hb00
  by_cases hbig : 60000 < l.length
  · go_enter Tryd.func15, Tryd.ntmps15
    go_wp2_with fail
    refine (at_any _ _ _).mono ?_
    rintro e w' ⟨rfl, hb'⟩
    have hB' := HB.out.belowS hb'
    obtain ⟨hc', hf', hz'⟩ := hB'.rules
    go_wp2_with fail
    refine ret_tmp_blk Tryd.results15 rfl ((hB'.set_ 0 (.int .i64 2)).set_ 1 (.int .i64 (-1))) _ Tryd.underlying25 rfl (by kernel_rfl) rfl _ rfl ?_
    exact encPost_bad (2, -1) (by rw [encFault, if_pos hbig]) (by decide) rfl (((below_then ((Below.refl _ _).alloc (Nat.le_refl _) _) hb' (by simp)).setCell (Nat.le_refl _) _).setCell (Nat.le_refl _) _)
  · have hbig' : l.length ≤ 60000 := by omega
    go_enter Tryd.func15, Tryd.ntmps15
    go_wp2_with fail
    refine (instructions_any _ HV.out).mono ?_
    rintro e w1 ⟨An, cn, Al, cl, rfl, _, hlet, hb1⟩
    have hB1 := HB.out.belowS hb1
    have hm1 := HM.out.keepB hb1
    have hbw : Below w.heap.size w w1 := below_then ((Below.refl _ _).alloc (Nat.le_refl _) _) hb1 (by simp)
    clear HB HM HV hb1
    go_wp2_with fail
    go_loopw [6, 22] (fun v i wr => EncRel l w1 v i wr) (fun _ i _ => l.length - (intOf i).toNat)
    case atStart => exact ⟨0, [], Nat.zero_le _, rfl, by rw [encFault, if_neg hbig]; rfl, rfl, World.ownsRow_nil _ _ _ _, by simp, Below.refl _ _⟩
    case round =>
      obtain ⟨k, d, hk, rfl, he, hd, hown, hdl, hb0⟩ := hrel
      have He := Lib.hid he
      have Hd := Lib.hid hd
      clear he hd
      have hB := hB1.belowS hb0
      obtain ⟨hr, hf, hsz⟩ := hB.rules
      by_cases hlt : k < l.length
      · obtain ⟨b, off, rfl, had, h1, h2, h3⟩ := (hm1.keepB hb0).ins hlt
        obtain ⟨x, hx⟩ : ∃ x, x = l[k] := ⟨_, rfl⟩
        rw [← hx] at h1 h2 h3
        have HX := Lib.hid (show l.drop k = x :: l.drop (k + 1) by rw [hx, drop_cons hlt])
        clear hx
        obtain ⟨op, a, bb⟩ := x
        by_cases hkind : 0 ≤ op ∧ op < 80
        · obtain ⟨hk1, hk2⟩ := hkind
          obtain ⟨q, rfl⟩ := Int.eq_ofNat_of_zero_le hk1
          have hq : q < 80 := by omega
          have HK := Lib.hid (show kindOk ((q : Int), a, bb) from ⟨hk1, hk2⟩)
          obtain ⟨lb, loff, s, rfl, hadl, hE, hs1⟩ := hlet.strA (k := q) (by rw [letters_len]; exact hq)
          have HN := Lib.hid (letters_opk hE.out)
          have hn2 : s.length ≤ 2 := by rw [← HN.out]; exact opk_le q
          have hsz1 := hb0.size
          have hown2 := hown.alloc (.cells #[.int .i64 q, .int .i64 a, .int .i64 bb] 30)
          have hI := Blk.new wr 30 #[.int .i64 q, .int .i64 a, .int .i64 bb]
          have hneI : some wr.heap.size ≠ u6.ownBlock := fun e => by have := hown.lt _ e.symm; omega
          have hbr := hb0.alloc hb0.size (.cells #[.int .i64 q, .int .i64 a, .int .i64 bb] 30)
          go_wp2_with (first | (go_at_call 26; refine (between_yes _ _ _ _ (by omega) (by omega)).mono ?_; rintro e w' ⟨rfl, rfl⟩) | (at_builtin; refine wpList_append_own_at _ rfl (.tmp 36) (.tmp 40) 22 rfl w1.heap.size 5 i0 (.int .u8 0) 1 1 Tryd.underlying22 hi hz0 hz1 hz2 rfl (by decide) u6 d.length (bcs d) rfl (hown2.alloc _) ⟨wr.heap.size + 1, 0, none⟩ 1 1 [.int .u8 (q : Int)] rfl rfl (cell_one_at (by simp)) (by simp [Value.oneCell']) (by unfold maxLen; omega) (by omega) (by simp; omega) ?_; intro v3 w3 hown3 hg3 _ hat3; have hI3 := (hI.alloc _).grown hg3 hneI; obtain ⟨ri3, fi3, zi3⟩ := hI3.rules))
          have hs3 : wr.heap.size + 2 ≤ w3.heap.size := by simpa using hg3.size
          have hb3 := (hbr.alloc hbr.size _).grown hg3 (by simp; omega) (fun g e => (hown2.lt g e).1)
          have hO := Blk.new w3 3 #[.int .i64 a, .int .i64 bb]
          have hneO : some w3.heap.size ≠ v3.ownBlock := fun e => by have := (hown3.lt _ e.symm).2; omega
          have hneI3 : some wr.heap.size ≠ v3.ownBlock := fun e => by
            rcases hat3 with h | h
            · exact hneI (e.trans h)
            · rw [h] at e
              injection e with e
              simp at e
              omega
          have hown3' := hown3.alloc (.cells #[.int .i64 a, .int .i64 bb] 3)
          have hb3' := hb3.alloc hb3.size (.cells #[.int .i64 a, .int .i64 bb] 3)
          have HR4 := Lib.hid (show EncIn2 w1 wr.heap.size w3.heap.size a bb d q s.length v3 (.int .i64 0) (w3.alloc (.cells #[.int .i64 a, .int .i64 bb] 3)) from ⟨0, Nat.zero_le _, rfl, by simpa [bcs, argsT] using hown3', hI3.alloc _, hO, hneI3, hneO, hb3', by omega, by omega⟩)
          have hs0 := hbw.size
          clear hown3 hown3' hb3 hb3' hO hneO hneI3 hI3 ri3 fi3 zi3 hg3 hat3 hI hr hf hsz hown2 hneI hown hbr hb0 hB h1 h2 h3
          go_loopw [6, 48] (fun v i wq => EncIn2 w1 wr.heap.size w3.heap.size a bb d q s.length v i wq) (fun _ i _ => 2 - (intOf i).toNat)
          case atStart => exact HR4.out
          case round =>
            clear HR4
            obtain ⟨wo, rfl⟩ : ∃ wo : World, wo = wr := ⟨_, rfl⟩
            obtain ⟨j, hj, rfl, hown, hI, hO, hneI, hneO, hb0, ok0, ok1⟩ := hrel
            have OK0 := Lib.hid ok0
            have OK1 := Lib.hid ok1
            clear ok0 ok1
            obtain ⟨ri, fi, zi⟩ := hI.rules
            obtain ⟨ro, fo, zo⟩ := hO.rules
            have hB := hB1.belowS hb0
            obtain ⟨hr, hf, hsz⟩ := hB.rules
            have hs4 := hb0.size
            have hs5 : wo.cell? ⟨lb, loff + q, none⟩ = some (.string ⟨s.toArray⟩) := ((bcell hb0).1 lb _ hadl).trans hs1
            by_cases hj2 : j < 2
            · have hj3 : j = 0 ∨ j = 1 := by omega
              rcases hj3 with rfl | rfl
              · by_cases hin : 0 ≤ a ∧ a ≤ 16000
                · obtain ⟨x1, x2⟩ := hin
                  by_cases hu : 0 < s.length
                  · have OKx : okAt s.length 0 a := ⟨x1, x2, fun h => by omega⟩
                    have HO := Lib.hid (show (0 < 0 + 1 → okAt s.length 0 a) ∧ (1 < 0 + 1 → okAt s.length 1 bb) from (⟨fun _ => OKx, by omega⟩))
                    clear OKx
                    have E := Lib.hid (argsT_0u (a := a) (bb := bb) hu hn2)
                    have hx := sp_len a
                    have hlen : (d ++ (q : Int) :: argsT a bb s.length 0).length ≤ 1000000 := by
                      have e1 := argsT_len a bb s.length 0
                      simp
                      omega
                    go_wp2_with (first | (go_at_call 26; refine (between_yes _ _ _ _ (by omega) (by omega)).mono ?_; rintro e w' ⟨rfl, rfl⟩))
                    refine (septets_any _ _ x1 (by omega)).mono ?_
                    rintro e w5 ⟨v5, rfl, hown5, hb5⟩
                    obtain ⟨A5, c5, rfl, hr5, hc5⟩ := own_form hown5
                    have hownB := own_belowS hown hb5
                    have hs6 := hb5.size
                    clear hown5
                    go_wp2_with (at_builtin; refine wpList_append_row _ rfl (.tmp 75) (.tmp 77) 22 rfl w1.heap.size 5 i0 (.int .u8 0) 1 1 Tryd.underlying22 hi hz0 hz1 hz2 rfl (by decide) u6 _ _ rfl hownB A5 _ c5 (bcs (sp a)) rfl (by simp [bcs]) hr5 (by intro u hu; simp [bcs] at hu; obtain ⟨x, _, rfl⟩ := hu; rfl) (by unfold maxLen; omega) (by omega) (by omega) ?_; intro v6 w6 hown6 hg6 hat6)
                    go_roundw
                    case rel =>
                      have hbb := below_then hb0 hb5 hs4
                      have hne6 : ∀ g, some g ≠ u6.ownBlock → g < w5.heap.size → some g ≠ v6.ownBlock := by
                        intro g h1 h2 e
                        rcases hat6 with h | h
                        · exact h1 (e.trans h)
                        · rw [h] at e
                          injection e with e
                          omega
                      have hI5 := hI.belowS hb5
                      have hO5 := hO.belowS hb5
                      refine ⟨0 + 1, by omega, by first | rfl | go_num, ?_, hI5.grown hg6 hneI, hO5.grown hg6 hneO, hne6 _ hneI hI5.lt, hne6 _ hneO hO5.lt, hbb.grown hg6 hbb.size (fun g e => (hown.lt g e).1), HO.out.1, HO.out.2⟩
                      rw [E.out, in_snoc]
                      exact own_app hown6
                    case measure => simp [intOf]
                  · have hud : decide ((0 : Int) < (s.length : Int)) = false := decide_eq_false (by omega)
                    by_cases hz : a = 0
                    · have e1 : (a != 0) = false := by simpa using hz
                      have OKx : okAt s.length 0 a := ⟨x1, x2, fun h => hz⟩
                      have HO := Lib.hid (show (0 < 0 + 1 → okAt s.length 0 a) ∧ (1 < 0 + 1 → okAt s.length 1 bb) from (⟨fun _ => OKx, by omega⟩))
                      clear OKx hz
                      have E := Lib.hid (argsT_0n (a := a) (bb := bb) hu)
                      go_wp2_with (first | (go_at_call 26; refine (between_yes _ _ _ _ (by omega) (by omega)).mono ?_; rintro e w' ⟨rfl, rfl⟩))
                      go_roundw
                      case rel =>
                        refine ⟨0 + 1, by omega, by first | rfl | go_num, ?_, hI, hO, hneI, hneO, hb0, HO.out.1, HO.out.2⟩
                        rw [E.out]
                        exact hown
                      case measure => simp [intOf]
                    · have e1 : (a != 0) = true := by simpa using hz
                      have NR := Lib.hid (show ¬ okAt s.length 0 a from fun h => hz (h.2.2 (by omega)))
                      have hpos : 0 < a := by omega
                      clear hz
                      go_wp2_with (first | (go_at_call 26; refine (between_yes _ _ _ _ (by omega) (by omega)).mono ?_; rintro e w' ⟨rfl, rfl⟩))
                      refine (at_any _ _ _).mono ?_
                      rintro e w' ⟨rfl, hb'⟩
                      have hB' := hB.belowS hb'
                      obtain ⟨hc', hf', hz'⟩ := hB'.rules
                      go_wp2_with fail
                      refine ret_tmp_blk Tryd.results15 rfl ((hB'.set_ 0 (.int .i64 4)).set_ 1 (.int .i64 k)) _ Tryd.underlying25 rfl (by kernel_rfl) rfl _ rfl ?_
                      exact encPost_bad (4, (k : Int)) (by rw [He.out, HX.out, encF_range HK.out (fun h => NR.out ((fun h => h.1) ((rangeOk_iff HN.out).1 h)))]) (by simp) rfl (((below_then (below_then hbw hb0 hbw.size) hb' (by omega)).setCell (Nat.le_refl _) _).setCell (Nat.le_refl _) _)
                · have NR := Lib.hid (show ¬ okAt s.length 0 a from fun h => hin ⟨h.1, h.2.1⟩)
                  have hin' : a < 0 ∨ 16000 < a := by omega
                  clear hin
                  go_wp2_with (first | (go_at_call 26; refine (between_no _ _ _ _ (by omega)).mono ?_; rintro e w' ⟨rfl, rfl⟩))
                  refine (at_any _ _ _).mono ?_
                  rintro e w' ⟨rfl, hb'⟩
                  have hB' := hB.belowS hb'
                  obtain ⟨hc', hf', hz'⟩ := hB'.rules
                  go_wp2_with fail
                  refine ret_tmp_blk Tryd.results15 rfl ((hB'.set_ 0 (.int .i64 4)).set_ 1 (.int .i64 k)) _ Tryd.underlying25 rfl (by kernel_rfl) rfl _ rfl ?_
                  exact encPost_bad (4, (k : Int)) (by rw [He.out, HX.out, encF_range HK.out (fun h => NR.out ((fun h => h.1) ((rangeOk_iff HN.out).1 h)))]) (by simp) rfl (((below_then (below_then hbw hb0 hbw.size) hb' (by omega)).setCell (Nat.le_refl _) _).setCell (Nat.le_refl _) _)
              · by_cases hin : 0 ≤ bb ∧ bb ≤ 16000
                · obtain ⟨x1, x2⟩ := hin
                  by_cases hu : 1 < s.length
                  · have OKx : okAt s.length 1 bb := ⟨x1, x2, fun h => by omega⟩
                    have HO := Lib.hid (show (0 < 1 + 1 → okAt s.length 0 a) ∧ (1 < 1 + 1 → okAt s.length 1 bb) from (⟨fun _ => OK0.out (by omega), fun _ => OKx⟩))
                    clear OKx
                    have E := Lib.hid (argsT_1u (a := a) (bb := bb) hu hn2)
                    have hx := sp_len bb
                    have hlen : (d ++ (q : Int) :: argsT a bb s.length 1).length ≤ 1000000 := by
                      have e1 := argsT_len a bb s.length 1
                      simp
                      omega
                    go_wp2_with (first | (go_at_call 26; refine (between_yes _ _ _ _ (by omega) (by omega)).mono ?_; rintro e w' ⟨rfl, rfl⟩))
                    refine (septets_any _ _ x1 (by omega)).mono ?_
                    rintro e w5 ⟨v5, rfl, hown5, hb5⟩
                    obtain ⟨A5, c5, rfl, hr5, hc5⟩ := own_form hown5
                    have hownB := own_belowS hown hb5
                    have hs6 := hb5.size
                    clear hown5
                    go_wp2_with (at_builtin; refine wpList_append_row _ rfl (.tmp 75) (.tmp 77) 22 rfl w1.heap.size 5 i0 (.int .u8 0) 1 1 Tryd.underlying22 hi hz0 hz1 hz2 rfl (by decide) u6 _ _ rfl hownB A5 _ c5 (bcs (sp bb)) rfl (by simp [bcs]) hr5 (by intro u hu; simp [bcs] at hu; obtain ⟨x, _, rfl⟩ := hu; rfl) (by unfold maxLen; omega) (by omega) (by omega) ?_; intro v6 w6 hown6 hg6 hat6)
                    go_roundw
                    case rel =>
                      have hbb := below_then hb0 hb5 hs4
                      have hne6 : ∀ g, some g ≠ u6.ownBlock → g < w5.heap.size → some g ≠ v6.ownBlock := by
                        intro g h1 h2 e
                        rcases hat6 with h | h
                        · exact h1 (e.trans h)
                        · rw [h] at e
                          injection e with e
                          omega
                      have hI5 := hI.belowS hb5
                      have hO5 := hO.belowS hb5
                      refine ⟨1 + 1, by omega, by first | rfl | go_num, ?_, hI5.grown hg6 hneI, hO5.grown hg6 hneO, hne6 _ hneI hI5.lt, hne6 _ hneO hO5.lt, hbb.grown hg6 hbb.size (fun g e => (hown.lt g e).1), HO.out.1, HO.out.2⟩
                      rw [E.out, in_snoc]
                      exact own_app hown6
                    case measure => simp [intOf]
                  · have hud : decide ((1 : Int) < (s.length : Int)) = false := decide_eq_false (by omega)
                    by_cases hz : bb = 0
                    · have e1 : (bb != 0) = false := by simpa using hz
                      have OKx : okAt s.length 1 bb := ⟨x1, x2, fun h => hz⟩
                      have HO := Lib.hid (show (0 < 1 + 1 → okAt s.length 0 a) ∧ (1 < 1 + 1 → okAt s.length 1 bb) from (⟨fun _ => OK0.out (by omega), fun _ => OKx⟩))
                      clear OKx hz
                      have E := Lib.hid (argsT_1n (a := a) (bb := bb) hu)
                      go_wp2_with (first | (go_at_call 26; refine (between_yes _ _ _ _ (by omega) (by omega)).mono ?_; rintro e w' ⟨rfl, rfl⟩))
                      go_roundw
                      case rel =>
                        refine ⟨1 + 1, by omega, by first | rfl | go_num, ?_, hI, hO, hneI, hneO, hb0, HO.out.1, HO.out.2⟩
                        rw [E.out]
                        exact hown
                      case measure => simp [intOf]
                    · have e1 : (bb != 0) = true := by simpa using hz
                      have NR := Lib.hid (show ¬ okAt s.length 1 bb from fun h => hz (h.2.2 (by omega)))
                      have hpos : 0 < bb := by omega
                      clear hz
                      go_wp2_with (first | (go_at_call 26; refine (between_yes _ _ _ _ (by omega) (by omega)).mono ?_; rintro e w' ⟨rfl, rfl⟩))
                      refine (at_any _ _ _).mono ?_
                      rintro e w' ⟨rfl, hb'⟩
                      have hB' := hB.belowS hb'
                      obtain ⟨hc', hf', hz'⟩ := hB'.rules
                      go_wp2_with fail
                      refine ret_tmp_blk Tryd.results15 rfl ((hB'.set_ 0 (.int .i64 4)).set_ 1 (.int .i64 k)) _ Tryd.underlying25 rfl (by kernel_rfl) rfl _ rfl ?_
                      exact encPost_bad (4, (k : Int)) (by rw [He.out, HX.out, encF_range HK.out (fun h => NR.out ((fun h => h.2) ((rangeOk_iff HN.out).1 h)))]) (by simp) rfl (((below_then (below_then hbw hb0 hbw.size) hb' (by omega)).setCell (Nat.le_refl _) _).setCell (Nat.le_refl _) _)
                · have NR := Lib.hid (show ¬ okAt s.length 1 bb from fun h => hin ⟨h.1, h.2.1⟩)
                  have hin' : bb < 0 ∨ 16000 < bb := by omega
                  clear hin
                  go_wp2_with (first | (go_at_call 26; refine (between_no _ _ _ _ (by omega)).mono ?_; rintro e w' ⟨rfl, rfl⟩))
                  refine (at_any _ _ _).mono ?_
                  rintro e w' ⟨rfl, hb'⟩
                  have hB' := hB.belowS hb'
                  obtain ⟨hc', hf', hz'⟩ := hB'.rules
                  go_wp2_with fail
                  refine ret_tmp_blk Tryd.results15 rfl ((hB'.set_ 0 (.int .i64 4)).set_ 1 (.int .i64 k)) _ Tryd.underlying25 rfl (by kernel_rfl) rfl _ rfl ?_
                  exact encPost_bad (4, (k : Int)) (by rw [He.out, HX.out, encF_range HK.out (fun h => NR.out ((fun h => h.2) ((rangeOk_iff HN.out).1 h)))]) (by simp) rfl (((below_then (below_then hbw hb0 hbw.size) hb' (by omega)).setCell (Nat.le_refl _) _).setCell (Nat.le_refl _) _)
            · obtain rfl : j = 2 := by omega
              have E1 := Lib.hid (enc1_args (a := a) (bb := bb) HN.out)
              have El := enc1_len ((q : Int), a, bb)
              have HR := Lib.hid ((rangeOk_iff (a := a) (bb := bb) HN.out).2 ⟨OK0.out (by omega), OK1.out (by omega)⟩)
              go_wp2_with fail
              go_roundw
              case rel =>
                refine ⟨k + 1, d ++ enc1 ((q : Int), a, bb), by omega, by go_num, by rw [He.out, HX.out, encF_ok HK.out HR.out], by rw [Hd.out, HX.out, encB_cons]; simp, ?_, by simp; omega, hb0⟩
                rw [E1.out]
                exact hown
              case measure => simp [intOf]; omega
        · have hk' : op < 0 ∨ 80 ≤ op := by omega
          have HK := Lib.hid (show ¬ kindOk (op, a, bb) from hkind)
          clear hkind
          go_wp2_with (first | (go_at_call 26; refine (between_no _ _ _ _ (by omega)).mono ?_; rintro e w' ⟨rfl, rfl⟩))
          refine (at_any _ _ _).mono ?_
          rintro e w' ⟨rfl, hb'⟩
          have hB' := (hB.alloc _).belowS hb'
          obtain ⟨hc', hf', hz'⟩ := hB'.rules
          go_wp2_with fail
          refine ret_tmp_blk Tryd.results15 rfl ((hB'.set_ 0 (.int .i64 5)).set_ 1 (.int .i64 k)) _ Tryd.underlying25 rfl (by kernel_rfl) rfl _ rfl ?_
          exact encPost_bad (5, (k : Int)) (by rw [He.out, HX.out, encF_kind HK.out]) (by simp) rfl (((below_then ((below_then hbw hb0 hbw.size).alloc (by have := hbw.size; have := hb0.size; omega) _) hb' (by have := hbw.size; have := hb0.size; simp; omega)).setCell (Nat.le_refl _) _).setCell (Nat.le_refl _) _)
      · obtain ⟨Av, cv, rfl, hrow2, hc⟩ := own_form hown
        go_wp2_with fail
        refine ret_tmp_blk Tryd.results15 rfl ((hB.set_ 0 _).set_ 1 _) _ Tryd.underlying25 rfl (by kernel_rfl) rfl _ rfl ?_
        have e : encB l = d := by rw [Hd.out, List.drop_of_length_le (by omega)]; simp [encB]
        have hs0 := hbw.size
        refine encPost_good (by rw [He.out, List.drop_of_length_le (by omega)]; rfl) Av cv (by rw [e]; rfl) ?_ (((below_then hbw hb0 hbw.size).setCell (Nat.le_refl _) _).setCell (Nat.le_refl _) _)
        rw [e]
        exact Row.of_own (ownsRow_setCell_below (ownsRow_setCell_below hown (a := ⟨w.heap.size, 0, none⟩) (by have := hB1.lt; simpa using this) _) (a := ⟨w.heap.size, 1, none⟩) (by have := hB1.lt; simpa using this) _)

end Go.Proofs.YtdajaddgdmoneaaDoor
