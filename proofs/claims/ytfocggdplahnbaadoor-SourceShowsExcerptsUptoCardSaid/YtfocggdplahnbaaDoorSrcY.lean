/- source.Excerpt: what it computes. Nothing is claimed here. -/
import Derived.Test.YtfocggdplahnbaaDoorSrcX
namespace Go.Proofs.YtfocggdplahnbaaDoor
open Go.RowKit Go.Shelf Go.Lib

theorem offOf_ok (l : List UInt8) (line col : Int) (h : (offOf l line col).2.1 = 0) : (sfault l).1 = 0 ∧ offOf l line col = ((offOf l line col).1, (0, 0)) ∧
    ∃ q x t, splitB 10 l = q ++ x :: t ∧ line = (q.length : Int) + 1 ∧ ∃ m : Nat, col = (m : Int) + 1 ∧ m ≤ runeCountL x ∧ (offOf l line col).1 = ((atOf q : Nat) : Int) + ((runeOff m x : Nat) : Int) := by
  unfold offOf at h ⊢
  by_cases h1 : (sfault l).1 ≠ 0
  · rw [if_pos h1] at h
    exact absurd h h1
  · have h1' : (sfault l).1 = 0 := by omega
    rw [if_neg h1] at h ⊢
    by_cases h2 : line < 1 ∨ (splitB 10 l).length < line
    · rw [if_pos h2] at h
      simp at h
    · rw [if_neg h2] at h ⊢
      obtain ⟨q, x, t, a1, a2, a3, a4⟩ := split_at l line (by omega) (by omega)
      rw [a3, a4] at h ⊢
      by_cases h3 : col < 1 ∨ runeCountL x + 1 < col
      · rw [if_pos h3] at h
        simp at h
      · rw [if_neg h3]
        exact ⟨h1', rfl, q, x, t, a1, a2, (col - 1).toNat, by omega, by omega, rfl⟩

/-- a part of a slice of runes is made a string -/
theorem conv_back (rs : List Int) (b f t c : Nat) (W : World) (h : ∀ j u, (rs.map (Value.int .i32))[j]? = some u → W.cell? ⟨b, j, none⟩ = some u) (h1 : f ≤ t) (h2 : t ≤ rs.length) :
    (convert 52 9 (.slice (some ⟨b, f, none⟩) (t - f) c)).run Tryd.prog W = .ok (.string (runesBytes ((rs.drop f).take (t - f)))) W := by
  refine run_convert_runes W 52 9 21 ⟨b, f, none⟩ (t - f) c (rs.drop f) (by rw [List.length_drop]; omega) Tryd.underlying52 Tryd.underlying21 Tryd.underlying9 ?_
  intro j hj
  rw [List.length_drop] at hj
  rw [Addr.add_lit]
  refine h (f + j) _ ?_
  have hlt : f + j < rs.length := by omega
  simp [List.getElem?_drop, List.getElem?_eq_getElem hlt]

/-- where an excerpt begins -/
def exFrom (m n width : Int) : Int := max 0 (min (m - width / 2) (n - width))
/-- the part of a line around a column, and a mark below it -/
def exText (x : List UInt8) (m : Nat) (width : Int) : List UInt8 :=
  (runesBytes (((runesL x).drop (exFrom m (runeCountL x) width).toNat).take width.toNat)).data.toList ++ [10] ++ repeatL [32] (m - (exFrom m (runeCountL x) width).toNat) ++ [94]
def ExPost (l : List UInt8) (line col width : Int) (w : World) (e : Ending) (w' : World) : Prop :=
  ((offOf l line col).2.1 ≠ 0 → e = .returned (.tuple #[.string ⟨#[]⟩, flt (offOf l line col).2.1 (offOf l line col).2.2])) ∧
  ((offOf l line col).2.1 = 0 → (width < 20 ∨ 200 < width) → e = .returned (.tuple #[.string ⟨#[]⟩, flt 4 (-4)])) ∧
  ((offOf l line col).2.1 = 0 → ¬ (width < 20 ∨ 200 < width) → ∀ q x t (m : Nat), splitB 10 l = q ++ x :: t → line = (q.length : Int) + 1 → col = (m : Int) + 1 → e = .returned (.tuple #[.string ⟨(exText x m width).toArray⟩, flt 0 0])) ∧
  Below w.heap.size w w'

theorem cat4 (a b : List UInt8) : (⟨a.toArray⟩ : ByteArray) ++ ⟨#[10]⟩ ++ ⟨b.toArray⟩ ++ ⟨#[94]⟩ = ⟨(a ++ [10] ++ b ++ [94]).toArray⟩ := ba_ext (by simp)
theorem exPost_ok (l : List UInt8) (line width : Int) (m : Nat) (w : World) (q t : List (List UInt8)) (x : List UInt8) (h0 : (offOf l line ((m : Int) + 1)).2.1 = 0) (hw : 20 ≤ width ∧ width ≤ 200) (hs : splitB 10 l = q ++ x :: t) (hl : line = (q.length : Int) + 1)
    (e : Ending) (w' : World) (he : e = .returned (.tuple #[.string ⟨(exText x m width).toArray⟩, flt 0 0])) (hb : Below w.heap.size w w') : ExPost l line ((m : Int) + 1) width w e w' := by
  refine ⟨fun h => absurd h0 h, fun _ h => by omega, fun _ _ q' x' t' m' hs' hl' hm' => ?_, hb⟩
  obtain rfl : m = m' := by omega
  rw [hs] at hs'
  obtain ⟨_, e2⟩ := List.append_inj hs' (by omega)
  injection e2 with e2 _
  rw [he, e2]

set_option maxRecDepth 100000 in
set_option maxHeartbeats 4000000 in
theorem excerpt_any (l : List UInt8) (line col width : Int) (w : World) (hl : l.length ≤ 9223372036854775807) (g1 : -9223372036854775808 ≤ line) (g2 : line ≤ 9223372036854775807) (g3 : -9223372036854775808 ≤ col) (g4 : col ≤ 9223372036854775807) (g5 : -9223372036854775808 ≤ width) (g6 : width ≤ 9223372036854775807) (hT : Tabs w) :
    Calls Tryd.prog 18 #[.string ⟨l.toArray⟩, .int .i64 line, .int .i64 col, .int .i64 width] w (ExPost l line col width w) := by
  have hT1 : Tabs (w.alloc (.cells #[.int .i64 0, .int .i64 0] 24)) := hT.keepB ((Below.refl _ _).alloc (Nat.le_refl _) _)
  obtain ⟨o, c, i, hs⟩ : ∃ o c i, offOf l line col = (o, (c, i)) := ⟨_, _, _, rfl⟩
  by_cases hc : c = 0
  · obtain ⟨hz, ho, q, x, t, hsp, hln, m, hcm, hm, _⟩ := offOf_ok l line col (by rw [hs]; exact hc)
    have hle := (chars_of l hz).1
    have hc0 : (offOf l line col).2.1 = 0 := by rw [hs]; exact hc
    replace hs : offOf l line col = ((offOf l line col).1, (0, 0)) := ho
    obtain ⟨oo, hoo⟩ : ∃ oo, (offOf l line col).1 = oo := ⟨_, rfl⟩
    rw [hoo] at hs
    have HS := Lib.hid hs
    have H0 := Lib.hid hc0
    have HSP := Lib.hid hsp
    have HLN := Lib.hid hln
    subst hcm
    clear hs ho hc hc0 hsp hln hoo
    go_enter Tryd.func18, Tryd.ntmps18
    go_wp2_with fail
    refine (offset_any l line _ _ hl g1 g2 g3 g4 hT1).mono ?_
    rintro e w1 ⟨rfl, hb1⟩
    rw [HS.out]
    have hB1 := (Blk.new w 24 #[.int .i64 0, .int .i64 0]).belowS hb1
    have hb := below_then ((Below.refl _ w).alloc (Nat.le_refl _) _) hb1 (by simp)
    clear hb1 hT1
    obtain ⟨q1, q2, q3⟩ := hB1.rules
    unfold flt
    by_cases hw1 : width < 20
    · go_wp2_with fail
      exact ret_tmp_blk rfl rfl (((hB1.set_ 0 (.int .i64 4)).set_ 1 (.int .i64 (-4))).alloc _) _ Tryd.underlying24 rfl (by kernel_rfl) rfl _ rfl ⟨fun h => absurd H0.out h, ⟨fun _ _ => rfl, fun _ h => absurd (.inl hw1) h, ((hb.setCell (p := ⟨_, 0, none⟩) (by simp) _).setCell (p := ⟨_, 1, none⟩) (by simp) _).alloc (by simp <;> omega) _⟩⟩
    · have hw0 : 20 ≤ width := by omega
      have tw1 : decide (width < 20) = false := decide_eq_false hw1
      clear hw1
      by_cases hw2 : 200 < width
      · have tw2 : decide (200 < width) = true := decide_eq_true hw2
        go_wp2_with fail
        exact ret_tmp_blk rfl rfl (((hB1.set_ 0 (.int .i64 4)).set_ 1 (.int .i64 (-4))).alloc _) _ Tryd.underlying24 rfl (by kernel_rfl) rfl _ rfl ⟨fun h => absurd H0.out h, ⟨fun _ _ => rfl, fun _ h => absurd (.inr hw2) h, ((hb.setCell (p := ⟨_, 0, none⟩) (by simp) _).setCell (p := ⟨_, 1, none⟩) (by simp) _).alloc (by simp <;> omega) _⟩⟩
      · have hw3 : width ≤ 200 := by omega
        have tw2 : decide (200 < width) = false := decide_eq_false hw2
        clear hw2
        go_wp2_with fail
        refine (find_any l hle line g1 g2 _).mono ?_
        rintro e w2 ⟨f1, f2, hb2⟩
        have hB2 := (hB1.alloc (.cells #[.int .i64 0, .int .i64 0] 24)).belowS hb2
        have hb3 := below_then (hb.alloc (by omega) (.cells #[.int .i64 0, .int .i64 0] 24)) hb2 (by simp; omega)
        clear hB1 hb hb2 q1 q2 q3
        have he := f1 q t x HSP.out HLN.out
        subst he
        clear f1 f2
        have hat := atOf_splitB 10 l
        rw [HSP.out, atOf_append] at hat
        simp only [atOf] at hat
        have hxl : x.length ≤ l.length := by omega
        clear hat
        have hrc := rcl_le x
        obtain ⟨cap, w3, hcv, hcap, hb4, hcell, hsz⟩ := runes_of x w2 (by omega)
        have hB4 := hB2.belowS hb4
        have hb5 := below_then hb3 hb4 hb3.size
        obtain ⟨q1, q2, q3⟩ := hB4.rules
        have HCell := Lib.hid hcell
        clear hcell
        go_wp2_with fail
        obtain ⟨f, hf⟩ : ∃ f : Nat, max 0 (min ((m : Int) - width / 2) ((runeCountL x : Int) - width)) = (f : Int) := ⟨(max 0 (min ((m : Int) - width / 2) ((runeCountL x : Int) - width))).toNat, by omega⟩
        obtain ⟨t', ht'⟩ : ∃ t' : Nat, min (runeCountL x : Int) ((f : Int) + width) = (t' : Int) := ⟨(min (runeCountL x : Int) ((f : Int) + width)).toNat, by omega⟩
        rw [hf, ht']
        have HF := Lib.hid hf
        have HT := Lib.hid ht'
        have k1 : f ≤ t' := by omega
        have k2 : t' ≤ runeCountL x := by omega
        have k3 : f ≤ m := by omega
        have k4 : f = 0 ∨ f < runeCountL x := by omega
        clear hf ht'
        have e1 : IntKind.i64.wrap (m : Int) = (m : Int) := IntWalk.i64_in _ (by omega)
        have e2 : IntKind.i64.wrap ((m : Int) - f) = ((m - f : Nat) : Int) := by rw [IntWalk.i64_in _ (by omega)]; omega
        have hm2 : m ≤ 16000 := by omega
        have hn2 : runeCountL x ≤ 16000 := by omega
        have hrl := runesL_length x.length x (Nat.le_refl _)
        obtain ⟨rb, hrb⟩ : ∃ rb : List UInt8, runesBytes (((runesL x).drop f).take (t' - f)) = ⟨rb.toArray⟩ := ⟨_, by rfl⟩
        have hrbl : rb.length ≤ 64000 := by
          have h := runesBytes_size_le (((runesL x).drop f).take (t' - f))
          rw [hrb] at h
          have h2 : (((runesL x).drop f).take (t' - f)).length ≤ 16000 := by rw [List.length_take]; omega
          simp [ByteArray.size] at h
          omega
        have hcv2 : ∀ W : World, Below w3.heap.size w3 W → ∀ c, (convert 52 9 (.slice (some ⟨w2.heap.size, f, none⟩) (t' - f) c)).run Tryd.prog W = .ok (.string ⟨rb.toArray⟩) W := fun W hW c => by
          rw [conv_back (runesL x) w2.heap.size f t' c W (fun j u hu => (hW.cell (p := ⟨w2.heap.size, j, none⟩) hsz).trans (HCell.out j u hu)) k1 (by omega), hrb]
        have HCV := Lib.hid hcv2
        obtain ⟨rp, hrp⟩ : ∃ rp, repeatL [32] (m - f) = rp := ⟨_, rfl⟩
        have hrpl : rp.length ≤ 16000 := by rw [← hrp, repeatL_length]; simp; omega
        have hrep : ∀ W : World, Calls Tryd.prog 28 #[.string ⟨#[32]⟩, .int .i64 ((m - f : Nat) : Int)] W fun e w' => e = .returned (.string ⟨rp.toArray⟩) ∧ Below W.heap.size W w' := fun W => by
          refine (Tryd.strings_Repeat ⟨#[32]⟩ (m - f) W (by omega) (by simp [ByteArray.size]; omega)).mono ?_
          rintro e w' ⟨rfl, hb⟩
          exact ⟨by simp only [hrp], hb⟩
        have HREP := Lib.hid hrep
        clear hrep
        have HEX := Lib.hid (show exText x m width = rb ++ [10] ++ rp ++ [94] by
          have hF := HF.out
          have hTT := HT.out
          unfold exText exFrom
          rw [hF, Int.toNat_natCast, hrp]
          have : ((runesL x).drop f).take width.toNat = ((runesL x).drop f).take (t' - f) := by
            rw [List.take_eq_take_iff, List.length_drop]
            omega
          rw [this, hrb])
        have FIN := Lib.hid (exPost_ok l line width m w q t x H0.out ⟨hw0, hw3⟩ HSP.out HLN.out)
        clear g1 g2 g3 g4 g5 g6 hw0 hw3 tw1 tw2 hcv hrc hxl hle hl hm hcv2 hrb hrl hrp hz
        have cvA := HCV.out w3.drew (Below.refl _ _).drew
        rcases Nat.eq_zero_or_pos f with f0 | f0
        · subst f0
          simp only [Nat.sub_zero] at cvA
          clear e2
          have hr0 := HREP.out
          rw [Nat.sub_zero] at hr0
          clear HREP
          have HREP := Lib.hid hr0
          clear hr0
          go_region_with (first
            | (go_at_call 28; (with_reducible refine (HREP.out _).mono ?_); rintro e w4 ⟨rfl, hb6⟩; have hB6 := hB4.drew.belowS hb6; obtain ⟨p1, p2, p3⟩ := hB6.rules; have cvB := HCV.out w4 ((Below.refl _ w3).drew.trans hb6); (try simp only [Nat.sub_zero] at cvB)))
          all_goals go_wp2_with fail
          all_goals exact ret_tmp_blk rfl rfl ((hB6.set_ 0 (.int .i64 0)).set_ 1 (.int .i64 0)) _ Tryd.underlying24 rfl (by kernel_rfl) rfl _ rfl (FIN.out _ _ (by rw [HEX.out, ← cat4]; rfl) (((below_then hb5.drew hb6 hb5.size).setCell (p := ⟨_, 0, none⟩) (by simp) _).setCell (p := ⟨_, 1, none⟩) (by simp) _))
        · have f1 : f < cap := by omega
          go_region_with (first
            | (go_at_call 28; (with_reducible refine (HREP.out _).mono ?_); rintro e w4 ⟨rfl, hb6⟩; have hB6 := hB4.drew.belowS hb6; obtain ⟨p1, p2, p3⟩ := hB6.rules; have cvB := HCV.out w4 ((Below.refl _ w3).drew.trans hb6); (try simp only [Nat.sub_zero] at cvB)))
          all_goals go_wp2_with fail
          all_goals exact ret_tmp_blk rfl rfl ((hB6.set_ 0 (.int .i64 0)).set_ 1 (.int .i64 0)) _ Tryd.underlying24 rfl (by kernel_rfl) rfl _ rfl (FIN.out _ _ (by rw [HEX.out, ← cat4]; rfl) (((below_then hb5.drew hb6 hb5.size).setCell (p := ⟨_, 0, none⟩) (by simp) _).setCell (p := ⟨_, 1, none⟩) (by simp) _))
  · have HL := Lib.hid hs
    have hcb : ((c : Int) == 0) = false := by simpa using hc
    have HC := Lib.hid hc
    clear hs hc
    go_enter Tryd.func18, Tryd.ntmps18
    go_wp2_with fail
    refine (offset_any l line col _ hl g1 g2 g3 g4 hT1).mono ?_
    rintro e w1 ⟨rfl, hb1⟩
    rw [HL.out]
    have hB1 := (Blk.new w 24 #[.int .i64 0, .int .i64 0]).belowS hb1
    have hb := below_then ((Below.refl _ w).alloc (Nat.le_refl _) _) hb1 (by simp)
    clear hb1 hT1
    obtain ⟨q1, q2, q3⟩ := hB1.rules
    unfold flt
    go_wp2_with fail
    go_region
    all_goals go_wp2_with fail
    exact ret_tmp_blk rfl rfl (((hB1.set_ 0 (.int .i64 c)).set_ 1 (.int .i64 i)).alloc _) _ Tryd.underlying24 rfl (by kernel_rfl) rfl _ rfl ⟨(fun _ => by rw [HL.out]; rfl), ⟨fun h => absurd (by rw [HL.out] at h; exact h) HC.out, fun h => absurd (by rw [HL.out] at h; exact h) HC.out, (((hb.setCell (p := ⟨_, 0, none⟩) (by simp) _).setCell (p := ⟨_, 1, none⟩) (by simp) _).alloc (by simp <;> omega) _).drew⟩⟩

end Go.Proofs.YtfocggdplahnbaaDoor
