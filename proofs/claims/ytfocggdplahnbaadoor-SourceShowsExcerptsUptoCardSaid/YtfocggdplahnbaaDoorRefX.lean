/- The reference's ExcerptOf: what it computes. Nothing is claimed here. -/
import Derived.Test.YtfocggdplahnbaaDoorRefG
import Derived.Test.YtfocggdplahnbaaDoorSrcJoin
namespace Go.Proofs.YtfocggdplahnbaaDoor
open Go.RowKit Go.Shelf Go.Lib

/-- what is decoded is a rune, or the sign of a fault -/
theorem decodeN_valid (n b0 b1 b2 b3 : Nat) (h0 : b0 < 256) : (decodeN n b0 b1 b2 b3).1 < 55296 ∨ (57343 < (decodeN n b0 b1 b2 b3).1 ∧ (decodeN n b0 b1 b2 b3).1 ≤ 1114111) := by
  unfold decodeN
  split
  · left; simp only; omega
  · split
    · split
      · left; simp only; omega
      · right; simp only; omega
    · split
      · split
        · rename_i hc; simp only; omega
        · right; simp only; omega
      · split
        · split
          · rename_i hc; simp only; omega
          · right; simp only; omega
        · right; simp only; omega
theorem Chr.valid {c : List UInt8} (_ : Chr c) : (decodeL c).1 < 55296 ∨ (57343 < (decodeL c).1 ∧ (decodeL c).1 ≤ 1114111) := by
  rw [decodeL_eq]
  exact decodeN_valid _ _ _ _ _ (bAt_lt c 0)
theorem valid_of (r : Nat) (hr : r < 55296 ∨ (57343 < r ∧ r ≤ 1114111)) : Utf8.valid (r : Int) = true := by
  unfold Utf8.valid
  rw [Bool.or_eq_true, Bool.and_eq_true, Bool.and_eq_true, decide_eq_true_eq, decide_eq_true_eq, decide_eq_true_eq, decide_eq_true_eq]
  omega
theorem enc1 (r : Nat) (h1 : r ≤ 127) : (Utf8.encode (r : Int)).data.toList = encodeRune (r : Int) := by
  unfold Utf8.encode encodeRune
  rw [encodeRuneZ_one (by omega) (by omega)]
  simp only [valid_of r (by omega), if_true, Int.toNat_natCast]
  rw [if_pos (by omega)]
  simp
theorem enc2 (r : Nat) (h1 : 128 ≤ r) (h2 : r ≤ 2047) : (Utf8.encode (r : Int)).data.toList = encodeRune (r : Int) := by
  unfold Utf8.encode encodeRune
  rw [encodeRuneZ_two (by omega) (by omega)]
  have e1 : (192 + (r : Int) / 64).toNat = 192 + r / 64 := by omega
  have e2 : (128 + (r : Int) % 64).toNat = 128 + r % 64 := by omega
  simp only [valid_of r (by omega), if_true, Int.toNat_natCast]
  rw [if_neg (by omega), if_pos (by omega)]
  simp only [List.map_cons, List.map_nil, e1, e2, Nat.toUInt8_eq]
theorem enc3 (r : Nat) (h1 : 2048 ≤ r) (h2 : r ≤ 65535) (h3 : r < 55296 ∨ 57343 < r) : (Utf8.encode (r : Int)).data.toList = encodeRune (r : Int) := by
  unfold Utf8.encode encodeRune
  rw [encodeRuneZ_three (by omega)]
  have e1 : (224 + (r : Int) / 4096).toNat = 224 + r / 4096 := by omega
  have e2 : (128 + (r : Int) / 64 % 64).toNat = 128 + r / 64 % 64 := by omega
  have e3 : (128 + (r : Int) % 64).toNat = 128 + r % 64 := by omega
  simp only [valid_of r (by omega), if_true, Int.toNat_natCast]
  rw [if_neg (by omega), if_neg (by omega), if_pos (by omega)]
  simp only [List.map_cons, List.map_nil, e1, e2, e3, Nat.toUInt8_eq]
theorem enc4 (r : Nat) (h1 : 65536 ≤ r) (h2 : r ≤ 1114111) : (Utf8.encode (r : Int)).data.toList = encodeRune (r : Int) := by
  unfold Utf8.encode encodeRune
  rw [encodeRuneZ_four (by omega) (by omega)]
  have e1 : (240 + (r : Int) / 262144).toNat = 240 + r / 262144 := by omega
  have e2 : (128 + (r : Int) / 4096 % 64).toNat = 128 + r / 4096 % 64 := by omega
  have e3 : (128 + (r : Int) / 64 % 64).toNat = 128 + r / 64 % 64 := by omega
  have e4 : (128 + (r : Int) % 64).toNat = 128 + r % 64 := by omega
  simp only [valid_of r (by omega), if_true, Int.toNat_natCast]
  rw [if_neg (by omega), if_neg (by omega), if_neg (by omega)]
  simp only [List.map_cons, List.map_nil, e1, e2, e3, e4, Nat.toUInt8_eq]
theorem encode_eq (r : Nat) (hr : r < 55296 ∨ (57343 < r ∧ r ≤ 1114111)) : (Utf8.encode (r : Int)).data.toList = encodeRune (r : Int) := by
  rcases Nat.lt_or_ge 127 r with h1 | h1
  · rcases Nat.lt_or_ge 2047 r with h2 | h2
    · rcases Nat.lt_or_ge 65535 r with h3 | h3
      · exact enc4 r h3 (by omega)
      · exact enc3 r h2 h3 (by omega)
    · exact enc2 r h1 h2
  · exact enc1 r h1

theorem runesBytes_list (ns : List Int) : ∀ a : ByteArray, (ns.foldl (fun r n => r ++ Utf8.encode n) a).data.toList = a.data.toList ++ (ns.map fun n => (Utf8.encode n).data.toList).flatten := by
  induction ns with
  | nil => intro a; simp
  | cons n ns ih => intro a; rw [List.foldl_cons, ih, ByteArray.data_append]; simp
theorem runesBytes_eq (ns : List Int) : (runesBytes ns).data.toList = (ns.map fun n => (Utf8.encode n).data.toList).flatten := by
  unfold runesBytes
  rw [runesBytes_list]
  rfl
theorem Chr.encode {c : List UInt8} (h : Chr c) : (Utf8.encode ((decodeL c).1 : Int)).data.toList = c := by
  have hd := h.dec []
  rw [List.append_nil] at hd
  have hne : c ≠ [] := by intro e; have := h.pos; rw [e] at this; simp at this
  rw [encode_eq _ h.valid, encode_decode c hne ?_, hd]
  · simp
  · have h1 := h.ok
    unfold badL at h1
    simp only [Bool.or_eq_false_iff, Bool.and_eq_false_iff, beq_eq_false_iff_ne, ne_eq] at h1
    rintro ⟨e1, e2⟩
    rcases h1.2 with h2 | h2
    · exact h2 e1
    · exact h2 e2
theorem runesL_chars : ∀ X : List (List UInt8), (∀ c ∈ X, Chr c) → runesL X.flatten = X.map fun c => ((decodeL c).1 : Int)
  | [], _ => rfl
  | c :: X, h => by
    have hc := h c (List.mem_cons_self ..)
    rw [List.flatten_cons, runesL_cons _ (hc.ne _), hc.drop, runesL_chars X (fun x hx => h x (List.mem_cons_of_mem _ hx)), hc.dec]
    rfl
/-- a part of a line's runes as bytes -/
theorem part_bytes (X : List (List UInt8)) (h : ∀ c ∈ X, Chr c) (f k : Nat) : (runesBytes (((runesL X.flatten).drop f).take k)).data.toList = ((X.drop f).take k).flatten := by
  rw [runesL_chars X h, runesBytes_eq, ← List.map_drop, ← List.map_take, List.map_map]
  congr 1
  have : ∀ c ∈ (X.drop f).take k, ((fun n => (Utf8.encode n).data.toList) ∘ fun c => ((decodeL c).1 : Int)) c = c := by
    intro c hc
    rw [Function.comp_apply]
    exact (h c (List.mem_of_mem_drop (List.mem_of_mem_take hc))).encode
  rw [List.map_congr_left this, List.map_id']

theorem join_flat : ∀ X : List (List UInt8), Lib.join X [] = X.flatten
  | [] => rfl
  | x :: X => by
    rw [join_cons]
    unfold joinTail
    simp
/-- strings.Join without a separator -/
theorem join_any (X : List (List UInt8)) (A : Option Addr) (c : Nat) (w : World) (hrow : Row w A (strs X)) (hc : X.length ≤ c) (hl : X.length ≤ 140737488355328) (hx : X.flatten.length ≤ 140737488355328) :
    Calls Tryd.prog 29 #[.slice A X.length c, .string ⟨#[]⟩] w fun e w' => e = .returned (.string ⟨X.flatten.toArray⟩) ∧ Below w.heap.size w w' := by
  cases X with
  | nil =>
    refine (Any.strings_Join_none Tryd.lays156 Tryd.Builder_Extra_156 A c ⟨#[]⟩ w).mono ?_
    rintro e w' ⟨rfl, rfl⟩
    exact ⟨rfl, Below.refl _ _⟩
  | cons x X =>
    obtain ⟨b, off, rfl, hlt, hcc⟩ := hrow.at_ (k := 0) (by simp [strs])
    have hmap : ((x :: X).map fun s => (⟨s.toArray⟩ : ByteArray)).map (·.data.toList) = x :: X := by
      rw [List.map_map]
      have : ((fun s : ByteArray => s.data.toList) ∘ fun s : List UInt8 => (⟨s.toArray⟩ : ByteArray)) = id := by funext s; simp
      rw [this, List.map_id]
    have h := Any.strings_Join Tryd.lays156 Tryd.Builder_Extra_156 b off c ((x :: X).map fun s => ⟨s.toArray⟩) ⟨#[]⟩ w
      (fun j y hy => hcc j _ (by rw [List.getElem?_map] at hy; simp only [strs, List.getElem?_map]; cases h : (x :: X)[j]? with
        | none => rw [h] at hy; simp at hy
        | some z => rw [h] at hy; simp at hy; subst hy; rfl)) hlt (by rw [List.length_map]; exact hl) (by rw [List.length_map]; exact hc)
      (by rw [hmap]; show (Lib.join (x :: X) []).length ≤ _; rw [join_flat]; exact hx)
    rw [List.length_map] at h
    refine h.mono ?_
    rintro e w' ⟨rfl, hb⟩
    refine ⟨?_, hb⟩
    rw [hmap]
    show Ending.returned (.string ⟨(Lib.join (x :: X) []).toArray⟩) = _
    rw [join_flat]

/-- the text of an excerpt by characters -/
theorem exText_chars (X : List (List UInt8)) (h : ∀ c ∈ X, Chr c) (m : Nat) (width : Int) (f : Nat) (hf : exFrom m X.length width = (f : Int)) :
    exText X.flatten m width = ((X.drop f).take width.toNat).flatten ++ [10] ++ repeatL [32] (m - f) ++ [94] := by
  unfold exText
  rw [rcl_chars X h, hf, Int.toNat_natCast, part_bytes X h]

theorem Row.sub {w : World} {b off : Nat} {X : List (List UInt8)} (h : Row w (some ⟨b, off, none⟩) (strs X)) (f k : Nat) : Row w (some ⟨b, off + f, none⟩) (strs ((X.drop f).take k)) := by
  rcases h with h | ⟨b', off', e, hlt, hc⟩
  · left
    have : X = [] := by simpa [strs] using h
    subst this
    simp [strs]
  · injection e with e
    injection e with e1 e2
    subst e1 e2
    refine .inr ⟨b, off + f, rfl, hlt, fun j u hu => ?_⟩
    rw [Nat.add_assoc]
    refine hc (f + j) u ?_
    simp only [strs, List.getElem?_map] at hu ⊢
    rw [List.getElem?_take] at hu
    split at hu
    · rwa [List.getElem?_drop] at hu
    · simp at hu

set_option maxRecDepth 100000 in
set_option maxHeartbeats 4000000 in
theorem excerptOf_any (l : List UInt8) (line col width : Int) (w : World) (hl : l.length ≤ 1048576) (g1 : -9223372036854775808 ≤ line) (g2 : line ≤ 9223372036854775807) (g3 : -9223372036854775808 ≤ col) (g4 : col ≤ 9223372036854775807) (hT : Tabs w) :
    Calls Tryd.prog 19 #[.string ⟨l.toArray⟩, .int .i64 line, .int .i64 col, .int .i64 width] w (ExPost l line col width w) := by
  have hT1 : Tabs (w.alloc (.cells #[.int .i64 0, .int .i64 0] 24)) := hT.keepB ((Below.refl _ _).alloc (Nat.le_refl _) _)
  obtain ⟨o, c, i, hs⟩ : ∃ o c i, offOf l line col = (o, (c, i)) := ⟨_, _, _, rfl⟩
  have HS := Lib.hid hs
  by_cases hc : c = 0
  · obtain ⟨hz, ho, q, x, t, hsp, hln, m, hcm, hm, _⟩ := offOf_ok l line col (by rw [hs]; exact hc)
    have hi : i = 0 := by
      rw [hs] at ho
      exact (Prod.mk.inj (Prod.mk.inj ho).2).2
    subst hc hi
    have H0 := Lib.hid (show (offOf l line col).2.1 = 0 by rw [hs])
    obtain ⟨hle, cs, hlc, hcs⟩ := chars_of l hz
    have a1' := hsp
    rw [hlc, splitB_chars cs hcs] at a1'
    obtain ⟨Q, X, T, b1, b2, b3, b4⟩ := map_split a1'
    have hX : ∀ d ∈ X, Chr d := splitC_chars cs hcs X (by rw [b1]; simp)
    have hrx : runeCountL x = X.length := by rw [← b3]; exact rcl_chars X hX
    have hqk : (splitB 10 l)[q.length]? = some x := by rw [hsp, List.getElem?_append_right (Nat.le_refl _)]; simp
    have hxl : x.length ≤ l.length := by
      have hat := atOf_splitB 10 l
      rw [hsp, atOf_append] at hat
      simp only [atOf] at hat
      omega
    have hXl : X.length ≤ x.length := by rw [← hrx]; exact rcl_le x
    rw [hrx] at hm
    obtain ⟨N, hN⟩ : ∃ N, (splitB 10 l).length = N := ⟨_, rfl⟩
    have hql : q.length < N := by rw [← hN, hsp]; simp
    have hNl : N ≤ 16001 := by have := splitB_length_le 10 l; omega
    have HN := Lib.hid hN
    have HX := Lib.hid hX
    have HB3 := Lib.hid b3
    have HQK := Lib.hid hqk
    have HSP := Lib.hid hsp
    have HLN := Lib.hid hln
    have HOO := Lib.hid (offsetOf_any l line col (w.alloc (.cells #[.int .i64 0, .int .i64 0] 24)) hl g1 g2 g3 g4 hT1)
    have HIN := Lib.hid (fun (hw : 20 ≤ width ∧ width ≤ 200) => exPost_ok l line width m w q t x (by rw [← hcm]; exact H0.out) hw hsp hln)
    subst hcm
    subst hln
    clear hs hz ho hlc hcs a1' b1 b2 b3 b4 hX hrx hqk hsp hN hT1 g1 g2 g3 g4
    by_cases hw : width < 20 ∨ 200 < width
    · have FIN : Hid (∀ e w', e = .returned (.tuple #[.string ⟨#[]⟩, flt 4 (-4)]) → Below w.heap.size w w' → ExPost l ((q.length : Int) + 1) ((m : Int) + 1) width w e w') := Lib.hid (fun e w' he hb => ⟨fun h => absurd H0.out h, fun _ _ => he, fun _ h => absurd hw h, hb⟩)
      have hws : (decide (width < 20) = true) ∨ (decide (width < 20) = false ∧ decide (200 < width) = true) := by
        rcases hw with h | h
        · exact .inl (decide_eq_true h)
        · exact .inr ⟨decide_eq_false (by omega), decide_eq_true h⟩
      clear hw HIN
      rcases hws with d1 | ⟨d1, d2⟩
      all_goals
        go_enter Tryd.func19, Tryd.ntmps19
        go_wp2_with fail
        refine (HOO.out).mono ?_
        rintro e w1 ⟨rfl, hb1⟩
        rw [HS.out]
        have hB1 := (Blk.new w 24 #[.int .i64 0, .int .i64 0]).belowS hb1
        have hb := below_then ((Below.refl _ w).alloc (Nat.le_refl _) _) hb1 (by simp)
        clear hb1
        unfold flt
        go_wp2_with fail
        refine (at_any _ _ _).mono ?_
        rintro e w2 ⟨rfl, hb2⟩
        have hB2 := (hB1.alloc _).belowS hb2
        have hF2 := keep_new hb2
        have hb3 := below_then (hb.alloc hb.size _) hb2 (by have := hb.size; simp; omega)
        have hs3 := hB1.lt
        clear hB1 hb hb2
        obtain ⟨q1, q2, q3⟩ := hB2.rules
        obtain ⟨r1, r2, r3⟩ := hF2.rules
        unfold flt
        go_wp2_with fail
        obtain ⟨WD, hWD⟩ : ∃ WD, (w2.setCell ⟨w1.heap.size, 0, none⟩ (.int .i64 4)).setCell ⟨w1.heap.size, 1, none⟩ (.int .i64 (-4)) = WD := ⟨_, rfl⟩
        have hB5 : Blk WD w.heap.size 24 #[.int .i64 0, .int .i64 0] := by rw [← hWD]; exact (hB2.far (by simp; omega) _).far (by simp; omega) _
        have hF5 : Blk WD w1.heap.size 24 #[.int .i64 4, .int .i64 (-4)] := by rw [← hWD]; exact (hF2.set_ 0 _).set_ 1 _
        have hb5 : Below w.heap.size w WD := by rw [← hWD]; exact (hb3.setCell (p := ⟨_, 0, none⟩) (by simp; omega) _).setCell (p := ⟨_, 1, none⟩) (by simp; omega) _
        rw [hWD]
        clear hWD hB2 hF2 hb3 q1 q2 q3 r1 r2 r3
        obtain ⟨q1, q2, q3⟩ := hB5.rules
        obtain ⟨r1, r2, r3⟩ := hF5.rules
        go_region
        all_goals go_wp2_with fail
        exact ret_tmp_blk rfl rfl ((hB5.set_ 0 (.int .i64 4)).set_ 1 (.int .i64 (-4))) _ Tryd.underlying24 rfl (by kernel_rfl) rfl _ rfl (FIN.out _ _ rfl ((hb5.setCell (p := ⟨_, 0, none⟩) (by simp) _).setCell (p := ⟨_, 1, none⟩) (by simp) _).drew)
    · have hw1 : 20 ≤ width := by omega
      have hw2 : width ≤ 200 := by omega
      have d1 : decide (width < 20) = false := decide_eq_false (by omega)
      have d2 : decide (200 < width) = false := decide_eq_false (by omega)
      have FIN := Lib.hid (HIN.out ⟨hw1, hw2⟩)
      clear hw HIN
      go_enter Tryd.func19, Tryd.ntmps19
      go_wp2_with fail
      refine (HOO.out).mono ?_
      rintro e w1 ⟨rfl, hb1⟩
      rw [HS.out]
      have hB1 := (Blk.new w 24 #[.int .i64 0, .int .i64 0]).belowS hb1
      have hb := below_then ((Below.refl _ w).alloc (Nat.le_refl _) _) hb1 (by simp)
      clear hb1 HOO
      unfold flt
      have HW1 := Lib.hid hw1
      have HW2 := Lib.hid hw2
      clear hw1 hw2
      go_wp2_with fail
      refine (sourceLines_any l _ hl).mono ?_
      rintro e w2 ⟨A, cp, rfl, hcap, hrow, hb2⟩
      rw [HN.out] at hcap
      rw [HN.out]
      have hB2 := (hB1.alloc _).belowS hb2
      have hb3 := below_then (hb.alloc hb.size _) hb2 (by have := hb.size; simp; omega)
      clear hB1 hb hb2
      obtain ⟨b, off, rfl, hlt, hcc⟩ : ∃ b off, A = some ⟨b, off, none⟩ ∧ b < w2.heap.size ∧ w2.cell? ⟨b, off + q.length, none⟩ = some (.string ⟨x.toArray⟩) := by
        have hq2 : q.length < (splitB 10 l).length := by rw [HN.out]; exact hql
        obtain ⟨b, off, e, hlt, hcc⟩ := hrow.str (k := q.length) hq2
        have := HQK.out
        rw [List.getElem?_eq_getElem hq2] at this
        rw [Option.some.inj this] at hcc
        exact ⟨b, off, e, hlt, hcc⟩
      clear hrow
      have hch : ∀ W : World, Tabs W → Calls Tryd.prog 27 #[.string ⟨x.toArray⟩] W (StrPost X W) := fun W hW => by
        have := characters_any X HX.out W (by rw [HB3.out]; omega) hW
        rwa [HB3.out] at this
      have HCH := Lib.hid hch
      clear hch
      go_wp2_with fail
      refine (HCH.out _ (hT.keepB hb3)).mono ?_
      rintro e w3 ⟨A3, c3, rfl, hcap3, hrow3, hb4⟩
      have hB4 := hB2.belowS hb4
      have hb5 := below_then hb3 hb4 hb3.size
      clear hB2 hb3 hb4 hcc hlt HCH
      have hw1 := HW1.out
      have hw2 := HW2.out
      by_cases hnw : width < X.length
      · have d3 : decide (width < (X.length : Int)) = true := decide_eq_true hnw
        obtain ⟨wn, rfl⟩ := Int.eq_ofNat_of_zero_le (show 0 ≤ width by omega)
        obtain ⟨b3, off3, rfl, hlt3, -⟩ := hrow3.str (k := 0) (by omega)
        have d4 : decide (wn < X.length) = true := decide_eq_true (by omega)
        by_cases hA : (m : Int) - (wn : Int) / 2 < 0
        · have d5 : decide ((m : Int) - (wn : Int) / 2 < 0) = true := decide_eq_true hA
          go_wp2_with fail
          have HEX := Lib.hid (show exText x m ((wn : Int)) = ((X.drop 0).take ((wn : Int)).toNat).flatten ++ [10] ++ repeatL [32] (m - 0) ++ [94] by rw [← HB3.out]; exact exText_chars X HX.out m ((wn : Int)) 0 (by unfold exFrom; omega))
          obtain ⟨rp, hrp⟩ : ∃ rp, repeatL [32] (m - 0) = rp := ⟨_, rfl⟩
          have hrpl : rp.length ≤ 16000 := by rw [← hrp, repeatL_length]; simp; omega
          have hrep : ∀ W : World, Calls Tryd.prog 28 #[.string ⟨#[32]⟩, .int .i64 ((m : Int))] W fun e w' => e = .returned (.string ⟨rp.toArray⟩) ∧ Below W.heap.size W w' := fun W => by
            have h := Tryd.strings_Repeat ⟨#[32]⟩ (m - 0) W (by omega) (by simp [ByteArray.size]; omega)
            rw [show (((m - 0 : Nat)) : Int) = (m : Int) by omega] at h
            refine h.mono ?_
            rintro e w' ⟨rfl, hb⟩
            exact ⟨by simp only [hrp], hb⟩
          have HREP := Lib.hid hrep
          obtain ⟨jn, hjn⟩ : ∃ jn, ((X.drop 0).take ((wn : Int)).toNat).flatten = jn := ⟨_, rfl⟩
          have hjl : jn.length ≤ 16000 := by
            have h1 : ((X.drop 0).take ((wn : Int)).toNat).flatten.length ≤ X.flatten.length := Nat.le_trans (take_len_le _ _) (by
              have := congrArg (fun l => l.flatten.length) (List.take_append_drop 0 X)
              simp only [List.flatten_append, List.length_append] at this
              omega)
            rw [hjn, HB3.out] at h1
            omega
          rw [hjn, hrp] at HEX
          clear hrep hrp
          have hYl : ((X.drop 0).take wn).length = wn := by rw [List.length_take, List.length_drop]; omega
          have hjn' : ((X.drop 0).take wn).flatten = jn := by rw [Int.toNat_natCast] at hjn; exact hjn
          have hj : ∀ W : World, Below w3.heap.size w3 W → Calls Tryd.prog 29 #[.slice (some ⟨b3, off3 + 0, none⟩) wn (c3 - 0), .string ⟨#[]⟩] W fun e w' => e = .returned (.string ⟨jn.toArray⟩) ∧ Below W.heap.size W w' := fun W hW => by
            have h := join_any ((X.drop 0).take wn) (some ⟨b3, off3 + 0, none⟩) (c3 - 0) W ((hrow3.keepB hW).sub 0 wn) (by rw [hYl]; omega) (by rw [hYl]; omega) (by rw [hjn']; omega)
            rwa [hYl, hjn'] at h
          clear hjn' hYl
          have HJ : Hid (Calls Tryd.prog 29 #[.slice (some ⟨b3, off3, none⟩) wn c3, .string ⟨#[]⟩] w3 fun e w' => e = .returned (.string ⟨jn.toArray⟩) ∧ Below w3.heap.size w3 w') := Lib.hid (by have h := hj w3 (Below.refl _ _); rwa [Nat.add_zero, Nat.sub_zero] at h)
          clear hj hjn hnw hw1 hw2 hrow3 hA
          refine (HJ.out).mono ?_
          rintro e w5 ⟨rfl, hb6x⟩
          have hB6 := hB4.belowS hb6x
          have hb6 := below_then hb5 hb6x hb5.size
          clear hb6x hB4 hb5
          go_wp2_with fail
          refine (HREP.out _).mono ?_
          rintro e w6 ⟨rfl, hb7x⟩
          have hB7 := hB6.belowS hb7x
          have hb7 := below_then hb6 hb7x hb6.size
          clear hb7x hB6 hb6
          obtain ⟨q1, q2, q3⟩ := hB7.rules
          go_wp2_with fail
          exact ret_tmp_blk rfl rfl ((hB7.set_ 0 (.int .i64 0)).set_ 1 (.int .i64 0)) _ Tryd.underlying24 rfl (by kernel_rfl) rfl _ rfl (FIN.out _ _ (by rw [HEX.out, ← cat4]; rfl) ((hb7.setCell (p := ⟨_, 0, none⟩) (by simp) _).setCell (p := ⟨_, 1, none⟩) (by simp) _))
        · have d5 : decide ((m : Int) - (wn : Int) / 2 < 0) = false := decide_eq_false hA
          obtain ⟨f, hf⟩ := Int.eq_ofNat_of_zero_le (show 0 ≤ (m : Int) - (wn : Int) / 2 by omega)
          by_cases hC : (X.length : Int) - wn < (m : Int) - (wn : Int) / 2
          · have d6 : decide ((X.length : Int) - wn < (m : Int) - (wn : Int) / 2) = true := decide_eq_true hC
            go_wp2_with fail
            have HEX := Lib.hid (show exText x m ((wn : Int)) = ((X.drop (X.length - wn)).take ((wn : Int)).toNat).flatten ++ [10] ++ repeatL [32] (m - (X.length - wn)) ++ [94] by rw [← HB3.out]; exact exText_chars X HX.out m ((wn : Int)) (X.length - wn) (by unfold exFrom; omega))
            obtain ⟨rp, hrp⟩ : ∃ rp, repeatL [32] (m - (X.length - wn)) = rp := ⟨_, rfl⟩
            have hrpl : rp.length ≤ 16000 := by rw [← hrp, repeatL_length]; simp; omega
            have hrep : ∀ W : World, Calls Tryd.prog 28 #[.string ⟨#[32]⟩, .int .i64 ((m : Int) - ((X.length : Int) - (wn : Int)))] W fun e w' => e = .returned (.string ⟨rp.toArray⟩) ∧ Below W.heap.size W w' := fun W => by
              have h := Tryd.strings_Repeat ⟨#[32]⟩ (m - (X.length - wn)) W (by omega) (by simp [ByteArray.size]; omega)
              rw [show (((m - (X.length - wn) : Nat)) : Int) = (m : Int) - ((X.length : Int) - (wn : Int)) by omega] at h
              refine h.mono ?_
              rintro e w' ⟨rfl, hb⟩
              exact ⟨by simp only [hrp], hb⟩
            have HREP := Lib.hid hrep
            obtain ⟨jn, hjn⟩ : ∃ jn, ((X.drop (X.length - wn)).take ((wn : Int)).toNat).flatten = jn := ⟨_, rfl⟩
            have hjl : jn.length ≤ 16000 := by
              have h1 : ((X.drop (X.length - wn)).take ((wn : Int)).toNat).flatten.length ≤ X.flatten.length := Nat.le_trans (take_len_le _ _) (by
                have := congrArg (fun l => l.flatten.length) (List.take_append_drop (X.length - wn) X)
                simp only [List.flatten_append, List.length_append] at this
                omega)
              rw [hjn, HB3.out] at h1
              omega
            rw [hjn, hrp] at HEX
            clear hrep hrp
            have hYl : ((X.drop (X.length - wn)).take wn).length = X.length - (X.length - wn) := by rw [List.length_take, List.length_drop]; omega
            have hjn' : ((X.drop (X.length - wn)).take wn).flatten = jn := by rw [Int.toNat_natCast] at hjn; exact hjn
            have hj : Calls Tryd.prog 29 #[.slice (some ⟨b3, off3 + (X.length - wn), none⟩) (X.length - (X.length - wn)) (c3 - (X.length - wn)), .string ⟨#[]⟩] w3 fun e w' => e = .returned (.string ⟨jn.toArray⟩) ∧ Below w3.heap.size w3 w' := by
              have h := join_any ((X.drop (X.length - wn)).take wn) (some ⟨b3, off3 + (X.length - wn), none⟩) (c3 - (X.length - wn)) w3 ((hrow3.keepB (Below.refl _ _)).sub (X.length - wn) wn) (by rw [hYl]; omega) (by rw [hYl]; omega) (by rw [hjn']; omega)
              rwa [hYl, hjn'] at h
            have HJ := Lib.hid hj
            clear hj hjn hnw hw1 hw2 hrow3 hA hC hjn' hYl
            refine (HJ.out).mono ?_
            rintro e w5 ⟨rfl, hb6x⟩
            have hB6 := hB4.belowS hb6x
            have hb6 := below_then hb5 hb6x hb5.size
            clear hb6x hB4 hb5
            go_wp2_with fail
            refine (HREP.out _).mono ?_
            rintro e w6 ⟨rfl, hb7x⟩
            have hB7 := hB6.belowS hb7x
            have hb7 := below_then hb6 hb7x hb6.size
            clear hb7x hB6 hb6
            obtain ⟨q1, q2, q3⟩ := hB7.rules
            go_wp2_with fail
            exact ret_tmp_blk rfl rfl ((hB7.set_ 0 (.int .i64 0)).set_ 1 (.int .i64 0)) _ Tryd.underlying24 rfl (by kernel_rfl) rfl _ rfl (FIN.out _ _ (by rw [HEX.out, ← cat4]; rfl) ((hb7.setCell (p := ⟨_, 0, none⟩) (by simp) _).setCell (p := ⟨_, 1, none⟩) (by simp) _))
          · have d6 : decide ((X.length : Int) - wn < (m : Int) - (wn : Int) / 2) = false := decide_eq_false hC
            go_wp2_with fail
            have HEX := Lib.hid (show exText x m ((wn : Int)) = ((X.drop f).take ((wn : Int)).toNat).flatten ++ [10] ++ repeatL [32] (m - f) ++ [94] by rw [← HB3.out]; exact exText_chars X HX.out m ((wn : Int)) f (by unfold exFrom; omega))
            obtain ⟨rp, hrp⟩ : ∃ rp, repeatL [32] (m - f) = rp := ⟨_, rfl⟩
            have hrpl : rp.length ≤ 16000 := by rw [← hrp, repeatL_length]; simp; omega
            have hrep : ∀ W : World, Calls Tryd.prog 28 #[.string ⟨#[32]⟩, .int .i64 ((m : Int) - (f : Int))] W fun e w' => e = .returned (.string ⟨rp.toArray⟩) ∧ Below W.heap.size W w' := fun W => by
              have h := Tryd.strings_Repeat ⟨#[32]⟩ (m - f) W (by omega) (by simp [ByteArray.size]; omega)
              rw [show (((m - f : Nat)) : Int) = (m : Int) - (f : Int) by omega] at h
              refine h.mono ?_
              rintro e w' ⟨rfl, hb⟩
              exact ⟨by simp only [hrp], hb⟩
            have HREP := Lib.hid hrep
            obtain ⟨jn, hjn⟩ : ∃ jn, ((X.drop f).take ((wn : Int)).toNat).flatten = jn := ⟨_, rfl⟩
            have hjl : jn.length ≤ 16000 := by
              have h1 : ((X.drop f).take ((wn : Int)).toNat).flatten.length ≤ X.flatten.length := Nat.le_trans (take_len_le _ _) (by
                have := congrArg (fun l => l.flatten.length) (List.take_append_drop f X)
                simp only [List.flatten_append, List.length_append] at this
                omega)
              rw [hjn, HB3.out] at h1
              omega
            rw [hjn, hrp] at HEX
            clear hrep hrp
            have hYl : ((X.drop f).take wn).length = wn := by rw [List.length_take, List.length_drop]; omega
            have hjn' : ((X.drop f).take wn).flatten = jn := by rw [Int.toNat_natCast] at hjn; exact hjn
            have hj : ∀ W : World, Below w3.heap.size w3 W → Calls Tryd.prog 29 #[.slice (some ⟨b3, off3 + f, none⟩) wn (c3 - f), .string ⟨#[]⟩] W fun e w' => e = .returned (.string ⟨jn.toArray⟩) ∧ Below W.heap.size W w' := fun W hW => by
              have h := join_any ((X.drop f).take wn) (some ⟨b3, off3 + f, none⟩) (c3 - f) W ((hrow3.keepB hW).sub f wn) (by rw [hYl]; omega) (by rw [hYl]; omega) (by rw [hjn']; omega)
              rwa [hYl, hjn'] at h
            clear hjn' hYl
            have HJ := Lib.hid (hj w3 (Below.refl _ _))
            clear hj hjn hnw hw1 hw2 hrow3 hA hC
            refine (HJ.out).mono ?_
            rintro e w5 ⟨rfl, hb6x⟩
            have hB6 := hB4.belowS hb6x
            have hb6 := below_then hb5 hb6x hb5.size
            clear hb6x hB4 hb5
            go_wp2_with fail
            refine (HREP.out _).mono ?_
            rintro e w6 ⟨rfl, hb7x⟩
            have hB7 := hB6.belowS hb7x
            have hb7 := below_then hb6 hb7x hb6.size
            clear hb7x hB6 hb6
            obtain ⟨q1, q2, q3⟩ := hB7.rules
            go_wp2_with fail
            exact ret_tmp_blk rfl rfl ((hB7.set_ 0 (.int .i64 0)).set_ 1 (.int .i64 0)) _ Tryd.underlying24 rfl (by kernel_rfl) rfl _ rfl (FIN.out _ _ (by rw [HEX.out, ← cat4]; rfl) ((hb7.setCell (p := ⟨_, 0, none⟩) (by simp) _).setCell (p := ⟨_, 1, none⟩) (by simp) _))
      · have d3 : decide (width < (X.length : Int)) = false := decide_eq_false hnw
        go_wp2_with fail
        have HEX := Lib.hid (show exText x m (width) = ((X.drop 0).take (width).toNat).flatten ++ [10] ++ repeatL [32] (m - 0) ++ [94] by rw [← HB3.out]; exact exText_chars X HX.out m (width) 0 (by unfold exFrom; omega))
        obtain ⟨rp, hrp⟩ : ∃ rp, repeatL [32] (m - 0) = rp := ⟨_, rfl⟩
        have hrpl : rp.length ≤ 16000 := by rw [← hrp, repeatL_length]; simp; omega
        have hrep : ∀ W : World, Calls Tryd.prog 28 #[.string ⟨#[32]⟩, .int .i64 ((m : Int))] W fun e w' => e = .returned (.string ⟨rp.toArray⟩) ∧ Below W.heap.size W w' := fun W => by
          have h := Tryd.strings_Repeat ⟨#[32]⟩ (m - 0) W (by omega) (by simp [ByteArray.size]; omega)
          rw [show (((m - 0 : Nat)) : Int) = (m : Int) by omega] at h
          refine h.mono ?_
          rintro e w' ⟨rfl, hb⟩
          exact ⟨by simp only [hrp], hb⟩
        have HREP := Lib.hid hrep
        obtain ⟨jn, hjn⟩ : ∃ jn, ((X.drop 0).take (width).toNat).flatten = jn := ⟨_, rfl⟩
        have hjl : jn.length ≤ 16000 := by
          have h1 : ((X.drop 0).take (width).toNat).flatten.length ≤ X.flatten.length := Nat.le_trans (take_len_le _ _) (by
            have := congrArg (fun l => l.flatten.length) (List.take_append_drop 0 X)
            simp only [List.flatten_append, List.length_append] at this
            omega)
          rw [hjn, HB3.out] at h1
          omega
        rw [hjn, hrp] at HEX
        clear hrep hrp
        have hjX : X.flatten = jn := by rw [← hjn, List.drop_zero, List.take_of_length_le (by omega)]
        have hj : ∀ W : World, Below w3.heap.size w3 W → Calls Tryd.prog 29 #[.slice A3 X.length c3, .string ⟨#[]⟩] W fun e w' => e = .returned (.string ⟨jn.toArray⟩) ∧ Below W.heap.size W w' := fun W hW => by
          have h := join_any X A3 c3 W (hrow3.keepB hW) hcap3 (by omega) (by rw [hjX]; omega)
          rwa [hjX] at h
        have HJ := Lib.hid (hj w3 (Below.refl _ _))
        clear hj hjn hjX hnw hw1 hw2 hrow3 hcap3
        refine (HJ.out).mono ?_
        rintro e w5 ⟨rfl, hb6x⟩
        have hB6 := hB4.belowS hb6x
        have hb6 := below_then hb5 hb6x hb5.size
        clear hb6x hB4 hb5
        go_wp2_with fail
        refine (HREP.out _).mono ?_
        rintro e w6 ⟨rfl, hb7x⟩
        have hB7 := hB6.belowS hb7x
        have hb7 := below_then hb6 hb7x hb6.size
        clear hb7x hB6 hb6
        obtain ⟨q1, q2, q3⟩ := hB7.rules
        go_wp2_with fail
        exact ret_tmp_blk rfl rfl ((hB7.set_ 0 (.int .i64 0)).set_ 1 (.int .i64 0)) _ Tryd.underlying24 rfl (by kernel_rfl) rfl _ rfl (FIN.out _ _ (by rw [HEX.out, ← cat4]; rfl) ((hb7.setCell (p := ⟨_, 0, none⟩) (by simp) _).setCell (p := ⟨_, 1, none⟩) (by simp) _))
  · have hcb : (c == 0) = false := by simpa using hc
    have hcb2 : (c != 0) = true := by simpa using hc
    have HOO := Lib.hid (offsetOf_any l line col (w.alloc (.cells #[.int .i64 0, .int .i64 0] 24)) hl g1 g2 g3 g4 hT1)
    have FIN : Hid (∀ e w', e = .returned (.tuple #[.string ⟨#[]⟩, flt c i]) → Below w.heap.size w w' → ExPost l line col width w e w') := Lib.hid (fun e w' he hb => ⟨fun _ => by rw [HS.out]; exact he, fun h => absurd (by rw [HS.out] at h; exact h) hc, fun h => absurd (by rw [HS.out] at h; exact h) hc, hb⟩)
    clear hs hc hT1 g1 g2 g3 g4
    go_enter Tryd.func19, Tryd.ntmps19
    go_wp2_with fail
    refine (HOO.out).mono ?_
    rintro e w1 ⟨rfl, hb1⟩
    rw [HS.out]
    have hB1 := (Blk.new w 24 #[.int .i64 0, .int .i64 0]).belowS hb1
    have hb := below_then ((Below.refl _ w).alloc (Nat.le_refl _) _) hb1 (by simp)
    clear hb1
    obtain ⟨q1, q2, q3⟩ := hB1.rules
    unfold flt
    go_wp2_with fail
    go_region
    all_goals go_wp2_with fail
    exact ret_tmp_blk rfl rfl (((hB1.set_ 0 (.int .i64 c)).set_ 1 (.int .i64 i)).alloc _) _ Tryd.underlying24 rfl (by kernel_rfl) rfl _ rfl (FIN.out _ _ rfl (((hb.setCell (p := ⟨_, 0, none⟩) (by simp) _).setCell (p := ⟨_, 1, none⟩) (by simp) _).alloc (by simp <;> omega) _).drew)

end Go.Proofs.YtfocggdplahnbaaDoor
