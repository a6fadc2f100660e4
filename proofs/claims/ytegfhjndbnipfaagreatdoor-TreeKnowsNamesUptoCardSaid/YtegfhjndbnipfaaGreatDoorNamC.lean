/- Names: the reference's functions on them, what they compute. Nothing is claimed here. -/
import Derived.Test.YtegfhjndbnipfaaGreatDoorNamB
namespace Go.Proofs.YtegfhjndbnipfaaGreatDoor
open Go.RowKit Go.Shelf Go.Lib Go.Maps
set_option linter.unusedVariables false

def letL : List UInt8 := [97, 98, 99, 100, 101, 102, 103, 104, 105, 106, 107, 108, 109, 110, 111, 112, 113, 114, 115, 116, 117, 118, 119, 120, 121, 122, 65, 66, 67, 68, 69, 70, 71, 72, 73, 74, 75, 76, 77, 78, 79, 80, 81, 82, 83, 84, 85, 86, 87, 88, 89, 90, 95]
def wrdL : List UInt8 := [97, 98, 99, 100, 101, 102, 103, 104, 105, 106, 107, 108, 109, 110, 111, 112, 113, 114, 115, 116, 117, 118, 119, 120, 121, 122, 65, 66, 67, 68, 69, 70, 71, 72, 73, 74, 75, 76, 77, 78, 79, 80, 81, 82, 83, 84, 85, 86, 87, 88, 89, 90, 95, 48, 49, 50, 51, 52, 53, 54, 55, 56, 57]
theorem byte_all (p : UInt8 → Bool) (h : ((List.range 256).all fun n => p (UInt8.ofNat n)) = true) (c : UInt8) : p c = true := by
  have := List.all_eq_true.1 h c.toNat (List.mem_range.2 c.toNat_lt)
  simpa using this
theorem letL_is (c : UInt8) : letL.contains c = isLet c := by
  have := byte_all (fun c => letL.contains c == isLet c) (by decide +kernel) c
  simpa using this
theorem wrdL_is (c : UInt8) : wrdL.contains c = isWrd c := by
  have := byte_all (fun c => wrdL.contains c == isWrd c) (by decide +kernel) c
  simpa using this

/-- is the byte at an offset one of some? -/
def hasB (l : List UInt8) (i : Nat) (S : List UInt8) : Bool := decide (i < l.length) && S.contains (at0 l i)
theorem has_any (l S : List UInt8) (i : Nat) (x : Int) (hx : x = (i : Int)) (w : World) (hl : l.length ≤ 16000) (hi : i ≤ 20000) :
    Calls Tryz.prog 18 #[.string ⟨l.toArray⟩, .int .i64 x, .string ⟨S.toArray⟩] w fun e w' => e = .returned (.bool (hasB l i S)) ∧ w = w' := by
  subst hx
  have HE := Lib.hid (show hasB l i S = (decide (i < l.length) && S.contains (at0 l i)) from rfl)
  have t0 : decide ((0 : Int) ≤ (i : Int)) = true := decide_eq_true (by omega)
  by_cases hlt : i < l.length
  · have t1 : decide ((i : Int) < (l.length : Int)) = true := decide_eq_true (by omega)
    have hsub := run_sub l i (i + 1) (by omega) (by omega) (i : Int) ((i : Int) + 1) rfl (by omega)
    rw [show (l.drop i).take (i + 1 - i) = [at0 l i] from by
      rw [show i + 1 - i = 1 by omega, drop_at l i hlt]
      rfl] at hsub
    rw [decide_eq_true hlt, Bool.true_and] at HE
    go_enter Tryz.func18, Tryz.ntmps18
    go_wp2_with fail
    refine (Tryz.strings_Contains_one ⟨S.toArray⟩ (at0 l i) w).mono ?_
    rintro e w1 ⟨rfl, rfl⟩
    go_wp2_with fail
    go_ret
    refine ⟨ret_bool ?_, rfl⟩
    rw [HE.out, contains_iff_indexByte]
  · have t1 : decide ((i : Int) < (l.length : Int)) = false := decide_eq_false (by omega)
    rw [decide_eq_false hlt, Bool.false_and] at HE
    go_enter Tryz.func18, Tryz.ntmps18
    go_wp2_with fail
    go_ret
    exact ⟨ret_bool HE.out.symm, rfl⟩

/-- the end of a run of bytes -/
theorem run_any (p : UInt8 → Bool) (S : List UInt8) (hS : ∀ c, S.contains c = p c) (l : List UInt8) (i : Nat) (x : Int) (hx : x = (i : Int)) (w : World) (hl : l.length ≤ 16000) (hi : i ≤ l.length + 2) :
    Calls Tryz.prog 17 #[.string ⟨l.toArray⟩, .int .i64 x, .string ⟨S.toArray⟩] w fun e w' => e = .returned (.int .i64 ((i + span p (l.drop i) : Nat) : Int)) ∧ w = w' := by
  subst hx
  have HC := Lib.hid (fun (k : Nat) (hk : k ≤ 20000) => has_any l S k (k : Int) rfl w hl hk)
  go_enter Tryz.func17, Tryz.ntmps17
  go_wp2_with fail
  go_loop [1] (fun v => ∃ k : Nat, i ≤ k ∧ k ≤ i + l.length ∧ k ≤ l.length + 2 ∧ v = .int .i64 (k : Int) ∧ k + span p (l.drop k) = i + span p (l.drop i)) (fun v => 40000 - (RowKit.intOf v).toNat)
  case atStart => exact ⟨i, Nat.le_refl _, by omega, hi, rfl, rfl⟩
  case round =>
    obtain ⟨k, hk1, hk2, hk4, rfl, hk3⟩ := hrel
    have H3 := Lib.hid hk3
    clear hk3
    go_wp2_with fail
    refine (HC.out k (by omega)).mono ?_
    rintro e w1 ⟨rfl, rfl⟩
    cases hh : hasB l k S
    · have hz : span p (l.drop k) = 0 := by
        unfold hasB at hh
        by_cases hlt : k < l.length
        · rw [decide_eq_true hlt, Bool.true_and, hS] at hh
          rw [span_at p l k hlt, hh]
          rfl
        · exact span_end p l k (by omega)
      have HZ := Lib.hid hz
      clear hh hz
      go_wp2_with fail
      go_ret
      refine ⟨ret_int ?_, rfl⟩
      have := H3.out
      rw [HZ.out] at this
      omega
    · unfold hasB at hh
      rw [Bool.and_eq_true, decide_eq_true_eq, hS] at hh
      obtain ⟨hlt, hp⟩ := hh
      have hz := span_at p l k hlt
      rw [hp, if_pos rfl] at hz
      have HZ := Lib.hid hz
      clear hp hz
      go_wp2_with fail
      go_round
      case rel => exact ⟨k + 1, by omega, by omega, by omega, by go_num, by have := H3.out; rw [HZ.out] at this; omega⟩
      case measure => simp [RowKit.intOf]; omega

theorem info_strR : (Tryz.prog.info? 9).map (fun i => (i.zero, i.size, i.bytes)) = some (some (.string ByteArray.empty), 1, 16) := by kernel_rfl
set_option maxHeartbeats 4000000 in
set_option maxRecDepth 100000 in
theorem reservedR_any (w : World) :
    Calls Tryz.prog 34 #[] w fun e w' => e = .returned (.slice (some ⟨w.heap.size, 0, none⟩) 38 38) ∧ w' = w.alloc (.cells (strs kws).toArray 9) := by
  obtain ⟨i0, hi, hz0, hz1, hz2⟩ := info_parts info_strR
  go_enter Tryz.func34, Tryz.ntmps34
  go_wp2_with (refine wpList_buildSlice rfl 36 9 38 _ rfl (strs kws).toArray i0 _ Tryz.underlying36 hi hz0 (by rw [hz1]; decide) (by rw [hz1]; decide) (by rw [hz1]; kernel_rfl) ?_)
  go_ret
  exact ⟨rfl, rfl⟩

set_option maxHeartbeats 4000000 in
set_option maxRecDepth 100000 in
theorem isKeyword_any (t : List UInt8) (w : World) :
    Calls Tryz.prog 19 #[.string ⟨t.toArray⟩] w fun e w' => e = .returned (.bool (kws.contains t)) ∧ Below w.heap.size w w' := by
  obtain ⟨r, hr⟩ : ∃ r, kws.contains t = r := ⟨_, rfl⟩
  rw [hr]
  have HR := Lib.hid hr
  clear hr
  have hB := Blk.new w 9 (strs kws).toArray
  have hb := (Below.refl w.heap.size w).alloc (Nat.le_refl _) (.cells (strs kws).toArray 9)
  go_enter Tryz.func19, Tryz.ntmps19
  go_wp2_with fail
  refine (reservedR_any w).mono ?_
  rintro e w1 ⟨rfl, hw1⟩
  rw [← hw1] at hB hb
  obtain ⟨b, hbb⟩ : ∃ b, w.heap.size = b := ⟨_, rfl⟩
  have hb' := hb
  rw [hbb] at hB hb' ⊢
  clear hw1
  go_wp2_with fail
  go_loop [7] (fun v => ∃ k : Nat, k ≤ 38 ∧ v = .int .i64 (k : Int) ∧ Hid (kws.contains t = (kws.drop k).contains t)) (fun v => 38 - (RowKit.intOf v).toNat)
  case atStart => exact ⟨0, by omega, rfl, Lib.hid rfl⟩
  case round =>
    obtain ⟨k, hk, rfl, HC⟩ := hrel
    have hlen : kws.length = 38 := rfl
    by_cases hlt : k < 38
    · obtain ⟨x, hx⟩ : ∃ x, kws[k]? = some x := ⟨kws[k], List.getElem?_eq_getElem (by omega)⟩
      have hd : kws.drop k = x :: kws.drop (k + 1) := by
        obtain ⟨h1, rfl⟩ := List.getElem?_eq_some_iff.1 hx
        exact List.drop_eq_getElem_cons h1
      have hcell : w1.cell? ⟨b, k, none⟩ = some (.string ⟨x.toArray⟩) := by
        rw [hB.cell k]
        simp [strs, hx]
      have HD := Lib.hid hd
      clear hx hd
      cases hq : (x == t)
      · have HN := Lib.hid (show kws.contains t = (kws.drop (k + 1)).contains t from by
          rw [HC.out, HD.out, List.contains_cons, show (t == x) = false from by rw [beq_eq_false_iff_ne] at hq ⊢; exact fun e => hq e.symm, Bool.false_or])
        go_wp2_with fail
        go_round
        case rel => exact ⟨k + 1, by omega, by go_num, HN⟩
        case measure => simp [RowKit.intOf]; omega
      · have HN := Lib.hid (show kws.contains t = true from by
          rw [HC.out, HD.out, List.contains_cons, show (t == x) = true from by rw [beq_iff_eq] at hq ⊢; exact hq.symm, Bool.true_or])
        go_wp2_with fail
        go_ret
        exact ⟨ret_bool (by rw [← HR.out, HN.out]), hb'⟩
    · have HN := Lib.hid (show kws.contains t = false from by
        rw [HC.out, List.drop_eq_nil_of_le (by omega)]
        rfl)
      go_wp2_with fail
      go_ret
      exact ⟨ret_bool (by rw [← HR.out, HN.out]), hb'⟩

set_option maxHeartbeats 4000000 in
set_option maxRecDepth 100000 in
/-- the reference's name -/
theorem nameOk_any (s : List UInt8) (w : World) (hl : s.length ≤ 9223372036854775807) :
    Calls Tryz.prog 6 #[.string ⟨s.toArray⟩] w fun e w' => e = .returned (.bool (nameB s)) ∧ Below w.heap.size w w' := by
  have HE := Lib.hid (show nameB s = (!s.isEmpty && decide (s.length ≤ 24) && s.all isWrd && isLet (at0 s 0) && !kws.contains s) from rfl)
  obtain ⟨r, hr⟩ : ∃ r, nameB s = r := ⟨_, rfl⟩
  rw [hr] at HE ⊢
  clear hr
  cases h0 : s.isEmpty
  · have H0 := Lib.hid h0
    have hpos : 0 < s.length := by
      cases s with
      | nil => simp at h0
      | cons => simp
    by_cases h24 : s.length ≤ 24
    · have c1 : decide ((s.length : Int) ≤ 24) = true := decide_eq_true (by omega)
      have H24 := Lib.hid (show decide (s.length ≤ 24) = true from decide_eq_true h24)
      obtain ⟨m, hm⟩ : ∃ m, 0 + span isWrd (s.drop 0) = m := ⟨_, rfl⟩
      have hall := span_full isWrd s
      rw [List.drop_zero, Nat.zero_add] at hm
      rw [hm] at hall
      have HALL := Lib.hid hall
      have HM := Lib.hid (show 0 + span isWrd (s.drop 0) = m by rw [List.drop_zero, Nat.zero_add]; exact hm)
      have HL := Lib.hid (show hasB s 0 letL = isLet (at0 s 0) by unfold hasB; rw [decide_eq_true hpos, Bool.true_and, letL_is])
      clear hm hall
      go_enter Tryz.func6, Tryz.ntmps6
      go_wp2_with fail
      refine (run_any isWrd wrdL wrdL_is s 0 0 rfl w (by omega) (by omega)).mono ?_
      rintro e w1 ⟨rfl, rfl⟩
      rw [HM.out]
      by_cases hme : m = s.length
      · have c2 : ((m : Int) == (s.length : Int)) = true := by rw [beq_iff_eq]; omega
        have HA : Hid (s.all isWrd = true) := Lib.hid (by rw [← HALL.out]; exact decide_eq_true hme)
        clear hme
        go_wp2_with fail
        refine (has_any s letL 0 0 rfl w (by omega) (by omega)).mono ?_
        rintro e w1 ⟨rfl, rfl⟩
        rw [HL.out]
        cases hh : isLet (at0 s 0)
        · have HX : Hid (r = false) := Lib.hid (by rw [HE.out, hh, Bool.and_false, Bool.false_and])
          clear hh
          go_wp2_with fail
          go_ret
          exact ⟨ret_bool HX.out.symm, Below.refl _ _⟩
        · have HX : Hid (r = !kws.contains s) := Lib.hid (by rw [HE.out, hh, H0.out, H24.out, HA.out]; simp)
          clear hh
          go_wp2_with fail
          refine (isKeyword_any s w).mono ?_
          rintro e w1 ⟨rfl, hb⟩
          generalize kws.contains s = kc at HX ⊢
          go_wp2_with fail
          go_ret
          exact ⟨ret_bool HX.out.symm, hb⟩
      · have c2 : ((m : Int) == (s.length : Int)) = false := by rw [beq_eq_false_iff_ne]; omega
        have HX : Hid (r = false) := Lib.hid (by rw [HE.out, ← HALL.out, decide_eq_false hme, Bool.and_false, Bool.false_and, Bool.false_and])
        clear hme
        go_wp2_with fail
        go_ret
        exact ⟨ret_bool HX.out.symm, Below.refl _ _⟩
    · have c1 : decide ((s.length : Int) ≤ 24) = false := decide_eq_false (by omega)
      have HX : Hid (r = false) := Lib.hid (by rw [HE.out, decide_eq_false h24, Bool.and_false, Bool.false_and, Bool.false_and, Bool.false_and])
      clear h24
      go_enter Tryz.func6, Tryz.ntmps6
      go_wp2_with fail
      go_ret
      exact ⟨ret_bool HX.out.symm, Below.refl _ _⟩
  · have HX : Hid (r = false) := Lib.hid (by rw [HE.out, h0]; rfl)
    go_enter Tryz.func6, Tryz.ntmps6
    go_wp2_with fail
    go_ret
    exact ⟨ret_bool HX.out.symm, Below.refl _ _⟩

/-- the memory that strings.Split looks at -/
def Lim (w : World) : Prop := ∃ m, w.cell? ⟨2, 0, none⟩ = some (.int .i64 m)
theorem lt_of_cell {w : World} {b o : Nat} {v : Value} (h : w.cell? ⟨b, o, none⟩ = some v) : b < w.heap.size := by
  obtain ⟨ob, ho, _⟩ := cells_of_cell h
  exact (Array.getElem?_eq_some_iff.1 ho).1
theorem Lim.keepB {w w' : World} (h : Lim w) (hb : Below w.heap.size w w') : Lim w' := by
  obtain ⟨m, hm⟩ := h
  exact ⟨m, (hb.cell (p := ⟨_, 0, none⟩) (lt_of_cell hm)).trans hm⟩
theorem split_any (s : List UInt8) (w : World) (hl : s.length ≤ 1048576) (hm : Lim w) :
    Calls Tryz.prog 21 #[.string ⟨s.toArray⟩, .string ⟨#[46]⟩] w fun e w' => e = .returned (.slice (some ⟨w.heap.size, 0, none⟩) (splitB 46 s).length (splitB 46 s).length) ∧ w' = w.alloc (.cells (strs (splitB 46 s)).toArray 9) := by
  obtain ⟨m, hm⟩ := hm
  refine (Tryz.strings_Split ⟨s.toArray⟩ ⟨#[46]⟩ m w (by simp [ByteArray.size]; omega) hm (Nat.le_refl 1)).mono ?_
  rintro e w' ⟨rfl, rfl⟩
  rw [count_same, split_same, List.map_map]
  exact ⟨rfl, rfl⟩
theorem splitB_le (c : UInt8) : ∀ (s : List UInt8), ∀ p ∈ splitB c s, p.length ≤ s.length
  | [], p, h => by
    simp [splitB] at h
    simp [h]
  | x :: l, p, h => by
    have ih := splitB_le c l
    unfold splitB at h
    split at h
    · rcases List.mem_cons.1 h with rfl | h
      · simp
      · have := ih p h
        simp; omega
    · split at h
      · rename_i h1
        exact absurd h1 (splitB_ne c l)
      · rename_i q qs h1
        rw [h1] at ih
        rcases List.mem_cons.1 h with rfl | h
        · have := ih q (by simp)
          simp; omega
        · have := ih p (by simp [h])
          simp; omega
theorem splitB_len (c : UInt8) : ∀ (s : List UInt8), (splitB c s).length ≤ s.length + 1
  | [] => by simp [splitB]
  | x :: l => by
    have ih := splitB_len c l
    unfold splitB
    split
    · simpa using ih
    · split
      · simp
      · rename_i q qs h1
        rw [h1] at ih
        simp at ih ⊢
        omega

set_option maxHeartbeats 4000000 in
set_option maxRecDepth 100000 in
/-- the reference's dotted name -/
theorem dottedOk_any (s : List UInt8) (w : World) (hl : s.length ≤ 1048576) (hm : Lim w) :
    Calls Tryz.prog 8 #[.string ⟨s.toArray⟩] w fun e w' => e = .returned (.bool (dottedB s)) ∧ Below w.heap.size w w' := by
  have HE := Lib.hid (show dottedB s = ((splitB 46 s).all nameB && decide (s.length ≤ 60)) from rfl)
  obtain ⟨r, hr⟩ : ∃ r, dottedB s = r := ⟨_, rfl⟩
  rw [hr] at HE ⊢
  clear hr
  have HSP := Lib.hid (split_any s w hl hm)
  have hB := Blk.new w 9 (strs (splitB 46 s)).toArray
  have hb := (Below.refl w.heap.size w).alloc (Nat.le_refl _) (.cells (strs (splitB 46 s)).toArray 9)
  have HPL := Lib.hid (splitB_le 46 s)
  have hpn := splitB_len 46 s
  go_enter Tryz.func8, Tryz.ntmps8
  go_wp2_with fail
  refine HSP.out.mono ?_
  rintro e w1 ⟨rfl, hw1⟩
  rw [← hw1] at hB hb
  clear hw1 HSP
  generalize splitB 46 s = ps at *
  go_wp2_with fail
  go_loopw [8] (fun i wr => ∃ k : Nat, k ≤ ps.length ∧ i = .int .i64 (k : Int) ∧ Below w1.heap.size w1 wr ∧ Hid (ps.all nameB = (ps.drop k).all nameB)) (fun i _ => ps.length - (RowKit.intOf i).toNat)
  case atStart => exact ⟨0, Nat.zero_le _, rfl, Below.refl _ _, Lib.hid rfl⟩
  case round =>
    obtain ⟨k, hk, rfl, hbr, HC⟩ := hrel
    by_cases hlt : k < ps.length
    · obtain ⟨x, hx⟩ : ∃ x, ps[k]? = some x := ⟨ps[k], List.getElem?_eq_getElem hlt⟩
      have hd : ps.drop k = x :: ps.drop (k + 1) := by
        obtain ⟨h1, rfl⟩ := List.getElem?_eq_some_iff.1 hx
        exact List.drop_eq_getElem_cons h1
      have hcell : wr.cell? ⟨w.heap.size, k, none⟩ = some (.string ⟨x.toArray⟩) := by
        rw [(hB.belowS hbr).cell k]
        simp [strs, hx]
      have hxl := HPL.out x (List.mem_of_getElem? hx)
      have HD := Lib.hid hd
      clear hx hd
      go_wp2_with fail
      refine (nameOk_any x wr (by omega)).mono ?_
      rintro e w2 ⟨rfl, hb2⟩
      have hb3 := below_then hbr hb2 hbr.size
      clear hb2
      cases hq : nameB x
      · have HX : Hid (r = false) := Lib.hid (by rw [HE.out, HC.out, HD.out, List.all_cons, hq]; rfl)
        clear hq
        go_wp2_with fail
        go_ret
        exact ⟨ret_bool HX.out.symm, below_then hb hb3 hb.size⟩
      · have HN : Hid (ps.all nameB = (ps.drop (k + 1)).all nameB) := Lib.hid (by rw [HC.out, HD.out, List.all_cons, hq, Bool.true_and])
        clear hq
        go_wp2_with fail
        go_roundw
        case rel => exact ⟨k + 1, by omega, by go_num, hb3, HN⟩
        case measure => simp [RowKit.intOf]; omega
    · have HX : Hid (r = decide (s.length ≤ 60)) := Lib.hid (by rw [HE.out, HC.out, List.drop_eq_nil_of_le (by omega)]; rfl)
      by_cases h60 : s.length ≤ 60
      · have c1 : decide ((s.length : Int) ≤ 60) = true := decide_eq_true (by omega)
        go_wp2_with fail
        go_ret
        exact ⟨ret_bool (by rw [HX.out, decide_eq_true h60]), below_then hb hbr hb.size⟩
      · have c1 : decide ((s.length : Int) ≤ 60) = false := decide_eq_false (by omega)
        go_wp2_with fail
        go_ret
        exact ⟨ret_bool (by rw [HX.out, decide_eq_false h60]), below_then hb hbr hb.size⟩

end Go.Proofs.YtegfhjndbnipfaaGreatDoor
