/- The reference's Place and PlaceFault: what they compute. Nothing is claimed here. -/
import Derived.Laws.MakeOwn
import Derived.Laws.Entries
import Derived.Test.YtjoeojdciogcgaaDoorSrcL
namespace Go.Proofs.YtjoeojdciogcgaaDoor
open Go.RowKit Go.Shelf Go.Lib

/-- the widths of the characters of a text -/
def widthsF : Nat → List UInt8 → List Int
  | 0, _ => []
  | f + 1, l => if l = [] then [] else if badL l then -1 :: widthsF f (l.drop 1) else ((decodeL l).2 : Int) :: (List.replicate ((decodeL l).2 - 1) 0 ++ widthsF f (l.drop (decodeL l).2))
def widths (l : List UInt8) : List Int := widthsF l.length l

theorem widthsF_len : ∀ (f : Nat) (l : List UInt8), l.length ≤ f → (widthsF f l).length = l.length
  | 0, l, h => by
    have : l = [] := List.eq_nil_of_length_eq_zero (by omega)
    subst this
    rfl
  | f + 1, l, h => by
    unfold widthsF
    split
    · rename_i e; subst e; rfl
    · rename_i hne
      have hp := List.length_pos_iff.2 hne
      have hw := width_pos l hne
      have hw2 := decodeL_width_le l hne
      split
      · rw [List.length_cons, widthsF_len f _ (by rw [List.length_drop]; omega), List.length_drop]; omega
      · rw [List.length_cons, List.length_append, List.length_replicate, widthsF_len f _ (by rw [List.length_drop]; omega), List.length_drop]; omega
theorem widths_len (l : List UInt8) : (widths l).length = l.length := widthsF_len _ _ (Nat.le_refl _)

def ics (l : List Int) : List Value := l.map (Value.int .i64)

theorem run_make_ints (n : Nat) (hn : n ≤ 140737488355328 / 8) (w : World) :
    (Instr.makeSlice 41 (.int .i64 (n : Int)) (.int .i64 (n : Int))).run Tryd.prog w = .ok (.slice (some ⟨w.heap.size, 0, none⟩) n n) (w.alloc (.cells (ics (List.replicate n 0)).toArray 3)) := by
  have hinfo : (Tryd.prog.info? 3).map (fun i => (i.zero, i.size, i.bytes)) = some (some (.int .i64 0), 1, 8) := by kernel_rfl
  obtain ⟨i0, hi, hz0, hz1, hz2⟩ := info_parts hinfo
  have hr := run_make (P := Tryd.prog) w 41 3 i0 (.int .i64 0) Tryd.underlying41 hi hz0 .i64 .i64 n n (by omega) (by omega) (by rw [hz2]; omega) (by omega)
  simp only [Int.toNat_natCast, hz1, Nat.mul_one] at hr
  rw [hr]
  have e : madeCells (Value.int .i64 0).cells n = (ics (List.replicate n 0)).toArray := by
    apply Array.toList_inj.1
    have := toList_madeCells_one (.int .i64 0) n
    simpa [ics, Value.cells] using this
  rw [e]

theorem ics_set (d : List Int) (m : Nat) (u : Int) (hm : 0 < m) : (ics (d ++ List.replicate m 0)).toArray.setIfInBounds d.length (.int .i64 u) = (ics (d ++ u :: List.replicate (m - 1) 0)).toArray := by
  obtain ⟨k, rfl⟩ : ∃ k, m = k + 1 := ⟨m - 1, by omega⟩
  simp [ics, List.replicate_succ]

theorem ics_at (d : List Int) (m p : Nat) (hd : d.length = p) (hm : 0 < m) : (ics (d ++ List.replicate m 0)).toArray[p]? = some (.int .i64 0) := by
  obtain ⟨k, rfl⟩ : ∃ k, m = k + 1 := ⟨m - 1, by omega⟩
  subst hd
  simp [ics, List.replicate_succ]

/-- the loop of Widths -/
def WidI (l : List UInt8) (B : Nat) (w : World) (i : Value) (wr : World) : Prop :=
  ∃ (p f : Nat) (d : List Int), i = .int .i64 p ∧ p ≤ l.length ∧ l.length ≤ p + f ∧ d.length = p ∧ widths l = d ++ widthsF f (l.drop p) ∧ Blk wr B 3 (ics (d ++ List.replicate (l.length - p) 0)).toArray ∧ Below B w wr

set_option maxRecDepth 100000 in
set_option maxHeartbeats 1000000 in
theorem widths_any (l : List UInt8) (w : World) (hl : l.length ≤ 16000) (hT : Tabs w) :
    Calls Tryd.prog 54 #[.string ⟨l.toArray⟩] w fun e w' => e = .returned (.slice (some ⟨w.heap.size, 0, none⟩) l.length l.length) ∧ Blk w' w.heap.size 3 (ics (widths l)).toArray ∧ Below w.heap.size w w' := by
  have hmk := fun W => run_make_ints l.length (by omega) W
  go_enter Tryd.func54, Tryd.ntmps54
  go_wp2_with fail
  clear hmk
  go_loopw [4] (fun i wr => WidI l w.heap.size w i wr) (fun i _ => l.length - (RowKit.intOf i).toNat)
  case atStart =>
    exact ⟨0, l.length, [], rfl, Nat.zero_le _, by omega, rfl, rfl, by simpa using Blk.new w 3 (ics (List.replicate l.length 0)).toArray, (Below.refl _ _).alloc (Nat.le_refl _) _⟩
  case round =>
    obtain ⟨p, f, d, rfl, hp, hf, hd, hwd, hB, hb⟩ := hrel
    by_cases hlt : p < l.length
    · have hne : l.drop p ≠ [] := by intro e; have := congrArg List.length e; rw [List.length_drop, List.length_nil] at this; omega
      obtain ⟨r, n, hdc⟩ : ∃ r n, decodeL (l.drop p) = (r, n) := ⟨_, _, rfl⟩
      have hr := decodeL_rune_le (l.drop p)
      have hw1 := width_pos _ hne
      have hw2 := decodeL_width_le _ hne
      rw [hdc] at hr hw1 hw2
      rw [List.length_drop] at hw2
      obtain ⟨g, rfl⟩ : ∃ g, f = g + 1 := ⟨f - 1, by omega⟩
      have HD := Lib.hid hdc
      have HWD := Lib.hid hwd
      have HDL := Lib.hid hd
      clear hdc hwd hd
      go_wp2_with fail
      rw [extract_from l p l.length (Nat.le_refl _)]
      refine (decode_any _ hne _ (hT.keepB hb)).mono ?_
      rintro e w2 ⟨rfl, hb2⟩
      rw [HD.out]
      have hB2 := hB.belowS hb2
      have hb3 := below_then hb hb2 hb.size
      have hc := hB2.cell p
      have hfz := hB2.frozen p
      have hlB := hB2.lt
      rw [ics_at d (l.length - p) p HDL.out (by omega)] at hc
      clear hB hb hb2
      have hbi := badL_iff (l.drop p) r n HD.out
      by_cases hbd : (r < 32 ∧ r ≠ 10) ∨ (r = 65533 ∧ n = 1)
      · have hbt := hbi.2 hbd
        have HX := Lib.hid (show widths l = (d ++ [-1]) ++ widthsF g (l.drop (p + 1)) by
          rw [HWD.out]
          conv => lhs; unfold widthsF
          rw [if_neg hne, if_pos hbt, List.drop_drop]
          simp)
        have HBK := Lib.hid (show Blk (w2.setCell ⟨w.heap.size, p, none⟩ (.int .i64 (-1))) w.heap.size 3 (ics ((d ++ [-1]) ++ List.replicate (l.length - (p + 1)) 0)).toArray by
          have h := hB2.set_ p (.int .i64 (-1))
          rw [← HDL.out, ics_set d (l.length - d.length) (-1) (by have := HDL.out; omega), show l.length - d.length - 1 = l.length - (d.length + 1) by omega] at h
          rw [← HDL.out]
          simpa using h)
        clear hbi hbt HWD hB2
        rcases hbd with ⟨b1, b2⟩ | ⟨b1, b2⟩
        · have t1 : ((r : Int) == 65533) = false := by rw [beq_eq_false_iff_ne]; omega
          have t2 : ((r : Int) != 10) = true := by rw [bne_iff_ne]; omega
          have t5 : decide ((r : Int) < 32) = true := decide_eq_true (by omega)
          clear b2
          go_wp2_with fail
          all_goals
            go_roundw
            case rel => exact ⟨p + 1, g, d ++ [-1], by go_num, by omega, by omega, by simp [HDL.out], HX.out, HBK.out, hb3.setCell (p := ⟨_, _, none⟩) (by simp) _⟩
            case measure => simp [RowKit.intOf]; omega
        · subst b1 b2
          go_wp2_with fail
          go_roundw
          case rel => exact ⟨p + 1, g, d ++ [-1], by go_num, by omega, by omega, by simp [HDL.out], HX.out, HBK.out, hb3.setCell (p := ⟨_, _, none⟩) (by simp) _⟩
          case measure => simp [RowKit.intOf]; omega
      · have hbf : badL (l.drop p) = false := by rw [← Bool.not_eq_true, hbi]; exact hbd
        have HX := Lib.hid (show widths l = (d ++ (n : Int) :: List.replicate (n - 1) 0) ++ widthsF g (l.drop (p + n)) by
          rw [HWD.out]
          conv => lhs; unfold widthsF
          rw [if_neg hne, if_neg (by rw [hbf]; simp), HD.out, List.drop_drop]
          simp)
        have HBK := Lib.hid (show Blk (w2.setCell ⟨w.heap.size, p, none⟩ (.int .i64 n)) w.heap.size 3 (ics ((d ++ (n : Int) :: List.replicate (n - 1) 0) ++ List.replicate (l.length - (p + n)) 0)).toArray by
          have h := hB2.set_ p (.int .i64 n)
          rw [← HDL.out, ics_set d (l.length - d.length) n (by have := HDL.out; omega)] at h
          rw [← HDL.out, List.append_assoc, List.cons_append, List.replicate_append_replicate, show n - 1 + (l.length - (d.length + n)) = l.length - d.length - 1 by have := HDL.out; omega]
          exact h)
        have hdl : (d ++ (n : Int) :: List.replicate (n - 1) 0).length = p + n := by simp [HDL.out]; omega
        have HDN := Lib.hid hdl
        clear hbi hbf HWD hB2 hdl
        by_cases b1 : r < 32
        · obtain rfl : r = 10 := by omega
          go_wp2_with fail
          go_roundw
          case rel => exact ⟨p + n, g, _, by go_num, by omega, by omega, HDN.out, HX.out, HBK.out, hb3.setCell (p := ⟨_, _, none⟩) (by simp) _⟩
          case measure => simp [RowKit.intOf]; omega
        · by_cases b2 : r = 65533
          · subst b2
            have b3 : ¬ n ≤ 1 := by omega
            have t5 : decide ((n : Int) ≤ 1) = false := decide_eq_false (by omega)
            clear hbd
            go_wp2_with fail
            go_roundw
            case rel => exact ⟨p + n, g, _, by go_num, by omega, by omega, HDN.out, HX.out, HBK.out, hb3.setCell (p := ⟨_, _, none⟩) (by simp) _⟩
            case measure => simp [RowKit.intOf]; omega
          · have t3 : ((r : Int) == 65533) = false := by rw [beq_eq_false_iff_ne]; omega
            have t5 : decide ((r : Int) < 32) = false := decide_eq_false (by omega)
            clear hbd
            go_wp2_with fail
            go_roundw
            case rel => exact ⟨p + n, g, _, by go_num, by omega, by omega, HDN.out, HX.out, HBK.out, hb3.setCell (p := ⟨_, _, none⟩) (by simp) _⟩
            case measure => simp [RowKit.intOf]; omega
    · obtain rfl : p = l.length := by omega
      have HWD := Lib.hid hwd
      have HDL := Lib.hid hd
      clear hwd hd
      go_wp2_with fail
      go_ret
      refine ⟨rfl, ?_, hb⟩
      have : widths l = d := by
        rw [HWD.out, List.drop_length]
        cases f <;> simp [widthsF]
      rw [this]
      simpa using hB

end Go.Proofs.YtjoeojdciogcgaaDoor

namespace Go.Proofs.YtjoeojdciogcgaaDoor
open Go.RowKit Go.Shelf Go.Lib

theorem atR_any (c i : Int) (w : World) : Calls Tryd.prog 9 #[.int .i64 c, .int .i64 i] w fun e w' => e = .returned (flt c i) ∧ Below w.heap.size w w' := by
  go_enter Tryd.func9, Tryd.ntmps9
  go_wp2
  exact ret_blk rfl rfl (Blk.new w 25 #[.int .i64 c, .int .i64 i]) _ Tryd.underlying25 rfl (by kernel_rfl) rfl ⟨rfl, (Below.refl _ _).alloc (Nat.le_refl _) _⟩

def firstNeg : List Int → Nat → Option Nat
  | [], _ => none
  | n :: l, p => if n < 0 then some p else firstNeg l (p + 1)
theorem firstNeg_zeros : ∀ (k : Nat) (l : List Int) (p : Nat), firstNeg (List.replicate k 0 ++ l) p = firstNeg l (p + k)
  | 0, l, p => by simp
  | k + 1, l, p => by
    rw [List.replicate_succ, List.cons_append]
    have e : firstNeg (0 :: (List.replicate k 0 ++ l)) p = firstNeg (List.replicate k 0 ++ l) (p + 1) := by simp [firstNeg]
    rw [e, firstNeg_zeros k l (p + 1), show p + 1 + k = p + (k + 1) by omega]
theorem firstNeg_widths : ∀ (f : Nat) (l : List UInt8) (p : Nat), firstNeg (widthsF f l) p = badAt f l p
  | 0, _, _ => rfl
  | f + 1, l, p => by
    unfold widthsF badAt
    split
    · rfl
    · rename_i hne
      have hw := width_pos l hne
      split
      · simp [firstNeg]
      · unfold firstNeg
        rw [if_neg (by omega), firstNeg_zeros, firstNeg_widths f]
        congr 1
        omega
theorem firstNeg_fault (l : List UInt8) (h : l.length ≤ 16000) : sfault l = match firstNeg (widths l) 0 with
    | none => (0, 0)
    | some p => (1, (p : Int)) := by
  unfold sfault widths
  rw [if_neg (by omega), firstNeg_widths]
  cases badAt l.length l 0 <;> rfl

set_option maxRecDepth 100000 in
set_option maxHeartbeats 1000000 in
theorem sourceFault_any (l : List UInt8) (w : World) (hl : l.length ≤ 9223372036854775807) (hT : Tabs w) :
    Calls Tryd.prog 29 #[.string ⟨l.toArray⟩] w fun e w' => e = .returned (flt (sfault l).1 (sfault l).2) ∧ Below w.heap.size w w' := by
  have hT1 : Tabs (w.alloc (.cells #[.int .i64 0, .int .i64 0] 25)) := hT.keepB ((Below.refl _ _).alloc (Nat.le_refl _) _)
  by_cases hlen : 16000 < l.length
  · have HZ := Lib.hid (show sfault l = (3, -1) by unfold sfault; rw [if_pos hlen])
    go_enter Tryd.func29, Tryd.ntmps29
    go_wp2_with fail
    refine (atR_any _ _ _).mono ?_
    rintro e w1 ⟨rfl, hb1⟩
    have hB1 := (Blk.new w 25 #[.int .i64 0, .int .i64 0]).belowS hb1
    have hb := below_then ((Below.refl _ w).alloc (Nat.le_refl _) _) hb1 (by simp)
    obtain ⟨q1, q2, q3⟩ := hB1.rules
    unfold flt
    go_wp2_with fail
    exact ret_blk rfl rfl ((hB1.set_ 0 (.int .i64 3)).set_ 1 (.int .i64 (-1))) _ Tryd.underlying25 rfl (by kernel_rfl) rfl  ⟨(by rw [HZ.out]; rfl), (hb.setCell (p := ⟨_, 0, none⟩) (by simp) _).setCell (p := ⟨_, 1, none⟩) (by simp) _⟩
  · have hle : l.length ≤ 16000 := by omega
    have hwl := widths_len l
    have HF := Lib.hid (firstNeg_fault l hle)
    have hn1 : (widths l).length ≤ l.length := by omega
    have hn2 : l.length ≤ (widths l).length := by omega
    clear hlen hwl
    go_enter Tryd.func29, Tryd.ntmps29
    go_wp2_with fail
    refine (widths_any l _ hle hT1).mono ?_
    rintro e w1 ⟨rfl, hBW, hb1⟩
    have hB1 := (Blk.new w 25 #[.int .i64 0, .int .i64 0]).belowS hb1
    have hb := below_then ((Below.refl _ w).alloc (Nat.le_refl _) _) hb1 (by simp)
    simp only [World.size_alloc] at hBW
    obtain ⟨q1, q2, q3⟩ := hB1.rules
    generalize hws : widths l = ws at *
    have HWS := Lib.hid hws
    clear hws hb1 hT1
    go_wp2_with fail
    go_loop [12] (fun i => ∃ k : Nat, i = .int .i64 k ∧ k ≤ ws.length ∧ firstNeg (ws.drop k) k = firstNeg ws 0) (fun i => l.length - (RowKit.intOf i).toNat)
    case atStart => exact ⟨0, rfl, Nat.zero_le _, by simp⟩
    case round =>
      obtain ⟨k, rfl, hk, hfn⟩ := hrel
      have HFN := Lib.hid hfn
      clear hfn
      by_cases hlt : k < l.length
      · have hk' : k < ws.length := by omega
        have hc := hBW.cell k
        rw [show (ics ws).toArray[k]? = some (.int .i64 ws[k]) by simp [ics, hk']] at hc
        have hdr := List.drop_eq_getElem_cons hk'
        have HDR := Lib.hid hdr
        clear hdr
        generalize ws[k] = n at *
        by_cases hneg : n < 0
        · have HZ := Lib.hid (show sfault l = (1, (k : Int)) by
            rw [HF.out, ← HFN.out, HDR.out]
            simp [firstNeg, hneg])
          go_wp2_with fail
          refine (atR_any _ _ _).mono ?_
          rintro e w2 ⟨rfl, hb2⟩
          have hB2 := hB1.belowS hb2
          have hb3 := below_then hb hb2 hb.size
          clear q1 q2 q3
          obtain ⟨q1, q2, q3⟩ := hB2.rules
          unfold flt
          go_wp2_with fail
          exact ret_blk rfl rfl ((hB2.set_ 0 (.int .i64 1)).set_ 1 (.int .i64 k)) _ Tryd.underlying25 rfl (by kernel_rfl) rfl  ⟨(by rw [HZ.out]; rfl), (hb3.setCell (p := ⟨_, 0, none⟩) (by simp) _).setCell (p := ⟨_, 1, none⟩) (by simp) _⟩
        · go_wp2_with fail
          go_round
          case rel =>
            refine ⟨k + 1, by go_num, by omega, ?_⟩
            rw [← HFN.out, HDR.out]
            simp [firstNeg, hneg]
          case measure => simp [RowKit.intOf]; omega
      · have HZ := Lib.hid (show sfault l = (0, 0) by
          rw [HF.out, ← HFN.out, List.drop_eq_nil_of_le (by omega)]
          rfl)
        go_wp2_with fail
        exact ret_blk rfl rfl ((hB1.set_ 0 (.int .i64 0)).set_ 1 (.int .i64 0)) _ Tryd.underlying25 rfl (by kernel_rfl) rfl  ⟨(by rw [HZ.out]; rfl), (hb.setCell (p := ⟨_, 0, none⟩) (by simp) _).setCell (p := ⟨_, 1, none⟩) (by simp) _⟩

end Go.Proofs.YtjoeojdciogcgaaDoor

namespace Go.Proofs.YtjoeojdciogcgaaDoor
open Go.RowKit Go.Shelf Go.Lib

theorem wid_bound : ∀ (f : Nat) (l : List UInt8) (k : Nat) (n : Int), l.length ≤ f → (widthsF f l)[k]? = some n → n ≤ (l.length : Int) - k
  | 0, l, k, n, _, h => by simp [widthsF] at h
  | f + 1, l, k, n, hf, h => by
    unfold widthsF at h
    split at h
    · simp at h
    · rename_i hne
      have hp := List.length_pos_iff.2 hne
      have hw := width_pos l hne
      have hw2 := decodeL_width_le l hne
      split at h
      · cases k with
        | zero => simp at h; omega
        | succ k =>
          rw [List.getElem?_cons_succ] at h
          have := wid_bound f (l.drop 1) k n (by rw [List.length_drop]; omega) h
          rw [List.length_drop] at this
          omega
      · cases k with
        | zero => simp at h; omega
        | succ k =>
          rw [List.getElem?_cons_succ] at h
          rcases Nat.lt_or_ge k ((decodeL l).2 - 1) with hlt | hge
          · rw [List.getElem?_append_left (by simpa using hlt), List.getElem?_replicate] at h
            simp [hlt] at h
            have hk2 : k + 1 < l.length + 1 := by
              have := (List.getElem?_eq_some_iff.1 (show (List.replicate ((decodeL l).2 - 1) (0 : Int))[k]? = some 0 by rw [List.getElem?_replicate]; simp [hlt])).1
              omega
            omega
          · rw [List.getElem?_append_right (by simpa using hge)] at h
            have := wid_bound f (l.drop (decodeL l).2) _ n (by rw [List.length_drop]; omega) h
            rw [List.length_drop, List.length_replicate] at this
            omega

/-- what is collected from a place on -/
def collect (l : List UInt8) : List Int → Nat → List (List UInt8)
  | [], _ => []
  | n :: ws, k => if 0 < n then (l.drop k).take n.toNat :: collect l ws (k + 1) else collect l ws (k + 1)
theorem collect_zeros (l : List UInt8) : ∀ (m : Nat) (ws : List Int) (k : Nat), collect l (List.replicate m 0 ++ ws) k = collect l ws (k + m)
  | 0, ws, k => by simp
  | m + 1, ws, k => by
    rw [List.replicate_succ, List.cons_append]
    have e : collect l (0 :: (List.replicate m 0 ++ ws)) k = collect l (List.replicate m 0 ++ ws) (k + 1) := by simp [collect]
    rw [e, collect_zeros l m ws (k + 1), show k + 1 + m = k + (m + 1) by omega]

/-- the widths of one character -/
def wof (c : List UInt8) : List Int := (c.length : Int) :: List.replicate (c.length - 1) 0
theorem Chr.bad {c : List UInt8} (h : Chr c) (t : List UInt8) : badL (c ++ t) = false := by
  have h1 := h.ok
  have h2 := h.dec []
  rw [List.append_nil] at h2
  unfold badL at h1 ⊢
  rw [h.dec t, ← h2]
  exact h1
theorem widths_chars : ∀ (f : Nat) (cs : List (List UInt8)), (∀ c ∈ cs, Chr c) → cs.flatten.length ≤ f → widthsF f cs.flatten = cs.flatMap wof
  | 0, [], _, _ => rfl
  | 0, c :: cs, h, hf => by
    have := (h c (List.mem_cons_self ..)).pos
    rw [List.flatten_cons, List.length_append] at hf
    omega
  | f + 1, [], _, _ => by simp [widthsF]
  | f + 1, c :: cs, h, hf => by
    have hc := h c (List.mem_cons_self ..)
    have hp := hc.pos
    rw [List.flatten_cons, List.length_append] at hf
    rw [List.flatten_cons, List.flatMap_cons]
    unfold widthsF
    rw [if_neg (hc.ne _), hc.bad, if_neg (by simp), hc.drop, hc.dec, widths_chars f cs (fun x hx => h x (List.mem_cons_of_mem _ hx)) (by omega)]
    simp [wof]
theorem widths_all (cs : List (List UInt8)) (h : ∀ c ∈ cs, Chr c) : widths cs.flatten = cs.flatMap wof := widths_chars _ cs h (Nat.le_refl _)
theorem collect_chars (l : List UInt8) : ∀ (cs : List (List UInt8)) (k : Nat), (∀ c ∈ cs, Chr c) → l.drop k = cs.flatten → collect l (cs.flatMap wof) k = cs
  | [], _, _, _ => rfl
  | c :: cs, k, h, hl => by
    have hp := (h c (List.mem_cons_self ..)).pos
    rw [List.flatMap_cons]
    unfold wof
    rw [List.cons_append]
    unfold collect
    rw [if_pos (by omega), collect_zeros, hl, List.flatten_cons, Int.toNat_natCast, List.take_left']
    · congr 1
      refine collect_chars l cs _ (fun x hx => h x (List.mem_cons_of_mem _ hx)) ?_
      rw [show k + 1 + (c.length - 1) = k + c.length by omega, ← List.drop_drop, hl, List.flatten_cons, List.drop_left']
      rfl
    · rfl


theorem byte_at (l : List UInt8) (n : Nat) (h : n < (⟨l.toArray⟩ : ByteArray).size) : ((⟨l.toArray⟩ : ByteArray)[n]'h).toNat = bAt l n := by
  have h' : n < l.length := by simpa [ByteArray.size] using h
  simp [bAt, h']
  rfl

end Go.Proofs.YtjoeojdciogcgaaDoor

namespace Go.Proofs.YtjoeojdciogcgaaDoor
open Go.RowKit Go.Shelf Go.Lib

theorem flat_index {α : Type} (f : List UInt8 → List α) (hf : ∀ c, 0 < c.length → (f c).length = c.length) : ∀ (cs : List (List UInt8)), (∀ c ∈ cs, Chr c) → ∀ (j : Nat) (hj : j < cs.length) (r : Nat), r < cs[j].length →
    (cs.flatMap f)[(cs.take j).flatten.length + r]? = (f cs[j])[r]?
  | c :: cs, h, 0, _, r, hr => by
    have hc := (h c (List.mem_cons_self ..)).pos
    simp only [List.take_zero, List.flatten_nil, List.length_nil, Nat.zero_add, List.flatMap_cons, List.getElem_cons_zero]
    rw [List.getElem?_append_left (by rw [hf c hc]; exact hr)]
  | c :: cs, h, j + 1, hj, r, hr => by
    have hc := (h c (List.mem_cons_self ..)).pos
    simp only [List.take_succ_cons, List.flatten_cons, List.length_append, List.flatMap_cons, List.getElem_cons_succ]
    rw [List.getElem?_append_right (by rw [hf c hc]; omega), hf c hc, show c.length + (cs.take j).flatten.length + r - c.length = (cs.take j).flatten.length + r by omega]
    exact flat_index f hf cs (fun x hx => h x (List.mem_cons_of_mem _ hx)) j (by simpa using hj) r hr
theorem wof_len (c : List UInt8) (h : 0 < c.length) : (wof c).length = c.length := by simp [wof]; omega
/-- the width at a byte of a character -/
theorem wid_at (cs : List (List UInt8)) (h : ∀ c ∈ cs, Chr c) (j : Nat) (hj : j < cs.length) (r : Nat) (hr : r < cs[j].length) : (widths cs.flatten)[(cs.take j).flatten.length + r]? = some (if r = 0 then (cs[j].length : Int) else 0) := by
  rw [widths_all cs h, flat_index wof wof_len cs h j hj r hr]
  unfold wof
  cases r with
  | zero => rfl
  | succ r => rw [List.getElem?_cons_succ, List.getElem?_replicate]; simp; omega
theorem byte_of (cs : List (List UInt8)) (h : ∀ c ∈ cs, Chr c) (j : Nat) (hj : j < cs.length) (r : Nat) (hr : r < cs[j].length) : bAt cs.flatten ((cs.take j).flatten.length + r) = bAt cs[j] r := by
  have e := flat_index (fun c => c) (fun _ _ => rfl) cs h j hj r hr
  unfold bAt
  rw [List.getD_eq_getElem?_getD, List.getD_eq_getElem?_getD, ← e]
  simp
/-- each byte belongs to a character -/
theorem in_char : ∀ (cs : List (List UInt8)) (n : Nat), n < cs.flatten.length → ∃ j r, ∃ hj : j < cs.length, r < cs[j].length ∧ n = (cs.take j).flatten.length + r
  | [], n, h => by simp at h
  | c :: cs, n, h => by
    rw [List.flatten_cons, List.length_append] at h
    rcases Nat.lt_or_ge n c.length with hlt | hge
    · exact ⟨0, n, by simp, by simpa using hlt, by simp⟩
    · obtain ⟨j, r, hj, hr, e⟩ := in_char cs (n - c.length) (by omega)
      refine ⟨j + 1, r, by simpa using hj, by simpa using hr, ?_⟩
      rw [List.take_succ_cons, List.flatten_cons, List.length_append]
      omega
theorem flat_succ (cs : List (List UInt8)) (j : Nat) (hj : j < cs.length) : (cs.take (j + 1)).flatten.length = (cs.take j).flatten.length + cs[j].length := by
  rw [List.take_succ_eq_append_getElem hj, List.flatten_append, List.length_append]
  simp only [List.flatten_cons, List.flatten_nil, List.append_nil]

/-- the place after some bytes, byte by byte -/
def plF (l : List UInt8) (ws : List Int) : Nat → Int × Int
  | 0 => (1, 1)
  | k + 1 => if bAt l k = 10 then ((plF l ws k).1 + 1, 1) else if 0 < ws[k]?.getD 0 then ((plF l ws k).1, (plF l ws k).2 + 1) else plF l ws k
theorem plF_bound (l : List UInt8) (ws : List Int) : ∀ k, 1 ≤ (plF l ws k).1 ∧ (plF l ws k).1 ≤ k + 1 ∧ 1 ≤ (plF l ws k).2 ∧ (plF l ws k).2 ≤ k + 1
  | 0 => by simp [plF]
  | k + 1 => by
    have := plF_bound l ws k
    unfold plF
    split
    · simp only; omega
    · split
      · simp only; omega
      · omega
theorem nl_byte (c : List UInt8) (h : Chr c) (r : Nat) (hr : r < c.length) : bAt c r = 10 ↔ (c = nlc ∧ r = 0) := by
  constructor
  · intro e
    rcases h.shape with ⟨x, rfl⟩ | h2
    · have : r = 0 := by simp at hr; omega
      subst this
      rw [bAt_zero] at e
      exact ⟨by unfold nlc; congr 1; exact UInt8.toNat_inj.1 (by rw [e]; rfl), rfl⟩
    · have := h2 r hr
      omega
  · rintro ⟨rfl, rfl⟩
    rfl
theorem plF_chars (cs : List (List UInt8)) (h : ∀ c ∈ cs, Chr c) : ∀ j, j ≤ cs.length → plF cs.flatten (widths cs.flatten) (cs.take j).flatten.length = place (cs.take j)
  | 0, _ => by simp [plF, place]
  | j + 1, hj => by
    have hj' : j < cs.length := by omega
    have hc := h cs[j] (List.getElem_mem hj')
    have hp := hc.pos
    have ih := plF_chars cs h j (by omega)
    have e1 : place (cs.take (j + 1)) = step (place (cs.take j)) cs[j] := by unfold place; rw [List.take_succ_eq_append_getElem hj', List.foldl_append]; rfl
    have key : ∀ r, 1 ≤ r → r ≤ cs[j].length → plF cs.flatten (widths cs.flatten) ((cs.take j).flatten.length + r) = step (place (cs.take j)) cs[j] := by
      intro r
      induction r with
      | zero => intro h0; omega
      | succ r ihr =>
        intro _ hr
        have hb := byte_of cs h j hj' r (by omega)
        have hw := wid_at cs h j hj' r (by omega)
        rw [show (cs.take j).flatten.length + (r + 1) = (cs.take j).flatten.length + r + 1 by omega]
        unfold plF
        rw [hb, hw, Option.getD_some]
        rcases Nat.eq_zero_or_pos r with rfl | hrp
        · rw [Nat.add_zero, ih, if_pos rfl]
          unfold step
          by_cases hnl : cs[j] = nlc
          · rw [if_pos ((nl_byte _ hc 0 (by omega)).2 ⟨hnl, rfl⟩), if_pos hnl]
          · rw [if_neg (fun e => hnl ((nl_byte _ hc 0 (by omega)).1 e).1), if_neg hnl, if_pos (by omega)]
        · rw [if_neg (fun e => by have := ((nl_byte _ hc r (by omega)).1 e).2; omega), if_neg (show ¬ r = 0 by omega), if_neg (by omega)]
          exact ihr (by omega) (by omega)
    rw [flat_succ cs j hj', key cs[j].length (by omega) (Nat.le_refl _), e1]

theorem take_len_le (cs : List (List UInt8)) (j : Nat) : (cs.take j).flatten.length ≤ cs.flatten.length := by rw [← take_flatten cs j, List.length_take]; omega

set_option maxRecDepth 100000 in
set_option maxHeartbeats 1000000 in
theorem place_any (cs : List (List UInt8)) (h : ∀ c ∈ cs, Chr c) (j : Nat) (hj : j ≤ cs.length) (o : Int) (ho : o = (((cs.take j).flatten.length : Nat) : Int)) (w : World) (hl : cs.flatten.length ≤ 16000) (hT : Tabs w) :
    Calls Tryd.prog 57 #[.string ⟨cs.flatten.toArray⟩, .int .i64 o] w fun e w' => e = .returned (.tuple #[.int .i64 (place (cs.take j)).1, .int .i64 (place (cs.take j)).2]) ∧ Below w.heap.size w w' := by
  have hpl := plF_chars cs h j hj
  have hole := take_len_le cs j
  have hwl := widths_len cs.flatten
  subst ho
  generalize (cs.take j).flatten.length = m at *
  obtain ⟨l, hl0⟩ : ∃ l, cs.flatten = l := ⟨_, rfl⟩
  rw [hl0] at hpl hwl hl hole ⊢
  obtain ⟨ws, hws⟩ : ∃ ws, widths l = ws := ⟨_, rfl⟩
  rw [hws] at hpl hwl
  have hn1 : ws.length ≤ l.length := by omega
  have hn2 : l.length ≤ ws.length := by omega
  have HWS := Lib.hid hws
  rw [← hpl]
  clear hwl hl0 hws h hpl hj
  go_enter Tryd.func57, Tryd.ntmps57
  go_wp2_with fail
  refine (widths_any l _ hl hT).mono ?_
  rintro e w1 ⟨rfl, hBW, hb1⟩
  rw [HWS.out] at hBW
  go_wp2_with fail
  go_loop [6, 7, 13] (fun a b i => ∃ k : Nat, i = .int .i64 k ∧ k ≤ m ∧ a = .int .i64 (plF l ws k).1 ∧ b = .int .i64 (plF l ws k).2) (fun _ _ i => l.length - (RowKit.intOf i).toNat)
  case atStart => exact ⟨0, rfl, Nat.zero_le _, rfl, rfl⟩
  case round =>
    obtain ⟨k, rfl, hk, rfl, rfl⟩ := hrel
    obtain ⟨u1, u2, u3, u4⟩ := plF_bound l ws k
    by_cases hlt : k < m
    · have hk' : k < ws.length := by omega
      have hkl : k < l.length := by omega
      have hc := hBW.cell k
      rw [show (ics ws).toArray[k]? = some (.int .i64 ws[k]) by simp [ics, hk']] at hc
      have HN := Lib.hid (show plF l ws (k + 1) = if bAt l k = 10 then ((plF l ws k).1 + 1, 1) else if 0 < ws[k] then ((plF l ws k).1, (plF l ws k).2 + 1) else plF l ws k by
        conv => lhs; unfold plF
        simp [hk'])
      have hbt := byte_at l k (by simpa [ByteArray.size] using hkl)
      generalize ws[k] = n at *
      obtain ⟨a, b, hab⟩ : ∃ a b, plF l ws k = (a, b) := ⟨_, _, rfl⟩
      rw [hab] at u1 u2 u3 u4 HN ⊢
      simp only at u1 u2 u3 u4 HN
      clear hab
      have hbl := bAt_lt l k
      generalize bAt l k = xb at *
      have tm : decide ((m : Int) ≤ (k : Int)) = false := decide_eq_false (by omega)
      by_cases hx : xb = 10
      · subst hx
        have HN' := Lib.hid (show plF l ws (k + 1) = (a + 1, 1) by rw [HN.out, if_pos rfl])
        go_wp2_with fail
        go_round
        case rel => exact ⟨k + 1, by go_num, by omega, by rw [HN'.out], by rw [HN'.out]⟩
        case measure => simp [RowKit.intOf]; omega
      · have hxb : ((xb : Int) == 10) = false := by rw [beq_eq_false_iff_ne]; omega
        by_cases hn : 0 < n
        · have HN' := Lib.hid (show plF l ws (k + 1) = (a, b + 1) by rw [HN.out, if_neg hx, if_pos hn])
          clear hx
          go_wp2_with fail
          go_round
          case rel => exact ⟨k + 1, by go_num, by omega, by rw [HN'.out], by rw [HN'.out]⟩
          case measure => simp [RowKit.intOf]; omega
        · have HN' := Lib.hid (show plF l ws (k + 1) = (a, b) by rw [HN.out, if_neg hx, if_neg hn])
          clear hx
          go_wp2_with fail
          go_round
          case rel => exact ⟨k + 1, by go_num, by omega, by rw [HN'.out], by rw [HN'.out]⟩
          case measure => simp [RowKit.intOf]; omega
    · obtain rfl : k = m := by omega
      by_cases hkl : k < l.length
      · have hk' : k < ws.length := by omega
        have hc := hBW.cell k
        rw [show (ics ws).toArray[k]? = some (.int .i64 ws[k]) by simp [ics, hk']] at hc
        generalize ws[k] = n at *
        go_wp2_with fail
        go_ret2
        exact ⟨rfl, hb1⟩
      · go_wp2_with fail
        go_ret2
        exact ⟨rfl, hb1⟩

end Go.Proofs.YtjoeojdciogcgaaDoor
