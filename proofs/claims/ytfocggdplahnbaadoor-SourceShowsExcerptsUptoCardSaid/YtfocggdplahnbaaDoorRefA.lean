/- The reference's Widths and SourceFault: what they compute. Nothing is claimed here. -/
import Derived.Laws.MakeOwn
import Derived.Laws.Entries
import Derived.Test.YtfocggdplahnbaaDoorSrcL
namespace Go.Proofs.YtfocggdplahnbaaDoor
open Go.RowKit Go.Shelf Go.Lib

/-- the widths of the characters of a text -/
def widthsF : Nat → List UInt8 → List Int
  | 0, _ => []
  | f + 1, l => if l = [] then [] else if badL l then -1 :: widthsF f (l.drop 1) else ((decodeL l).2 : Int) :: (List.replicate ((decodeL l).2 - 1) 0 ++ widthsF f (l.drop (decodeL l).2))
def widths (l : List UInt8) : List Int := widthsF l.length l

theorem widthsF_len : ∀ (f : Nat) (l : List UInt8), l.length ≤ f → (widthsF f l).length = l.length
  | 0, l, h => by
    have : l = [] := List.eq_nil_of_length_eq_zero (by omega)
    subst this
    rfl
  | f + 1, l, h => by
    unfold widthsF
    split
    · rename_i e; subst e; rfl
    · rename_i hne
      have hp := List.length_pos_iff.2 hne
      have hw := width_pos l hne
      have hw2 := decodeL_width_le l hne
      split
      · rw [List.length_cons, widthsF_len f _ (by rw [List.length_drop]; omega), List.length_drop]; omega
      · rw [List.length_cons, List.length_append, List.length_replicate, widthsF_len f _ (by rw [List.length_drop]; omega), List.length_drop]; omega
theorem widths_len (l : List UInt8) : (widths l).length = l.length := widthsF_len _ _ (Nat.le_refl _)

def ics (l : List Int) : List Value := l.map (Value.int .i64)

theorem run_make_ints (n : Nat) (hn : n ≤ 140737488355328 / 8) (w : World) :
    (Instr.makeSlice 48 (.int .i64 (n : Int)) (.int .i64 (n : Int))).run Tryd.prog w = .ok (.slice (some ⟨w.heap.size, 0, none⟩) n n) (w.alloc (.cells (ics (List.replicate n 0)).toArray 3)) := by
  have hinfo : (Tryd.prog.info? 3).map (fun i => (i.zero, i.size, i.bytes)) = some (some (.int .i64 0), 1, 8) := by kernel_rfl
  obtain ⟨i0, hi, hz0, hz1, hz2⟩ := info_parts hinfo
  have hr := run_make (P := Tryd.prog) w 48 3 i0 (.int .i64 0) Tryd.underlying48 hi hz0 .i64 .i64 n n (by omega) (by omega) (by rw [hz2]; omega) (by omega)
  simp only [Int.toNat_natCast, hz1, Nat.mul_one] at hr
  rw [hr]
  have e : madeCells (Value.int .i64 0).cells n = (ics (List.replicate n 0)).toArray := by
    apply Array.toList_inj.1
    have := toList_madeCells_one (.int .i64 0) n
    simpa [ics, Value.cells] using this
  rw [e]

theorem ics_set (d : List Int) (m : Nat) (u : Int) (hm : 0 < m) : (ics (d ++ List.replicate m 0)).toArray.setIfInBounds d.length (.int .i64 u) = (ics (d ++ u :: List.replicate (m - 1) 0)).toArray := by
  obtain ⟨k, rfl⟩ : ∃ k, m = k + 1 := ⟨m - 1, by omega⟩
  simp [ics, List.replicate_succ]

theorem ics_at (d : List Int) (m p : Nat) (hd : d.length = p) (hm : 0 < m) : (ics (d ++ List.replicate m 0)).toArray[p]? = some (.int .i64 0) := by
  obtain ⟨k, rfl⟩ : ∃ k, m = k + 1 := ⟨m - 1, by omega⟩
  subst hd
  simp [ics, List.replicate_succ]

/-- the loop of Widths -/
def WidI (l : List UInt8) (B : Nat) (w : World) (i : Value) (wr : World) : Prop :=
  ∃ (p f : Nat) (d : List Int), i = .int .i64 p ∧ p ≤ l.length ∧ l.length ≤ p + f ∧ d.length = p ∧ widths l = d ++ widthsF f (l.drop p) ∧ Blk wr B 3 (ics (d ++ List.replicate (l.length - p) 0)).toArray ∧ Below B w wr

set_option maxRecDepth 100000 in
set_option maxHeartbeats 1000000 in
theorem widths_any (l : List UInt8) (w : World) (hl : l.length ≤ 16000) (hT : Tabs w) :
    Calls Tryd.prog 25 #[.string ⟨l.toArray⟩] w fun e w' => e = .returned (.slice (some ⟨w.heap.size, 0, none⟩) l.length l.length) ∧ Blk w' w.heap.size 3 (ics (widths l)).toArray ∧ Below w.heap.size w w' := by
  have hmk := fun W => run_make_ints l.length (by omega) W
  go_enter Tryd.func25, Tryd.ntmps25
  go_wp2_with fail
  clear hmk
  go_loopw [4] (fun i wr => WidI l w.heap.size w i wr) (fun i _ => l.length - (RowKit.intOf i).toNat)
  case atStart =>
    exact ⟨0, l.length, [], rfl, Nat.zero_le _, by omega, rfl, rfl, by simpa using Blk.new w 3 (ics (List.replicate l.length 0)).toArray, (Below.refl _ _).alloc (Nat.le_refl _) _⟩
  case round =>
    obtain ⟨p, f, d, rfl, hp, hf, hd, hwd, hB, hb⟩ := hrel
    by_cases hlt : p < l.length
    · have hne : l.drop p ≠ [] := by intro e; have := congrArg List.length e; rw [List.length_drop, List.length_nil] at this; omega
      obtain ⟨r, n, hdc⟩ : ∃ r n, decodeL (l.drop p) = (r, n) := ⟨_, _, rfl⟩
      have hr := decodeL_rune_le (l.drop p)
      have hw1 := width_pos _ hne
      have hw2 := decodeL_width_le _ hne
      rw [hdc] at hr hw1 hw2
      rw [List.length_drop] at hw2
      obtain ⟨g, rfl⟩ : ∃ g, f = g + 1 := ⟨f - 1, by omega⟩
      have HD := Lib.hid hdc
      have HWD := Lib.hid hwd
      have HDL := Lib.hid hd
      clear hdc hwd hd
      go_wp2_with fail
      rw [extract_from l p l.length (Nat.le_refl _)]
      refine (decode_any _ hne _ (hT.keepB hb)).mono ?_
      rintro e w2 ⟨rfl, hb2⟩
      rw [HD.out]
      have hB2 := hB.belowS hb2
      have hb3 := below_then hb hb2 hb.size
      have hc := hB2.cell p
      have hfz := hB2.frozen p
      have hlB := hB2.lt
      rw [ics_at d (l.length - p) p HDL.out (by omega)] at hc
      clear hB hb hb2
      have hbi := badL_iff (l.drop p) r n HD.out
      by_cases hbd : (r < 32 ∧ r ≠ 10) ∨ (r = 65533 ∧ n = 1)
      · have hbt := hbi.2 hbd
        have HX := Lib.hid (show widths l = (d ++ [-1]) ++ widthsF g (l.drop (p + 1)) by
          rw [HWD.out]
          conv => lhs; unfold widthsF
          rw [if_neg hne, if_pos hbt, List.drop_drop]
          simp)
        have HBK := Lib.hid (show Blk (w2.setCell ⟨w.heap.size, p, none⟩ (.int .i64 (-1))) w.heap.size 3 (ics ((d ++ [-1]) ++ List.replicate (l.length - (p + 1)) 0)).toArray by
          have h := hB2.set_ p (.int .i64 (-1))
          rw [← HDL.out, ics_set d (l.length - d.length) (-1) (by have := HDL.out; omega), show l.length - d.length - 1 = l.length - (d.length + 1) by omega] at h
          rw [← HDL.out]
          simpa using h)
        clear hbi hbt HWD hB2
        rcases hbd with ⟨b1, b2⟩ | ⟨b1, b2⟩
        · have t1 : ((r : Int) == 65533) = false := by rw [beq_eq_false_iff_ne]; omega
          have t2 : ((r : Int) != 10) = true := by rw [bne_iff_ne]; omega
          have t5 : decide ((r : Int) < 32) = true := decide_eq_true (by omega)
          clear b2
          go_wp2_with fail
          all_goals
            go_roundw
            case rel => exact ⟨p + 1, g, d ++ [-1], by go_num, by omega, by omega, by simp [HDL.out], HX.out, HBK.out, hb3.setCell (p := ⟨_, _, none⟩) (by simp) _⟩
            case measure => simp [RowKit.intOf]; omega
        · subst b1 b2
          go_wp2_with fail
          go_roundw
          case rel => exact ⟨p + 1, g, d ++ [-1], by go_num, by omega, by omega, by simp [HDL.out], HX.out, HBK.out, hb3.setCell (p := ⟨_, _, none⟩) (by simp) _⟩
          case measure => simp [RowKit.intOf]; omega
      · have hbf : badL (l.drop p) = false := by rw [← Bool.not_eq_true, hbi]; exact hbd
        have HX := Lib.hid (show widths l = (d ++ (n : Int) :: List.replicate (n - 1) 0) ++ widthsF g (l.drop (p + n)) by
          rw [HWD.out]
          conv => lhs; unfold widthsF
          rw [if_neg hne, if_neg (by rw [hbf]; simp), HD.out, List.drop_drop]
          simp)
        have HBK := Lib.hid (show Blk (w2.setCell ⟨w.heap.size, p, none⟩ (.int .i64 n)) w.heap.size 3 (ics ((d ++ (n : Int) :: List.replicate (n - 1) 0) ++ List.replicate (l.length - (p + n)) 0)).toArray by
          have h := hB2.set_ p (.int .i64 n)
          rw [← HDL.out, ics_set d (l.length - d.length) n (by have := HDL.out; omega)] at h
          rw [← HDL.out, List.append_assoc, List.cons_append, List.replicate_append_replicate, show n - 1 + (l.length - (d.length + n)) = l.length - d.length - 1 by have := HDL.out; omega]
          exact h)
        have hdl : (d ++ (n : Int) :: List.replicate (n - 1) 0).length = p + n := by simp [HDL.out]; omega
        have HDN := Lib.hid hdl
        clear hbi hbf HWD hB2 hdl
        by_cases b1 : r < 32
        · obtain rfl : r = 10 := by omega
          go_wp2_with fail
          go_roundw
          case rel => exact ⟨p + n, g, _, by go_num, by omega, by omega, HDN.out, HX.out, HBK.out, hb3.setCell (p := ⟨_, _, none⟩) (by simp) _⟩
          case measure => simp [RowKit.intOf]; omega
        · by_cases b2 : r = 65533
          · subst b2
            have b3 : ¬ n ≤ 1 := by omega
            have t5 : decide ((n : Int) ≤ 1) = false := decide_eq_false (by omega)
            clear hbd
            go_wp2_with fail
            go_roundw
            case rel => exact ⟨p + n, g, _, by go_num, by omega, by omega, HDN.out, HX.out, HBK.out, hb3.setCell (p := ⟨_, _, none⟩) (by simp) _⟩
            case measure => simp [RowKit.intOf]; omega
          · have t3 : ((r : Int) == 65533) = false := by rw [beq_eq_false_iff_ne]; omega
            have t5 : decide ((r : Int) < 32) = false := decide_eq_false (by omega)
            clear hbd
            go_wp2_with fail
            go_roundw
            case rel => exact ⟨p + n, g, _, by go_num, by omega, by omega, HDN.out, HX.out, HBK.out, hb3.setCell (p := ⟨_, _, none⟩) (by simp) _⟩
            case measure => simp [RowKit.intOf]; omega
    · obtain rfl : p = l.length := by omega
      have HWD := Lib.hid hwd
      have HDL := Lib.hid hd
      clear hwd hd
      go_wp2_with fail
      go_ret
      refine ⟨rfl, ?_, hb⟩
      have : widths l = d := by
        rw [HWD.out, List.drop_length]
        cases f <;> simp [widthsF]
      rw [this]
      simpa using hB

end Go.Proofs.YtfocggdplahnbaaDoor
