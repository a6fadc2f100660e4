/- source.Check: the fault of a source. Nothing is claimed here. -/
import Derived.Test.YtjoeojdciogcgaaDoorSeqI
import Derived.Lib.OthersKept
import Derived.IntWalk
namespace Go.Proofs.YtjoeojdciogcgaaDoor
open Go.RowKit Go.Shelf Go.Lib

/-- the library's two tables lie where they were laid -/
def Tabs (w : World) : Prop := Lib.Utf8Tabs 2 3 w
theorem lt_of_cell {w : World} {b o : Nat} {v : Value} (h : w.cell? ⟨b, o, none⟩ = some v) : b < w.heap.size := by
  obtain ⟨ob, ho, _⟩ := cells_of_cell h
  exact (Array.getElem?_eq_some_iff.1 ho).1
theorem Tabs.keepB {w w' : World} (h : Tabs w) (hb : Below w.heap.size w w') : Tabs w' := by
  have l1 := lt_of_cell (h.1 0 (by omega))
  have l2 := lt_of_cell (h.2 0 (by omega)).1
  exact ⟨fun c hc => (hb.cell (p := ⟨_, c, none⟩) l1).trans (h.1 c hc), fun i hi => ⟨(hb.cell (p := ⟨_, 2 * i, none⟩) l2).trans (h.2 i hi).1, (hb.cell (p := ⟨_, 2 * i + 1, none⟩) l2).trans (h.2 i hi).2⟩⟩

def flt (c i : Int) : Value := .agg #[.int .i64 c, .int .i64 i]

/-- what is read at a place of a text -/
theorem decode_drop (l : List UInt8) (p : Nat) : Utf8.decode ⟨l.toArray⟩ p = decodeL (l.drop p) := by
  have h := tail_decode ⟨l.toArray⟩ p 0
  rw [Nat.add_zero] at h
  rw [← h]
  unfold decodeL
  congr 1
  exact extract_from l p _ (Nat.le_refl _)

theorem decodeGo_ne (l : List UInt8) (hne : l ≠ []) : Lib.decodeGo ⟨l.toArray⟩ = decodeL l := by
  unfold Lib.decodeGo
  rw [if_neg (by have := List.length_pos_iff.2 hne; simp [ByteArray.size]; omega)]
  rfl

theorem decodeL_rune_le (l : List UInt8) : (decodeL l).1 ≤ 2147483647 := decode_le _ _
theorem decodeL_width_le (l : List UInt8) (hne : l ≠ []) : (decodeL l).2 ≤ l.length := by
  have := List.length_pos_iff.2 hne
  rw [decodeL_eq]
  rcases decodeN_cases l.length (bAt l 0) (bAt l 1) (bAt l 2) (bAt l 3) with ⟨_, h⟩ | h | ⟨hn, _, _, c, _, h⟩ | ⟨hn, _, _, _, c, _, h⟩ | ⟨hn, _, _, _, _, c, _, h⟩
  · rw [h]; exact this
  · rw [h]; exact this
  · rw [h _ _ _ hn]; exact hn
  · rw [h _ _ hn]; exact hn
  · rw [h _ hn]; exact hn

theorem badL_iff (l : List UInt8) (r n : Nat) (h : decodeL l = (r, n)) : badL l = true ↔ (r < 32 ∧ r ≠ 10) ∨ (r = 65533 ∧ n = 1) := by
  unfold badL
  rw [h]
  simp

/-- utf8.DecodeRuneInString at what is left of a text -/
theorem decode_any (l : List UInt8) (hne : l ≠ []) (w : World) (hT : Tabs w) :
    Calls Tryd.prog 34 #[.string ⟨l.toArray⟩] w fun e w' => e = .returned (.tuple #[.int .i32 (decodeL l).1, .int .i64 (decodeL l).2]) ∧ Below w.heap.size w w' := by
  refine (Tryd.utf8_DecodeRuneInString ⟨l.toArray⟩ w hT).mono ?_
  rintro e w' ⟨rfl, hb⟩
  rw [decodeGo_ne l hne]
  exact ⟨rfl, hb⟩

/-- the loop of Check -/
def CheckI (l : List UInt8) (B : Nat) (w wr : World) : Prop :=
  ∃ (pos f : Nat), wr.heap[B + 1]? = some (.stringIter ⟨l.toArray⟩ pos) ∧ Blk wr B 25 #[.int .i64 0, .int .i64 0] ∧ Below B w wr ∧ badAt f (l.drop pos) pos = badAt l.length l 0 ∧ l.length ≤ pos + f ∧ pos ≤ l.length

theorem badAt_end (f : Nat) (p : Nat) : badAt f [] p = none := by cases f <;> simp [badAt]
theorem badAt_bad (f : Nat) (l : List UInt8) (p : Nat) (hf : 1 ≤ f) (hne : l ≠ []) (h : badL l = true) : badAt f l p = some p := by
  obtain ⟨g, rfl⟩ : ∃ g, f = g + 1 := ⟨f - 1, by omega⟩
  unfold badAt
  rw [if_neg hne, if_pos h]
theorem badAt_good (f : Nat) (l : List UInt8) (p : Nat) (hne : l ≠ []) (h : badL l = false) : badAt (f + 1) l p = badAt f (l.drop (decodeL l).2) (p + (decodeL l).2) := by
  conv => lhs; unfold badAt
  rw [if_neg hne, h, if_neg (by simp)]

set_option maxRecDepth 100000 in
set_option maxHeartbeats 2000000 in
theorem check_any (l : List UInt8) (w : World) (hl : l.length ≤ 9223372036854775807) (hT : Tabs w) :
    Calls Tryd.prog 16 #[.string ⟨l.toArray⟩] w fun e w' => e = .returned (flt (sfault l).1 (sfault l).2) ∧ Below w.heap.size w w' := by
  by_cases hlen : 16000 < l.length
  · have hs : sfault l = (3, -1) := by unfold sfault; rw [if_pos hlen]
    rw [hs]
    clear hs
    go_enter Tryd.func16, Tryd.ntmps16
    go_wp2
    exact ret_blk rfl rfl (Blk.new w 25 #[.int .i64 3, .int .i64 (-1)]) _ Tryd.underlying25 rfl (by kernel_rfl) rfl ⟨rfl, (Below.refl _ _).alloc (Nat.le_refl _) _⟩
  · have hle : l.length ≤ 16000 := by omega
    clear hlen
    go_enter Tryd.func16, Tryd.ntmps16
    go_wp2_with fail
    go_loopw [3] (fun _ wr => CheckI l w.heap.size w wr) (fun _ wr => l.length - wr.iterPos (w.heap.size + 1))
    case atStart =>
      refine ⟨0, l.length, ?_, ?_, ?_, rfl, by omega, Nat.zero_le _⟩
      · have := World.iter_heap (w.alloc (.cells #[.int .i64 0, .int .i64 0] 25)) ⟨l.toArray⟩ 0
        rwa [World.size_alloc] at this
      · exact (Blk.new w 25 #[.int .i64 0, .int .i64 0]).alloc _
      · exact ((Below.refl _ w).alloc (Nat.le_refl _) _).alloc (by simp) _
    case round =>
      obtain ⟨pos, f, hit, hB, hb, hbad, hf, hpl⟩ := hrel
      obtain ⟨q1, q2, q3⟩ := hB.rules
      by_cases hp : pos < l.length
      · have hne : l.drop pos ≠ [] := by intro e; have := congrArg List.length e; rw [List.length_drop, List.length_nil] at this; omega
        obtain ⟨r, n, hd⟩ : ∃ r n, decodeL (l.drop pos) = (r, n) := ⟨_, _, rfl⟩
        have hnx : ∀ ty, (Instr.next (.pointer (some ⟨w.heap.size + 1, 0, none⟩)) true ty).run Tryd.prog wr = _ := fun ty => run_next_any_at wr (w.heap.size + 1) ⟨l.toArray⟩ pos ty hit hp
        rw [decode_drop, hd] at hnx
        have hr := decodeL_rune_le (l.drop pos)
        have hw1 := width_pos _ hne
        have hw2 := decodeL_width_le _ hne
        rw [hd] at hr hw1 hw2
        rw [List.length_drop] at hw2
        have HB := Lib.hid hbad
        have HD := Lib.hid hd
        have HI := Lib.hid hit
        clear hbad hd hit
        go_wp2_with fail
        rw [extract_from l pos l.length (Nat.le_refl _)]
        obtain ⟨W1, hW1⟩ : ∃ W1, wr.iterAt (w.heap.size + 1) ⟨l.toArray⟩ (pos + n) = W1 := ⟨_, rfl⟩
        have hB1 : Blk W1 w.heap.size 25 #[.int .i64 0, .int .i64 0] := by rw [← hW1]; exact (iterAt_other _ _ _ _ _ (by omega)).trans hB
        have hb1 : Below w.heap.size w W1 := by rw [← hW1]; exact below_iterAt hb (by omega) _ _
        have hit1 : W1.heap[w.heap.size + 1]? = some (.stringIter ⟨l.toArray⟩ (pos + n)) := by rw [← hW1]; exact iterAt_heap _ _ _ _ _ HI.out
        rw [hW1]
        have HI1 := Lib.hid hit1
        clear hW1 hnx hit1
        refine (decode_any _ hne _ (hT.keepB hb1)).mono ?_
        rintro e w2 ⟨rfl, hb2⟩
        rw [HD.out]
        have hit2 : w2.heap[w.heap.size + 1]? = some (.stringIter ⟨l.toArray⟩ (pos + n)) := (hb2.block _ (Array.getElem?_eq_some_iff.1 HI1.out).1).trans HI1.out
        have HI2 := Lib.hid hit2
        have hB2 := hB1.belowS hb2
        have hb3 : Below w.heap.size w w2 := below_then hb1 hb2 hb1.size
        clear hit2 HI1 hB1 hb1 hb2 q1 q2 q3 hB hb
        obtain ⟨q1, q2, q3⟩ := hB2.rules
        have hbi := badL_iff (l.drop pos) r n HD.out
        by_cases hbd : (r < 32 ∧ r ≠ 10) ∨ (r = 65533 ∧ n = 1)
        · have HBD := Lib.hid (badAt_bad f (l.drop pos) pos (by omega) hne (hbi.2 hbd))
          have HF : Hid (sfault l = (1, (pos : Int))) := Lib.hid (by unfold sfault; rw [if_neg (by omega), ← HB.out, HBD.out])
          clear hbi HBD
          rcases hbd with ⟨b1, b2⟩ | ⟨b1, b2⟩
          · have t2 : ((r : Int) != 10) = true := by rw [bne_iff_ne]; omega
            clear b2
            go_wp2
            exact ret_blk rfl rfl ((hB2.set_ 0 (.int .i64 1)).set_ 1 (.int .i64 pos)) _ Tryd.underlying25 rfl (by kernel_rfl) rfl ⟨by rw [HF.out]; rfl, (hb3.setCell (p := ⟨_, 0, none⟩) (by simp) _).setCell (p := ⟨_, 1, none⟩) (by simp) _⟩
          · subst b1 b2
            go_wp2
            exact ret_blk rfl rfl ((hB2.set_ 0 (.int .i64 1)).set_ 1 (.int .i64 pos)) _ Tryd.underlying25 rfl (by kernel_rfl) rfl ⟨by rw [HF.out]; rfl, (hb3.setCell (p := ⟨_, 0, none⟩) (by simp) _).setCell (p := ⟨_, 1, none⟩) (by simp) _⟩
        · have hgd : badL (l.drop pos) = false := by rw [← Bool.not_eq_true, hbi]; exact hbd
          obtain ⟨g, rfl⟩ : ∃ g, f = g + 1 := ⟨f - 1, by omega⟩
          have HG := Lib.hid (badAt_good g (l.drop pos) pos hne hgd)
          have fin : CheckI l w.heap.size w w2 := by
            refine ⟨pos + n, g, HI2.out, hB2, hb3, ?_, by omega, by omega⟩
            rw [← HB.out, HG.out, HD.out, List.drop_drop]
          have hms : l.length - w2.iterPos (w.heap.size + 1) < l.length - wr.iterPos (w.heap.size + 1) := by
            unfold World.iterPos
            rw [HI2.out, HI.out]
            simp only
            omega
          have FIN := Lib.hid fin
          have HM := Lib.hid hms
          clear fin hms hbi hgd HG HB
          by_cases b1 : r < 32
          · obtain rfl : r = 10 := by omega
            go_wp2
            go_roundw
            case rel => exact FIN.out
            case measure => exact HM.out
          · by_cases b2 : r = 65533
            · have t4 : ((n : Int) == 1) = false := by rw [beq_eq_false_iff_ne]; omega
              subst b2
              clear hbd
              go_wp2
              go_roundw
              case rel => exact FIN.out
              case measure => exact HM.out
            · have t3 : ((r : Int) == 65533) = false := by rw [beq_eq_false_iff_ne]; omega
              clear hbd
              go_wp2
              go_roundw
              case rel => exact FIN.out
              case measure => exact HM.out
      · have hnx : ∀ ty, (Instr.next (.pointer (some ⟨w.heap.size + 1, 0, none⟩)) true ty).run Tryd.prog wr = _ := fun ty => run_next_end_at wr (w.heap.size + 1) ⟨l.toArray⟩ pos ty hit hp
        obtain rfl : pos = l.length := by omega
        have HF : Hid (sfault l = (0, 0)) := Lib.hid (by unfold sfault; rw [if_neg (by omega), ← hbad, List.drop_length, badAt_end])
        clear hbad hit
        go_wp2
        exact ret_blk rfl rfl ((hB.set_ 0 (.int .i64 0)).set_ 1 (.int .i64 0)) _ Tryd.underlying25 rfl (by kernel_rfl) rfl ⟨by rw [HF.out]; rfl, (hb.setCell (p := ⟨_, 0, none⟩) (by simp) _).setCell (p := ⟨_, 1, none⟩) (by simp) _⟩

end Go.Proofs.YtjoeojdciogcgaaDoor
