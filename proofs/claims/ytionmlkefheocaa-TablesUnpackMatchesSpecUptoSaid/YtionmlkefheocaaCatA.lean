/- Walks: the checks of a table of catches; the catch at an instruction. Nothing is claimed here. -/
import Derived.Test.YtionmlkefheocaaTabD
namespace Go.Proofs.Ytionmlkefheocaa
open Go.RowKit
set_option linter.unusedVariables false

abbrev Catch := Int × Int × Int × Int
def ctc (c : Catch) : List Value := [.int .i64 c.1, .int .i64 c.2.1, .int .i64 c.2.2.1, .int .i64 c.2.2.2]
theorem ctc_len (c : Catch) : (ctc c).length = 4 := rfl

theorem Row.catch_ {w : World} {A : Option Addr} {l : List Catch} (h : Row w A (l.flatMap ctc)) {k : Nat} (hk : k < l.length) :
    ∃ b off, A = some ⟨b, off, none⟩ ∧ b < w.heap.size ∧ w.cell? ⟨b, off + k * 4, none⟩ = some (.int .i64 l[k].1) ∧ w.cell? ⟨b, off + k * 4 + 1, none⟩ = some (.int .i64 l[k].2.1) ∧
      w.cell? ⟨b, off + k * 4 + 2, none⟩ = some (.int .i64 l[k].2.2.1) ∧ w.cell? ⟨b, off + k * 4 + 3, none⟩ = some (.int .i64 l[k].2.2.2) := by
  obtain ⟨b, off, e, hlt, hc⟩ := h.elem ctc_len (by omega) hk
  exact ⟨b, off, e, hlt, hc 0 _ (by omega) rfl, hc 1 _ (by omega) rfl, hc 2 _ (by omega) rfl, hc 3 _ (by omega) rfl⟩

def okC (c : Catch) : Prop := 0 ≤ c.1 ∧ c.1 < c.2.1 ∧ c.2.1 ≤ 60000 ∧ 0 ≤ c.2.2.1 ∧ c.2.2.1 ≤ 59999 ∧ 0 ≤ c.2.2.2 ∧ c.2.2.2 ≤ 5000
instance (c : Catch) : Decidable (okC c) := by unfold okC; infer_instance
def cfGo : Nat → List Catch → Int × Int
  | _, [] => (0, 0)
  | i, c :: l => if okC c then cfGo (i + 1) l else (4, (i : Int))
def catchesFault (l : List Catch) : Int × Int := if 60000 < l.length then (2, -1) else cfGo 0 l

theorem cf_bad {i : Nat} {c : Catch} {l : List Catch} (h : ¬ okC c) : cfGo i (c :: l) = (4, (i : Int)) := by rw [cfGo, if_neg h]
theorem cf_ok {i : Nat} {c : Catch} {l : List Catch} (h : okC c) : cfGo i (c :: l) = cfGo (i + 1) l := by rw [cfGo, if_pos h]


set_option maxHeartbeats 1000000 in
theorem checkCatches_any (A : Option Addr) (c : Nat) (l : List Catch) (w : World) (hl : l.length ≤ 9223372036854775807) (hm : Row w A (l.flatMap ctc)) :
    Calls Try.prog 39 #[.slice A l.length c] w fun e w' => e = .returned (.agg #[.int .i64 (catchesFault l).1, .int .i64 (catchesFault l).2]) ∧ Below w.heap.size w w' := by
  have hB : Blk (w.alloc (.cells #[.int .i64 0, .int .i64 0] 24)) w.heap.size 24 #[.int .i64 0, .int .i64 0] := Blk.new _ _ _
  have HB := Lib.hid hB
  clear hB
  by_cases hbig : 60000 < l.length
  · go_enter Try.func39, Try.ntmps39
    go_wp2_with (have hB := HB.out; (go_at_call 28; refine (fault_any _ _ _).mono ?_; rintro e w' ⟨rfl, hb'⟩; have hB' := (by first | exact hB.belowS hb' | exact (hB.alloc _).belowS hb' : Blk w' w.heap.size 24 #[.int .i64 0, .int .i64 0]); obtain ⟨hc', hf', hz'⟩ := hB'.rules))
    refine ret_blk Try.results39 rfl ((hB'.set_ 0 (.int .i64 ((2, -1) : Int × Int).1)).set_ 1 (.int .i64 ((2, -1) : Int × Int).2)) _ Try.underlying24 rfl (by kernel_rfl) rfl ⟨by simp [catchesFault, hbig], ?_⟩
    exact ((((Below.refl _ _).alloc (Nat.le_refl _) _).trans (hb'.mono (by simp))).setCell (Nat.le_refl _) _).setCell (Nat.le_refl _) _
  · go_enter Try.func39, Try.ntmps39
    go_wp2
    go_loopw [11] (fun i wr => ∃ (k : Nat), k ≤ l.length ∧ i = .int .i64 k ∧ catchesFault l = cfGo k (l.drop k) ∧ Below w.heap.size w wr ∧ Blk wr w.heap.size 24 #[.int .i64 0, .int .i64 0]) (fun i _ => l.length - (intOf i).toNat)
    case atStart => exact ⟨0, Nat.zero_le _, rfl, by simp [catchesFault, hbig], (Below.refl _ _).alloc (Nat.le_refl _) _, HB.out⟩
    case round =>
      clear HB
      obtain ⟨k, hk, rfl, he, hb0, hB⟩ := hrel
      have He := Lib.hid he
      clear he
      obtain ⟨hr, hf, hsz⟩ := hB.rules
      by_cases hlt : k < l.length
      · obtain ⟨b, off, rfl, had, h1, h2, h3, h4⟩ := (hm.keepB hb0).catch_ hlt
        by_cases hok : okC l[k]
        · have Hn := Lib.hid hok
          obtain ⟨o1, o2, o3, o4, o5, o6, o7⟩ := hok
          go_wp2_with (first | (go_at_call 33; first | ((with_reducible refine (between_yes _ _ _ _ (by omega) (by omega)).mono ?_); rintro e w' ⟨rfl, rfl⟩) | ((with_reducible refine (between_no _ _ _ _ (by omega)).mono ?_); rintro e w' ⟨rfl, rfl⟩)) | (go_at_call 28; refine (fault_any _ _ _).mono ?_; rintro e w' ⟨rfl, hb'⟩; have hB' := (by first | exact hB.belowS hb' | exact (hB.alloc _).belowS hb' : Blk w' w.heap.size 24 #[.int .i64 0, .int .i64 0]); obtain ⟨hc', hf', hz'⟩ := hB'.rules))
          go_roundw
          case rel => exact ⟨k + 1, by omega, by go_num, by rw [He.out, drop_cons hlt, cf_ok Hn.out], hb0.alloc hb0.size _, hB.alloc _⟩
          case measure => simp [intOf]; omega
        · have Hn := Lib.hid hok
          clear hok
          by_cases q1 : l[k].1 < 0
          · go_wp2_with (first | (go_at_call 33; first | ((with_reducible refine (between_yes _ _ _ _ (by omega) (by omega)).mono ?_); rintro e w' ⟨rfl, rfl⟩) | ((with_reducible refine (between_no _ _ _ _ (by omega)).mono ?_); rintro e w' ⟨rfl, rfl⟩)) | (go_at_call 28; refine (fault_any _ _ _).mono ?_; rintro e w' ⟨rfl, hb'⟩; have hB' := (by first | exact hB.belowS hb' | exact (hB.alloc _).belowS hb' : Blk w' w.heap.size 24 #[.int .i64 0, .int .i64 0]); obtain ⟨hc', hf', hz'⟩ := hB'.rules))
            refine ret_blk Try.results39 rfl ((hB'.set_ 0 (.int .i64 ((4, (k : Int)) : Int × Int).1)).set_ 1 (.int .i64 ((4, (k : Int)) : Int × Int).2)) _ Try.underlying24 rfl (by kernel_rfl) rfl ⟨(by rw [He.out, drop_cons hlt, cf_bad Hn.out]; rfl), ?_⟩
            exact ((below_then (hb0.alloc hb0.size _) hb' (by simp; omega)).setCell (Nat.le_refl _) _).setCell (Nat.le_refl _) _
          by_cases q2 : l[k].2.1 ≤ l[k].1
          · go_wp2_with (first | (go_at_call 33; first | ((with_reducible refine (between_yes _ _ _ _ (by omega) (by omega)).mono ?_); rintro e w' ⟨rfl, rfl⟩) | ((with_reducible refine (between_no _ _ _ _ (by omega)).mono ?_); rintro e w' ⟨rfl, rfl⟩)) | (go_at_call 28; refine (fault_any _ _ _).mono ?_; rintro e w' ⟨rfl, hb'⟩; have hB' := (by first | exact hB.belowS hb' | exact (hB.alloc _).belowS hb' : Blk w' w.heap.size 24 #[.int .i64 0, .int .i64 0]); obtain ⟨hc', hf', hz'⟩ := hB'.rules))
            refine ret_blk Try.results39 rfl ((hB'.set_ 0 (.int .i64 ((4, (k : Int)) : Int × Int).1)).set_ 1 (.int .i64 ((4, (k : Int)) : Int × Int).2)) _ Try.underlying24 rfl (by kernel_rfl) rfl ⟨(by rw [He.out, drop_cons hlt, cf_bad Hn.out]; rfl), ?_⟩
            exact ((below_then (hb0.alloc hb0.size _) hb' (by simp; omega)).setCell (Nat.le_refl _) _).setCell (Nat.le_refl _) _
          by_cases q3 : 60000 < l[k].2.1
          · go_wp2_with (first | (go_at_call 33; first | ((with_reducible refine (between_yes _ _ _ _ (by omega) (by omega)).mono ?_); rintro e w' ⟨rfl, rfl⟩) | ((with_reducible refine (between_no _ _ _ _ (by omega)).mono ?_); rintro e w' ⟨rfl, rfl⟩)) | (go_at_call 28; refine (fault_any _ _ _).mono ?_; rintro e w' ⟨rfl, hb'⟩; have hB' := (by first | exact hB.belowS hb' | exact (hB.alloc _).belowS hb' : Blk w' w.heap.size 24 #[.int .i64 0, .int .i64 0]); obtain ⟨hc', hf', hz'⟩ := hB'.rules))
            refine ret_blk Try.results39 rfl ((hB'.set_ 0 (.int .i64 ((4, (k : Int)) : Int × Int).1)).set_ 1 (.int .i64 ((4, (k : Int)) : Int × Int).2)) _ Try.underlying24 rfl (by kernel_rfl) rfl ⟨(by rw [He.out, drop_cons hlt, cf_bad Hn.out]; rfl), ?_⟩
            exact ((below_then (hb0.alloc hb0.size _) hb' (by simp; omega)).setCell (Nat.le_refl _) _).setCell (Nat.le_refl _) _
          by_cases q4 : l[k].2.2.1 < 0
          · go_wp2_with (first | (go_at_call 33; first | ((with_reducible refine (between_yes _ _ _ _ (by omega) (by omega)).mono ?_); rintro e w' ⟨rfl, rfl⟩) | ((with_reducible refine (between_no _ _ _ _ (by omega)).mono ?_); rintro e w' ⟨rfl, rfl⟩)) | (go_at_call 28; refine (fault_any _ _ _).mono ?_; rintro e w' ⟨rfl, hb'⟩; have hB' := (by first | exact hB.belowS hb' | exact (hB.alloc _).belowS hb' : Blk w' w.heap.size 24 #[.int .i64 0, .int .i64 0]); obtain ⟨hc', hf', hz'⟩ := hB'.rules))
            refine ret_blk Try.results39 rfl ((hB'.set_ 0 (.int .i64 ((4, (k : Int)) : Int × Int).1)).set_ 1 (.int .i64 ((4, (k : Int)) : Int × Int).2)) _ Try.underlying24 rfl (by kernel_rfl) rfl ⟨(by rw [He.out, drop_cons hlt, cf_bad Hn.out]; rfl), ?_⟩
            exact ((below_then (hb0.alloc hb0.size _) hb' (by simp; omega)).setCell (Nat.le_refl _) _).setCell (Nat.le_refl _) _
          by_cases q5 : 59999 < l[k].2.2.1
          · go_wp2_with (first | (go_at_call 33; first | ((with_reducible refine (between_yes _ _ _ _ (by omega) (by omega)).mono ?_); rintro e w' ⟨rfl, rfl⟩) | ((with_reducible refine (between_no _ _ _ _ (by omega)).mono ?_); rintro e w' ⟨rfl, rfl⟩)) | (go_at_call 28; refine (fault_any _ _ _).mono ?_; rintro e w' ⟨rfl, hb'⟩; have hB' := (by first | exact hB.belowS hb' | exact (hB.alloc _).belowS hb' : Blk w' w.heap.size 24 #[.int .i64 0, .int .i64 0]); obtain ⟨hc', hf', hz'⟩ := hB'.rules))
            refine ret_blk Try.results39 rfl ((hB'.set_ 0 (.int .i64 ((4, (k : Int)) : Int × Int).1)).set_ 1 (.int .i64 ((4, (k : Int)) : Int × Int).2)) _ Try.underlying24 rfl (by kernel_rfl) rfl ⟨(by rw [He.out, drop_cons hlt, cf_bad Hn.out]; rfl), ?_⟩
            exact ((below_then (hb0.alloc hb0.size _) hb' (by simp; omega)).setCell (Nat.le_refl _) _).setCell (Nat.le_refl _) _
          by_cases q6 : l[k].2.2.2 < 0
          · go_wp2_with (first | (go_at_call 33; first | ((with_reducible refine (between_yes _ _ _ _ (by omega) (by omega)).mono ?_); rintro e w' ⟨rfl, rfl⟩) | ((with_reducible refine (between_no _ _ _ _ (by omega)).mono ?_); rintro e w' ⟨rfl, rfl⟩)) | (go_at_call 28; refine (fault_any _ _ _).mono ?_; rintro e w' ⟨rfl, hb'⟩; have hB' := (by first | exact hB.belowS hb' | exact (hB.alloc _).belowS hb' : Blk w' w.heap.size 24 #[.int .i64 0, .int .i64 0]); obtain ⟨hc', hf', hz'⟩ := hB'.rules))
            refine ret_blk Try.results39 rfl ((hB'.set_ 0 (.int .i64 ((4, (k : Int)) : Int × Int).1)).set_ 1 (.int .i64 ((4, (k : Int)) : Int × Int).2)) _ Try.underlying24 rfl (by kernel_rfl) rfl ⟨(by rw [He.out, drop_cons hlt, cf_bad Hn.out]; rfl), ?_⟩
            exact ((below_then (hb0.alloc hb0.size _) hb' (by simp; omega)).setCell (Nat.le_refl _) _).setCell (Nat.le_refl _) _
          have q7 : 5000 < l[k].2.2.2 := by
            have := Hn.out
            unfold okC at this
            omega
          go_wp2_with (first | (go_at_call 33; first | ((with_reducible refine (between_yes _ _ _ _ (by omega) (by omega)).mono ?_); rintro e w' ⟨rfl, rfl⟩) | ((with_reducible refine (between_no _ _ _ _ (by omega)).mono ?_); rintro e w' ⟨rfl, rfl⟩)) | (go_at_call 28; refine (fault_any _ _ _).mono ?_; rintro e w' ⟨rfl, hb'⟩; have hB' := (by first | exact hB.belowS hb' | exact (hB.alloc _).belowS hb' : Blk w' w.heap.size 24 #[.int .i64 0, .int .i64 0]); obtain ⟨hc', hf', hz'⟩ := hB'.rules))
          refine ret_blk Try.results39 rfl ((hB'.set_ 0 (.int .i64 ((4, (k : Int)) : Int × Int).1)).set_ 1 (.int .i64 ((4, (k : Int)) : Int × Int).2)) _ Try.underlying24 rfl (by kernel_rfl) rfl ⟨(by rw [He.out, drop_cons hlt, cf_bad Hn.out]; rfl), ?_⟩
          exact ((below_then (hb0.alloc hb0.size _) hb' (by simp; omega)).setCell (Nat.le_refl _) _).setCell (Nat.le_refl _) _
      · go_wp2
        refine ret_blk Try.results39 rfl ((hB.set_ 0 (.int .i64 ((0, 0) : Int × Int).1)).set_ 1 (.int .i64 ((0, 0) : Int × Int).2)) _ Try.underlying24 rfl (by kernel_rfl) rfl ⟨(by rw [He.out, List.drop_of_length_le (by omega)]; rfl), ?_⟩
        exact (hb0.setCell (Nat.le_refl _) _).setCell (Nat.le_refl _) _

set_option maxHeartbeats 1000000 in
theorem catchesFault_any (A : Option Addr) (c : Nat) (l : List Catch) (w : World) (hl : l.length ≤ 9223372036854775807) (hm : Row w A (l.flatMap ctc)) :
    Calls Try.prog 19 #[.slice A l.length c] w fun e w' => e = .returned (.agg #[.int .i64 (catchesFault l).1, .int .i64 (catchesFault l).2]) ∧ Below w.heap.size w w' := by
  have hB : Blk (w.alloc (.cells #[.int .i64 0, .int .i64 0] 24)) w.heap.size 24 #[.int .i64 0, .int .i64 0] := Blk.new _ _ _
  have HB := Lib.hid hB
  clear hB
  by_cases hbig : 60000 < l.length
  · go_enter Try.func19, Try.ntmps19
    go_wp2_with (have hB := HB.out; (go_at_call 10; refine (at_any _ _ _).mono ?_; rintro e w' ⟨rfl, hb'⟩; have hB' := (by first | exact hB.belowS hb' | exact (hB.alloc _).belowS hb' : Blk w' w.heap.size 24 #[.int .i64 0, .int .i64 0]); obtain ⟨hc', hf', hz'⟩ := hB'.rules))
    refine ret_blk Try.results19 rfl ((hB'.set_ 0 (.int .i64 ((2, -1) : Int × Int).1)).set_ 1 (.int .i64 ((2, -1) : Int × Int).2)) _ Try.underlying24 rfl (by kernel_rfl) rfl ⟨by simp [catchesFault, hbig], ?_⟩
    exact ((((Below.refl _ _).alloc (Nat.le_refl _) _).trans (hb'.mono (by simp))).setCell (Nat.le_refl _) _).setCell (Nat.le_refl _) _
  · go_enter Try.func19, Try.ntmps19
    go_wp2
    go_loopw [11] (fun i wr => ∃ (k : Nat), k ≤ l.length ∧ i = .int .i64 k ∧ catchesFault l = cfGo k (l.drop k) ∧ Below w.heap.size w wr ∧ Blk wr w.heap.size 24 #[.int .i64 0, .int .i64 0]) (fun i _ => l.length - (intOf i).toNat)
    case atStart => exact ⟨0, Nat.zero_le _, rfl, by simp [catchesFault, hbig], (Below.refl _ _).alloc (Nat.le_refl _) _, HB.out⟩
    case round =>
      clear HB
      obtain ⟨k, hk, rfl, he, hb0, hB⟩ := hrel
      have He := Lib.hid he
      clear he
      obtain ⟨hr, hf, hsz⟩ := hB.rules
      by_cases hlt : k < l.length
      · obtain ⟨b, off, rfl, had, h1, h2, h3, h4⟩ := (hm.keepB hb0).catch_ hlt
        by_cases hok : okC l[k]
        · have Hn := Lib.hid hok
          obtain ⟨o1, o2, o3, o4, o5, o6, o7⟩ := hok
          go_wp2_with (first | (go_at_call 33; first | ((with_reducible refine (between_yes _ _ _ _ (by omega) (by omega)).mono ?_); rintro e w' ⟨rfl, rfl⟩) | ((with_reducible refine (between_no _ _ _ _ (by omega)).mono ?_); rintro e w' ⟨rfl, rfl⟩)) | (go_at_call 10; refine (at_any _ _ _).mono ?_; rintro e w' ⟨rfl, hb'⟩; have hB' := (by first | exact hB.belowS hb' | exact (hB.alloc _).belowS hb' : Blk w' w.heap.size 24 #[.int .i64 0, .int .i64 0]); obtain ⟨hc', hf', hz'⟩ := hB'.rules))
          go_roundw
          case rel => exact ⟨k + 1, by omega, by go_num, by rw [He.out, drop_cons hlt, cf_ok Hn.out], hb0.alloc hb0.size _, hB.alloc _⟩
          case measure => simp [intOf]; omega
        · have Hn := Lib.hid hok
          clear hok
          by_cases q1 : l[k].1 < 0
          · go_wp2_with (first | (go_at_call 33; first | ((with_reducible refine (between_yes _ _ _ _ (by omega) (by omega)).mono ?_); rintro e w' ⟨rfl, rfl⟩) | ((with_reducible refine (between_no _ _ _ _ (by omega)).mono ?_); rintro e w' ⟨rfl, rfl⟩)) | (go_at_call 10; refine (at_any _ _ _).mono ?_; rintro e w' ⟨rfl, hb'⟩; have hB' := (by first | exact hB.belowS hb' | exact (hB.alloc _).belowS hb' : Blk w' w.heap.size 24 #[.int .i64 0, .int .i64 0]); obtain ⟨hc', hf', hz'⟩ := hB'.rules))
            refine ret_blk Try.results19 rfl ((hB'.set_ 0 (.int .i64 ((4, (k : Int)) : Int × Int).1)).set_ 1 (.int .i64 ((4, (k : Int)) : Int × Int).2)) _ Try.underlying24 rfl (by kernel_rfl) rfl ⟨(by rw [He.out, drop_cons hlt, cf_bad Hn.out]; rfl), ?_⟩
            exact ((below_then (hb0.alloc hb0.size _) hb' (by simp; omega)).setCell (Nat.le_refl _) _).setCell (Nat.le_refl _) _
          by_cases q2 : l[k].2.1 ≤ l[k].1
          · go_wp2_with (first | (go_at_call 33; first | ((with_reducible refine (between_yes _ _ _ _ (by omega) (by omega)).mono ?_); rintro e w' ⟨rfl, rfl⟩) | ((with_reducible refine (between_no _ _ _ _ (by omega)).mono ?_); rintro e w' ⟨rfl, rfl⟩)) | (go_at_call 10; refine (at_any _ _ _).mono ?_; rintro e w' ⟨rfl, hb'⟩; have hB' := (by first | exact hB.belowS hb' | exact (hB.alloc _).belowS hb' : Blk w' w.heap.size 24 #[.int .i64 0, .int .i64 0]); obtain ⟨hc', hf', hz'⟩ := hB'.rules))
            refine ret_blk Try.results19 rfl ((hB'.set_ 0 (.int .i64 ((4, (k : Int)) : Int × Int).1)).set_ 1 (.int .i64 ((4, (k : Int)) : Int × Int).2)) _ Try.underlying24 rfl (by kernel_rfl) rfl ⟨(by rw [He.out, drop_cons hlt, cf_bad Hn.out]; rfl), ?_⟩
            exact ((below_then (hb0.alloc hb0.size _) hb' (by simp; omega)).setCell (Nat.le_refl _) _).setCell (Nat.le_refl _) _
          by_cases q3 : 60000 < l[k].2.1
          · go_wp2_with (first | (go_at_call 33; first | ((with_reducible refine (between_yes _ _ _ _ (by omega) (by omega)).mono ?_); rintro e w' ⟨rfl, rfl⟩) | ((with_reducible refine (between_no _ _ _ _ (by omega)).mono ?_); rintro e w' ⟨rfl, rfl⟩)) | (go_at_call 10; refine (at_any _ _ _).mono ?_; rintro e w' ⟨rfl, hb'⟩; have hB' := (by first | exact hB.belowS hb' | exact (hB.alloc _).belowS hb' : Blk w' w.heap.size 24 #[.int .i64 0, .int .i64 0]); obtain ⟨hc', hf', hz'⟩ := hB'.rules))
            refine ret_blk Try.results19 rfl ((hB'.set_ 0 (.int .i64 ((4, (k : Int)) : Int × Int).1)).set_ 1 (.int .i64 ((4, (k : Int)) : Int × Int).2)) _ Try.underlying24 rfl (by kernel_rfl) rfl ⟨(by rw [He.out, drop_cons hlt, cf_bad Hn.out]; rfl), ?_⟩
            exact ((below_then (hb0.alloc hb0.size _) hb' (by simp; omega)).setCell (Nat.le_refl _) _).setCell (Nat.le_refl _) _
          by_cases q4 : l[k].2.2.1 < 0
          · go_wp2_with (first | (go_at_call 33; first | ((with_reducible refine (between_yes _ _ _ _ (by omega) (by omega)).mono ?_); rintro e w' ⟨rfl, rfl⟩) | ((with_reducible refine (between_no _ _ _ _ (by omega)).mono ?_); rintro e w' ⟨rfl, rfl⟩)) | (go_at_call 10; refine (at_any _ _ _).mono ?_; rintro e w' ⟨rfl, hb'⟩; have hB' := (by first | exact hB.belowS hb' | exact (hB.alloc _).belowS hb' : Blk w' w.heap.size 24 #[.int .i64 0, .int .i64 0]); obtain ⟨hc', hf', hz'⟩ := hB'.rules))
            refine ret_blk Try.results19 rfl ((hB'.set_ 0 (.int .i64 ((4, (k : Int)) : Int × Int).1)).set_ 1 (.int .i64 ((4, (k : Int)) : Int × Int).2)) _ Try.underlying24 rfl (by kernel_rfl) rfl ⟨(by rw [He.out, drop_cons hlt, cf_bad Hn.out]; rfl), ?_⟩
            exact ((below_then (hb0.alloc hb0.size _) hb' (by simp; omega)).setCell (Nat.le_refl _) _).setCell (Nat.le_refl _) _
          by_cases q5 : 59999 < l[k].2.2.1
          · go_wp2_with (first | (go_at_call 33; first | ((with_reducible refine (between_yes _ _ _ _ (by omega) (by omega)).mono ?_); rintro e w' ⟨rfl, rfl⟩) | ((with_reducible refine (between_no _ _ _ _ (by omega)).mono ?_); rintro e w' ⟨rfl, rfl⟩)) | (go_at_call 10; refine (at_any _ _ _).mono ?_; rintro e w' ⟨rfl, hb'⟩; have hB' := (by first | exact hB.belowS hb' | exact (hB.alloc _).belowS hb' : Blk w' w.heap.size 24 #[.int .i64 0, .int .i64 0]); obtain ⟨hc', hf', hz'⟩ := hB'.rules))
            refine ret_blk Try.results19 rfl ((hB'.set_ 0 (.int .i64 ((4, (k : Int)) : Int × Int).1)).set_ 1 (.int .i64 ((4, (k : Int)) : Int × Int).2)) _ Try.underlying24 rfl (by kernel_rfl) rfl ⟨(by rw [He.out, drop_cons hlt, cf_bad Hn.out]; rfl), ?_⟩
            exact ((below_then (hb0.alloc hb0.size _) hb' (by simp; omega)).setCell (Nat.le_refl _) _).setCell (Nat.le_refl _) _
          by_cases q6 : l[k].2.2.2 < 0
          · go_wp2_with (first | (go_at_call 33; first | ((with_reducible refine (between_yes _ _ _ _ (by omega) (by omega)).mono ?_); rintro e w' ⟨rfl, rfl⟩) | ((with_reducible refine (between_no _ _ _ _ (by omega)).mono ?_); rintro e w' ⟨rfl, rfl⟩)) | (go_at_call 10; refine (at_any _ _ _).mono ?_; rintro e w' ⟨rfl, hb'⟩; have hB' := (by first | exact hB.belowS hb' | exact (hB.alloc _).belowS hb' : Blk w' w.heap.size 24 #[.int .i64 0, .int .i64 0]); obtain ⟨hc', hf', hz'⟩ := hB'.rules))
            refine ret_blk Try.results19 rfl ((hB'.set_ 0 (.int .i64 ((4, (k : Int)) : Int × Int).1)).set_ 1 (.int .i64 ((4, (k : Int)) : Int × Int).2)) _ Try.underlying24 rfl (by kernel_rfl) rfl ⟨(by rw [He.out, drop_cons hlt, cf_bad Hn.out]; rfl), ?_⟩
            exact ((below_then (hb0.alloc hb0.size _) hb' (by simp; omega)).setCell (Nat.le_refl _) _).setCell (Nat.le_refl _) _
          have q7 : 5000 < l[k].2.2.2 := by
            have := Hn.out
            unfold okC at this
            omega
          go_wp2_with (first | (go_at_call 33; first | ((with_reducible refine (between_yes _ _ _ _ (by omega) (by omega)).mono ?_); rintro e w' ⟨rfl, rfl⟩) | ((with_reducible refine (between_no _ _ _ _ (by omega)).mono ?_); rintro e w' ⟨rfl, rfl⟩)) | (go_at_call 10; refine (at_any _ _ _).mono ?_; rintro e w' ⟨rfl, hb'⟩; have hB' := (by first | exact hB.belowS hb' | exact (hB.alloc _).belowS hb' : Blk w' w.heap.size 24 #[.int .i64 0, .int .i64 0]); obtain ⟨hc', hf', hz'⟩ := hB'.rules))
          refine ret_blk Try.results19 rfl ((hB'.set_ 0 (.int .i64 ((4, (k : Int)) : Int × Int).1)).set_ 1 (.int .i64 ((4, (k : Int)) : Int × Int).2)) _ Try.underlying24 rfl (by kernel_rfl) rfl ⟨(by rw [He.out, drop_cons hlt, cf_bad Hn.out]; rfl), ?_⟩
          exact ((below_then (hb0.alloc hb0.size _) hb' (by simp; omega)).setCell (Nat.le_refl _) _).setCell (Nat.le_refl _) _
      · go_wp2
        refine ret_blk Try.results19 rfl ((hB.set_ 0 (.int .i64 ((0, 0) : Int × Int).1)).set_ 1 (.int .i64 ((0, 0) : Int × Int).2)) _ Try.underlying24 rfl (by kernel_rfl) rfl ⟨(by rw [He.out, List.drop_of_length_le (by omega)]; rfl), ?_⟩
        exact (hb0.setCell (Nat.le_refl _) _).setCell (Nat.le_refl _) _

/-- the first catch that contains an instruction -/
def findGo (a : Int) : Nat → List Catch → Int
  | _, [] => -1
  | i, c :: l => if c.1 ≤ a ∧ a < c.2.1 then (i : Int) else findGo a (i + 1) l

set_option maxHeartbeats 400000 in
theorem catchAt_any (A : Option Addr) (c : Nat) (l : List Catch) (a : Int) (w : World) (hl : l.length ≤ 9223372036854775807) (hm : Row w A (l.flatMap ctc)) :
    Calls Try.prog 24 #[.slice A l.length c, .int .i64 a] w fun e w' => e = .returned (.int .i64 (findGo a 0 l)) ∧ Below w.heap.size w w' := by
  go_enter Try.func24, Try.ntmps24
  go_wp2_with fail
  go_loopw [9] (fun i wr => ∃ (k : Nat), k ≤ l.length ∧ i = .int .i64 k ∧ findGo a 0 l = findGo a k (l.drop k) ∧ Below w.heap.size w wr) (fun i _ => l.length - (intOf i).toNat)
  case atStart => exact ⟨0, Nat.zero_le _, rfl, rfl, Below.refl _ _⟩
  case round =>
    obtain ⟨k, hk, rfl, he, hb0⟩ := hrel
    have He := Lib.hid he
    clear he
    by_cases hlt : k < l.length
    · obtain ⟨b, off, rfl, had, h1, h2, h3, h4⟩ := (hm.keepB hb0).catch_ hlt
      by_cases hin : l[k].1 ≤ a ∧ a < l[k].2.1
      · have Hin := Lib.hid hin
        obtain ⟨i1, i2⟩ := hin
        go_wp2_with fail
        go_ret
        exact ⟨ret_int (by rw [He.out, drop_cons hlt, findGo, if_pos Hin.out]), hb0.alloc hb0.size _⟩
      · have Hin := Lib.hid hin
        clear hin
        by_cases i1 : l[k].1 ≤ a
        · have i2 : l[k].2.1 ≤ a := by have := Hin.out; omega
          go_wp2_with fail
          go_roundw
          case rel => exact ⟨k + 1, by omega, by go_num, by rw [He.out, drop_cons hlt, findGo, if_neg Hin.out], hb0.alloc hb0.size _⟩
          case measure => simp [intOf]; omega
        · have i2 : a < l[k].1 := by omega
          go_wp2_with fail
          go_roundw
          case rel => exact ⟨k + 1, by omega, by go_num, by rw [He.out, drop_cons hlt, findGo, if_neg Hin.out], hb0.alloc hb0.size _⟩
          case measure => simp [intOf]; omega
    · go_wp2_with fail
      go_ret
      exact ⟨ret_int (by rw [He.out, List.drop_of_length_le (by omega), findGo]), hb0⟩

end Go.Proofs.Ytionmlkefheocaa
