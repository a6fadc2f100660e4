/- Walks: the reference's check of a table of lines; equality of slices. Nothing is claimed here. -/
import Derived.Test.YtionmlkefheocaaTabB
import Derived.Test.YtionmlkefheocaaTabC
namespace Go.Proofs.Ytionmlkefheocaa
open Go.RowKit
set_option linter.unusedVariables false


theorem btw_yes {n a b : Int} (h1 : a ≤ n) (h2 : n ≤ b) : btw n a b = true := by simp [btw, h1, h2]
theorem btw_no {n a b : Int} (h : n < a ∨ b < n) : btw n a b = false := by
  rcases h with h | h
  · simp only [btw]; rw [decide_eq_false (by omega)]; rfl
  · simp only [btw]; rw [decide_eq_false (p := n ≤ b) (by omega)]; simp
theorem between_yes (n lo hi : Int) (w : World) (h1 : lo ≤ n) (h2 : n ≤ hi) :
    Calls Try.prog 33 #[.int .i64 n, .int .i64 lo, .int .i64 hi] w fun e w' => e = .returned (.bool true) ∧ w = w' := by
  have := between_any n lo hi w
  rwa [btw_yes h1 h2] at this
theorem between_no (n lo hi : Int) (w : World) (h : n < lo ∨ hi < n) :
    Calls Try.prog 33 #[.int .i64 n, .int .i64 lo, .int .i64 hi] w fun e w' => e = .returned (.bool false) ∧ w = w' := by
  have := between_any n lo hi w
  rwa [btw_no h] at this


set_option maxHeartbeats 800000 in
theorem marksFault_any (A : Option Addr) (c : Nat) (l : List Mark) (w : World) (hl : l.length ≤ 9223372036854775807) (hm : Row w A (l.flatMap mkc)) :
    Calls Try.prog 9 #[.slice A l.length c] w fun e w' => e = .returned (aggF (marksFault l)) ∧ Below w.heap.size w w' := by
  have hB : Blk (w.alloc (.cells #[.int .i64 0, .int .i64 0] 24)) w.heap.size 24 #[.int .i64 0, .int .i64 0] := Blk.new _ _ _
  have HB := Lib.hid hB
  clear hB
  by_cases hbig : 60000 < l.length
  · go_enter Try.func9, Try.ntmps9
    go_wp2_with (have hB := HB.out; (go_at_call 10; refine (at_any _ _ _).mono ?_; rintro e w' ⟨rfl, hb'⟩; have hB' := (by first | exact hB.belowS hb' | exact (hB.alloc _).belowS hb' | exact ((hB.alloc _).drewN _).belowS hb' : Blk w' w.heap.size 24 #[.int .i64 0, .int .i64 0]); obtain ⟨hc', hf', hz'⟩ := hB'.rules))
    refine ret_blk Try.results9 rfl ((hB'.set_ 0 (.int .i64 ((2, -1) : Int × Int).1)).set_ 1 (.int .i64 ((2, -1) : Int × Int).2)) _ Try.underlying24 rfl (by kernel_rfl) rfl ⟨by simp [marksFault, hbig, aggF], ?_⟩
    exact ((((Below.refl _ _).alloc (Nat.le_refl _) _).trans (hb'.mono (by simp))).setCell (Nat.le_refl _) _).setCell (Nat.le_refl _) _
  · go_enter Try.func9, Try.ntmps9
    go_wp2
    go_loopw [3, 12] (fun v i wr => ∃ (k : Nat) (p : Int), k ≤ l.length ∧ i = .int .i64 k ∧ v = .int .i64 p ∧ marksFault l = mfGo k p (l.drop k) ∧ (k = 0 → p = -1) ∧ Below w.heap.size w wr ∧ Blk wr w.heap.size 24 #[.int .i64 0, .int .i64 0]) (fun _ i _ => l.length - (intOf i).toNat)
    case atStart => exact ⟨0, -1, Nat.zero_le _, rfl, rfl, by simp [marksFault, hbig], fun _ => rfl, (Below.refl _ _).alloc (Nat.le_refl _) _, HB.out⟩
    case round =>
      clear HB
      obtain ⟨k, p, hk, rfl, rfl, he, hp, hb0, hB⟩ := hrel
      have He := Lib.hid he
      have Hp := Lib.hid hp
      clear he hp
      obtain ⟨hr, hf, hsz⟩ := hB.rules
      by_cases hlt : k < l.length
      · obtain ⟨b, off, rfl, had, h1, h2⟩ := (hm.keepB hb0).mark hlt
        by_cases hbad : l[k].1 < 0 ∨ 59999 < l[k].1
        · go_wp2_with (first | (go_at_call 33; first | ((with_reducible refine (between_yes _ _ _ _ (by omega) (by omega)).mono ?_); rintro e w' ⟨rfl, rfl⟩) | ((with_reducible refine (between_no _ _ _ _ (by omega)).mono ?_); rintro e w' ⟨rfl, rfl⟩)) | (go_at_call 10; refine (at_any _ _ _).mono ?_; rintro e w' ⟨rfl, hb'⟩; have hB' := (by first | exact hB.belowS hb' | exact (hB.alloc _).belowS hb' | exact ((hB.alloc _).drewN _).belowS hb' : Blk w' w.heap.size 24 #[.int .i64 0, .int .i64 0]); obtain ⟨hc', hf', hz'⟩ := hB'.rules))
          refine ret_blk Try.results9 rfl ((hB'.set_ 0 (.int .i64 ((4, (k : Int)) : Int × Int).1)).set_ 1 (.int .i64 ((4, (k : Int)) : Int × Int).2)) _ Try.underlying24 rfl (by kernel_rfl) rfl ⟨(by rw [He.out, drop_cons hlt, mf_bad (by omega)]; rfl), ?_⟩
          exact ((below_then (hb0.alloc hb0.size _) hb' (by simp; omega)).setCell (Nat.le_refl _) _).setCell (Nat.le_refl _) _
        · have o1 : 0 ≤ l[k].1 := by omega
          have o2 : l[k].1 ≤ 59999 := by omega
          clear hbad
          by_cases hbad2 : l[k].2 < 1 ∨ 16000 < l[k].2
          · go_wp2_with (first | (go_at_call 33; first | ((with_reducible refine (between_yes _ _ _ _ (by omega) (by omega)).mono ?_); rintro e w' ⟨rfl, rfl⟩) | ((with_reducible refine (between_no _ _ _ _ (by omega)).mono ?_); rintro e w' ⟨rfl, rfl⟩)) | (go_at_call 10; refine (at_any _ _ _).mono ?_; rintro e w' ⟨rfl, hb'⟩; have hB' := (by first | exact hB.belowS hb' | exact (hB.alloc _).belowS hb' | exact ((hB.alloc _).drewN _).belowS hb' : Blk w' w.heap.size 24 #[.int .i64 0, .int .i64 0]); obtain ⟨hc', hf', hz'⟩ := hB'.rules))
            refine ret_blk Try.results9 rfl ((hB'.set_ 0 (.int .i64 ((4, (k : Int)) : Int × Int).1)).set_ 1 (.int .i64 ((4, (k : Int)) : Int × Int).2)) _ Try.underlying24 rfl (by kernel_rfl) rfl ⟨(by rw [He.out, drop_cons hlt, mf_bad (by omega)]; rfl), ?_⟩
            exact ((below_then (hb0.alloc hb0.size _) hb' (by simp; omega)).setCell (Nat.le_refl _) _).setCell (Nat.le_refl _) _
          · have o3 : 1 ≤ l[k].2 := by omega
            have o4 : l[k].2 ≤ 16000 := by omega
            clear hbad2
            have Hmf := Lib.hid (mf_ok (i := k) (p := p) (l := l.drop (k + 1)) ⟨o1, o2, o3, o4⟩)
            by_cases hord : (k = 0 ∧ l[k].1 ≠ 0) ∨ (0 < k ∧ l[k].1 ≤ p)
            · have Hr := Lib.hid (show mfGo k p (l.drop k) = (11, (k : Int)) by rw [drop_cons hlt, Hmf.out, if_pos hord])
              by_cases hk0 : k = 0
              · obtain rfl := Hp.out hk0
                have hgt : 0 < l[k].1 := by omega
                have hz : ((k : Int) == 0) = true := by simp [hk0]
                clear hord hk0
                go_wp2_with (first | (go_at_call 33; first | ((with_reducible refine (between_yes _ _ _ _ (by omega) (by omega)).mono ?_); rintro e w' ⟨rfl, rfl⟩) | ((with_reducible refine (between_no _ _ _ _ (by omega)).mono ?_); rintro e w' ⟨rfl, rfl⟩)) | (go_at_call 10; refine (at_any _ _ _).mono ?_; rintro e w' ⟨rfl, hb'⟩; have hB' := (by first | exact hB.belowS hb' | exact (hB.alloc _).belowS hb' | exact ((hB.alloc _).drewN _).belowS hb' : Blk w' w.heap.size 24 #[.int .i64 0, .int .i64 0]); obtain ⟨hc', hf', hz'⟩ := hB'.rules))
                refine ret_blk Try.results9 rfl ((hB'.set_ 0 (.int .i64 ((11, (k : Int)) : Int × Int).1)).set_ 1 (.int .i64 ((11, (k : Int)) : Int × Int).2)) _ Try.underlying24 rfl (by kernel_rfl) rfl ⟨(by rw [He.out, Hr.out]; rfl), ?_⟩
                exact ((below_then (hb0.alloc hb0.size _) hb' (by simp; omega)).setCell (Nat.le_refl _) _).setCell (Nat.le_refl _) _
              · have hle : l[k].1 ≤ p := by omega
                clear hord
                go_wp2_with (first | (go_at_call 33; first | ((with_reducible refine (between_yes _ _ _ _ (by omega) (by omega)).mono ?_); rintro e w' ⟨rfl, rfl⟩) | ((with_reducible refine (between_no _ _ _ _ (by omega)).mono ?_); rintro e w' ⟨rfl, rfl⟩)) | (go_at_call 10; refine (at_any _ _ _).mono ?_; rintro e w' ⟨rfl, hb'⟩; have hB' := (by first | exact hB.belowS hb' | exact (hB.alloc _).belowS hb' | exact ((hB.alloc _).drewN _).belowS hb' : Blk w' w.heap.size 24 #[.int .i64 0, .int .i64 0]); obtain ⟨hc', hf', hz'⟩ := hB'.rules))
                refine ret_blk Try.results9 rfl ((hB'.set_ 0 (.int .i64 ((11, (k : Int)) : Int × Int).1)).set_ 1 (.int .i64 ((11, (k : Int)) : Int × Int).2)) _ Try.underlying24 rfl (by kernel_rfl) rfl ⟨(by rw [He.out, Hr.out]; rfl), ?_⟩
                exact ((below_then (hb0.alloc hb0.size _) hb' (by simp; omega)).setCell (Nat.le_refl _) _).setCell (Nat.le_refl _) _
            · have Hr := Lib.hid (show mfGo k p (l.drop k) = mfGo (k + 1) l[k].1 (l.drop (k + 1)) by rw [drop_cons hlt, Hmf.out, if_neg hord])
              have hgt : p < l[k].1 := by
                by_cases hk0 : k = 0
                · have := Hp.out hk0; omega
                · omega
              have hz : k = 0 → l[k].1 ≤ 0 := by intro hk0; omega
              have Hz := Lib.hid hz
              clear hord hz
              by_cases hk0 : k = 0
              · have hz : ((k : Int) == 0) = true := by simp [hk0]
                have h0 := Hz.out hk0
                clear hk0
                go_wp2_with (first | (go_at_call 33; first | ((with_reducible refine (between_yes _ _ _ _ (by omega) (by omega)).mono ?_); rintro e w' ⟨rfl, rfl⟩) | ((with_reducible refine (between_no _ _ _ _ (by omega)).mono ?_); rintro e w' ⟨rfl, rfl⟩)) | (go_at_call 10; refine (at_any _ _ _).mono ?_; rintro e w' ⟨rfl, hb'⟩; have hB' := (by first | exact hB.belowS hb' | exact (hB.alloc _).belowS hb' | exact ((hB.alloc _).drewN _).belowS hb' : Blk w' w.heap.size 24 #[.int .i64 0, .int .i64 0]); obtain ⟨hc', hf', hz'⟩ := hB'.rules))
                go_roundw
                case rel => exact ⟨k + 1, l[k].1, by omega, by go_num, rfl, by rw [He.out, Hr.out], by omega, hb0.alloc hb0.size _, hB.alloc _⟩
                case measure => simp [intOf]; omega
              · have hz : ((k : Int) == 0) = false := by simp [hk0]
                clear hk0
                go_wp2_with (first | (go_at_call 33; first | ((with_reducible refine (between_yes _ _ _ _ (by omega) (by omega)).mono ?_); rintro e w' ⟨rfl, rfl⟩) | ((with_reducible refine (between_no _ _ _ _ (by omega)).mono ?_); rintro e w' ⟨rfl, rfl⟩)) | (go_at_call 10; refine (at_any _ _ _).mono ?_; rintro e w' ⟨rfl, hb'⟩; have hB' := (by first | exact hB.belowS hb' | exact (hB.alloc _).belowS hb' | exact ((hB.alloc _).drewN _).belowS hb' : Blk w' w.heap.size 24 #[.int .i64 0, .int .i64 0]); obtain ⟨hc', hf', hz'⟩ := hB'.rules))
                go_roundw
                case rel => exact ⟨k + 1, l[k].1, by omega, by go_num, rfl, by rw [He.out, Hr.out], by omega, hb0.alloc hb0.size _, hB.alloc _⟩
                case measure => simp [intOf]; omega
      · go_wp2
        refine ret_blk Try.results9 rfl ((hB.set_ 0 (.int .i64 ((0, 0) : Int × Int).1)).set_ 1 (.int .i64 ((0, 0) : Int × Int).2)) _ Try.underlying24 rfl (by kernel_rfl) rfl ⟨(by rw [He.out, List.drop_of_length_le (by omega)]; rfl), ?_⟩
        exact (hb0.setCell (Nat.le_refl _) _).setCell (Nat.le_refl _) _

theorem Row.byte {w : World} {A : Option Addr} {l : List Int} (h : Row w A (bcs l)) {k : Nat} (hk : k < l.length) :
    ∃ b off, A = some ⟨b, off, none⟩ ∧ b < w.heap.size ∧ w.cell? ⟨b, off + k, none⟩ = some (.int .u8 l[k]) := by
  obtain ⟨b, off, e, hlt, hc⟩ := h.at_ (k := k) (by simpa [bcs] using hk)
  exact ⟨b, off, e, hlt, hc k _ (by simp [bcs, hk])⟩

theorem list_eq_step {α : Type} {l m : List α} {k : Nat} (hl : k < l.length) (hm : k < m.length) (h : l.take k = m.take k) (he : l[k] = m[k]) : l.take (k + 1) = m.take (k + 1) := by
  rw [List.take_succ_eq_append_getElem hl, List.take_succ_eq_append_getElem hm, h, he]
theorem list_ne_at {α : Type} {l m : List α} {k : Nat} (hl : k < l.length) (hm : k < m.length) (he : l[k] ≠ m[k]) : l ≠ m := by
  rintro rfl
  exact he rfl

set_option maxHeartbeats 400000 in
theorem eqBytes_any (A B : Option Addr) (c d : Nat) (l m : List Int) (w : World) (hl : l.length ≤ 9223372036854775807) (hm : m.length ≤ 9223372036854775807) (ha : Row w A (bcs l)) (hb : Row w B (bcs m)) :
    Calls Try.prog 12 #[.slice A l.length c, .slice B m.length d] w fun e w' => e = .returned (.bool (decide (l = m))) ∧ Below w.heap.size w w' := by
  by_cases hlen : l.length = m.length
  · have h0 : ((l.length : Int) != m.length) = false := by simp [hlen]
    have Hlen := Lib.hid hlen
    clear hlen
    go_enter Try.func12, Try.ntmps12
    go_wp2_with fail
    go_loopw [13] (fun i wr => ∃ k : Nat, k ≤ l.length ∧ i = .int .i64 k ∧ l.take k = m.take k ∧ Below w.heap.size w wr) (fun i _ => l.length - (intOf i).toNat)
    case atStart => exact ⟨0, Nat.zero_le _, rfl, by simp, Below.refl _ _⟩
    case round =>
      obtain ⟨k, hk, rfl, ht, hb0⟩ := hrel
      have Ht := Lib.hid ht
      clear ht
      by_cases hlt : k < l.length
      · have hlt' : k < m.length := by rw [← Hlen.out]; exact hlt
        obtain ⟨b, off, rfl, had, h1⟩ := (ha.keepB hb0).byte hlt
        obtain ⟨b', off', rfl, had', h2⟩ := (hb.keepB hb0).byte hlt'
        have i1 : (k : Int) < l.length := by omega
        have i2 : (k : Int) < m.length := by omega
        by_cases he : l[k] = m[k]
        · have e1 : (l[k] != m[k]) = false := by simp [he]
          have He := Lib.hid he
          clear he
          go_wp2_with fail
          go_quiet (fail)
          go_wp2_with fail
          go_roundw
          case rel => exact ⟨k + 1, by omega, by go_num, list_eq_step hlt hlt' Ht.out He.out, below_drewN hb0 _⟩
          case measure => simp [intOf]; omega
        · have e1 : (l[k] != m[k]) = true := by simp [he]
          have He := Lib.hid he
          clear he
          go_wp2_with fail
          go_quiet (fail)
          go_wp2_with fail
          go_ret
          exact ⟨ret_bool (by simp [list_ne_at hlt hlt' He.out]), below_drewN hb0 _⟩
      · go_wp2_with fail
        go_ret
        have e : l = m := by
          have h := Ht.out
          rwa [List.take_of_length_le (by omega), List.take_of_length_le (by have := Hlen.out; omega)] at h
        exact ⟨ret_bool (by simp [e]), hb0⟩
  · have h0 : ((l.length : Int) != m.length) = true := by
      rw [bne_iff_ne]; omega
    have Hlen := Lib.hid hlen
    clear hlen
    go_enter Try.func12, Try.ntmps12
    go_wp2_with fail
    go_ret
    refine ⟨ret_bool ?_, Below.refl _ _⟩
    rw [decide_eq_false]
    rintro rfl
    exact Hlen.out rfl

end Go.Proofs.Ytionmlkefheocaa
