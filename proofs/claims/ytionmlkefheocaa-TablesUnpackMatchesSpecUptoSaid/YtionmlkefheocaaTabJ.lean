/- Walks: tables of lines are compared and shortened, and a line is found. Nothing is claimed here. -/
import Derived.Test.YtionmlkefheocaaTabI
namespace Go.Proofs.Ytionmlkefheocaa
open Go.RowKit
set_option linter.unusedVariables false

set_option maxHeartbeats 400000 in
theorem eqMarks_any (A B : Option Addr) (c d : Nat) (l m : List Mark) (w : World) (hl : l.length ≤ 9223372036854775807) (hm : m.length ≤ 9223372036854775807) (ha : Row w A (l.flatMap mkc)) (hb : Row w B (m.flatMap mkc)) :
    Calls Try.prog 15 #[.slice A l.length c, .slice B m.length d] w fun e w' => e = .returned (.bool (decide (l = m))) ∧ Below w.heap.size w w' := by
  by_cases hlen : l.length = m.length
  · have h0 : ((l.length : Int) != m.length) = false := by simp [hlen]
    have Hlen := Lib.hid hlen
    clear hlen
    go_enter Try.func15, Try.ntmps15
    go_wp2_with fail
    go_loopw [13] (fun i wr => ∃ k : Nat, k ≤ l.length ∧ i = .int .i64 k ∧ l.take k = m.take k ∧ Below w.heap.size w wr) (fun i _ => l.length - (intOf i).toNat)
    case atStart => exact ⟨0, Nat.zero_le _, rfl, by simp, Below.refl _ _⟩
    case round =>
      obtain ⟨k, hk, rfl, ht, hb0⟩ := hrel
      have Ht := Lib.hid ht
      clear ht
      by_cases hlt : k < l.length
      · have hlt' : k < m.length := by rw [← Hlen.out]; exact hlt
        obtain ⟨b, off, rfl, had, h1, h2⟩ := (ha.keepB hb0).mark hlt
        obtain ⟨b', off', rfl, had', h3, h4⟩ := (hb.keepB hb0).mark hlt'
        have i1 : (k : Int) < l.length := by omega
        have i2 : (k : Int) < m.length := by omega
        by_cases he : l[k] = m[k]
        · have e1 : (l[k].1 == m[k].1) = true := by simp [he]
          have e2 : (l[k].2 == m[k].2) = true := by simp [he]
          have He := Lib.hid he
          clear he
          go_wp2_with fail
          go_quiet (fail)
          go_wp2_with fail
          go_roundw
          case rel => exact ⟨k + 1, by omega, by go_num, list_eq_step hlt hlt' Ht.out He.out, below_drewN hb0 _⟩
          case measure => simp [intOf]; omega
        · have He := Lib.hid he
          by_cases he1 : l[k].1 = m[k].1
          · have he2 : l[k].2 ≠ m[k].2 := fun h => he (Prod.ext he1 h)
            have e1 : (l[k].1 == m[k].1) = true := by simp [he1]
            have e2 : (l[k].2 == m[k].2) = false := by simp [he2]
            clear he he1 he2
            go_wp2_with fail
            go_quiet (fail)
            go_wp2_with fail
            go_ret
            exact ⟨ret_bool (by simp [list_ne_at hlt hlt' He.out]), below_drewN hb0 _⟩
          · have e1 : (l[k].1 == m[k].1) = false := by simp [he1]
            clear he he1
            go_wp2_with fail
            go_quiet (fail)
            go_wp2_with fail
            go_ret
            exact ⟨ret_bool (by simp [list_ne_at hlt hlt' He.out]), below_drewN hb0 _⟩
      · go_wp2_with fail
        go_ret
        have e : l = m := by
          have h := Ht.out
          rwa [List.take_of_length_le (by omega), List.take_of_length_le (by have := Hlen.out; omega)] at h
        exact ⟨ret_bool (by simp [e]), hb0⟩
  · have h0 : ((l.length : Int) != m.length) = true := by
      rw [bne_iff_ne]; omega
    have Hlen := Lib.hid hlen
    clear hlen
    go_enter Try.func15, Try.ntmps15
    go_wp2_with fail
    go_ret
    refine ⟨ret_bool ?_, Below.refl _ _⟩
    rw [decide_eq_false]
    rintro rfl
    exact Hlen.out rfl

set_option maxHeartbeats 400000 in
theorem line1_any (x y n : Int) (w : World) (h1 : 0 ≤ x) (h2 : x ≤ 59999) (h3 : 0 ≤ n) (h4 : n ≤ 59999) :
    Calls Try.prog 30 #[.agg #[.int .i64 x, .int .i64 y], .int .i64 n] w fun e w' => e = .returned (.int .i64 (x - n)) ∧ Below w.heap.size w w' := by
  go_enter Try.func30, Try.ntmps30
  go_wp2_with fail
  go_ret
  exact ⟨rfl, (Below.refl _ _).alloc (Nat.le_refl _) _⟩

def SearchPost (l : List Mark) (t : Int) (w : World) (e : Ending) (w' : World) : Prop :=
  ∃ i : Nat, i ≤ l.length ∧ e = .returned (.tuple #[.int .i64 i, .bool (decide (∃ h : i < l.length, l[i].1 = t))]) ∧ (∀ j (hj : j < l.length), j < i → l[j].1 < t) ∧ (∀ j (hj : j < l.length), i ≤ j → t ≤ l[j].1) ∧ Below w.heap.size w w'

def SearchRel (l : List Mark) (t : Int) (w : World) (a b : Value) (wr : World) : Prop :=
  ∃ i k : Nat, i ≤ k ∧ k ≤ l.length ∧ a = .int .i64 i ∧ b = .int .i64 k ∧ (∀ j (hj : j < l.length), j < i → l[j].1 < t) ∧ (∀ j (hj : j < l.length), k ≤ j → t ≤ l[j].1) ∧ Below w.heap.size w wr

set_option maxHeartbeats 1000000 in
theorem search_any (A : Option Addr) (c : Nat) (l : List Mark) (t : Int) (w : World) (hl : l.length ≤ 60000) (hm : Row w A (l.flatMap mkc)) (hb : ∀ j (hj : j < l.length), 0 ≤ l[j].1 ∧ l[j].1 ≤ 59999) (hs : ∀ i j (hj : j < l.length) (hi : i < j), l[i].1 < l[j].1) (t0 : 0 ≤ t) (t1 : t ≤ 59999) :
    Calls Try.prog 29 #[.slice A l.length c, .int .i64 t, .func (.func 30) #[] #[]] w (SearchPost l t w) := by
  have HB := Lib.hid hb
  have HS := Lib.hid hs
  clear hb hs
  go_enter Try.func29, Try.ntmps29
  go_wp2_with fail
  go_loopw [9, 10] (fun a b wr => SearchRel l t w a b wr) (fun a b _ => (intOf b).toNat - (intOf a).toNat)
  case atStart => exact ⟨0, l.length, by omega, by omega, rfl, rfl, by omega, by omega, Below.refl _ _⟩
  case round =>
    obtain ⟨i, k, hik, hk, rfl, rfl, hlo, hhi, hb0⟩ := hrel
    have HL := Lib.hid hlo
    have HH := Lib.hid hhi
    clear hlo hhi
    by_cases hlt : i < k
    · obtain ⟨h, hh⟩ : ∃ h, h = (i + k) / 2 := ⟨_, rfl⟩
      have hhl : h < l.length := by omega
      obtain ⟨b, off, rfl, had, h1, h2⟩ := (hm.keepB hb0).mark hhl
      subst hh
      have hbh := HB.out _ hhl
      have b1 := hbh.1
      have b2 := hbh.2
      clear hbh
      by_cases hc : l[(i + k) / 2].1 < t
      · have hc' : l[(i + k) / 2].1 - t < 0 := by omega
        go_wp2_with (go_at_call 30; refine (line1_any _ _ _ _ b1 b2 t0 t1).mono ?_; rintro e w1 ⟨rfl, hb1⟩)
        go_roundw
        case rel =>
          refine ⟨(i + k) / 2 + 1, k, by omega, by omega, by go_num, rfl, ?_, HH.out, below_then hb0 hb1 hb0.size⟩
          intro j hj hji
          by_cases e : j = (i + k) / 2
          · subst e; exact hc
          · have := HS.out j ((i + k) / 2) hhl (by omega)
            omega
        case measure => simp [intOf]; omega
      · have hc' : 0 ≤ l[(i + k) / 2].1 - t := by omega
        go_wp2_with (go_at_call 30; refine (line1_any _ _ _ _ b1 b2 t0 t1).mono ?_; rintro e w1 ⟨rfl, hb1⟩)
        go_roundw
        case rel =>
          refine ⟨i, (i + k) / 2, by omega, by omega, rfl, by go_num, HL.out, ?_, below_then hb0 hb1 hb0.size⟩
          intro j hj hji
          by_cases e : j = (i + k) / 2
          · subst e; omega
          · have := HS.out ((i + k) / 2) j hj (by omega)
            omega
        case measure => simp [intOf]; omega
    · obtain rfl : i = k := by omega
      by_cases hil : i < l.length
      · obtain ⟨b, off, rfl, had, h1, h2⟩ := (hm.keepB hb0).mark hil
        have hbh := HB.out _ hil
        have b1 := hbh.1
        have b2 := hbh.2
        clear hbh
        by_cases hc : l[i].1 = t
        · have hc' : (l[i].1 - t == 0) = true := by simp; omega
          have HC := Lib.hid hc
          clear hc
          go_wp2_with (go_at_call 30; refine (line1_any _ _ _ _ b1 b2 t0 t1).mono ?_; rintro e w1 ⟨rfl, hb1⟩)
          go_ret2
          exact ⟨i, hk, by simp [hil, HC.out], HL.out, HH.out, below_then hb0 hb1 hb0.size⟩
        · have hc' : (l[i].1 - t == 0) = false := by simp; omega
          have HC := Lib.hid hc
          clear hc
          go_wp2_with (go_at_call 30; refine (line1_any _ _ _ _ b1 b2 t0 t1).mono ?_; rintro e w1 ⟨rfl, hb1⟩)
          go_ret2
          exact ⟨i, hk, by simp [hil, HC.out], HL.out, HH.out, below_then hb0 hb1 hb0.size⟩
      · have hil' : l.length ≤ i := by omega
        go_wp2_with fail
        go_ret2
        exact ⟨i, hk, by simp [hil], HL.out, HH.out, hb0⟩

end Go.Proofs.Ytionmlkefheocaa
