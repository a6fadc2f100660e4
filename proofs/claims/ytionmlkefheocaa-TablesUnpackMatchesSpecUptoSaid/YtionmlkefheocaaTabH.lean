/- Walks: numbers are read. Nothing is claimed here. -/
import Derived.Test.YtionmlkefheocaaTabG
namespace Go.Proofs.Ytionmlkefheocaa
open Go.RowKit
set_option linter.unusedVariables false

/-- the number at the head of some bytes, whether it is as it is written, and how many bytes were read -/
def numGo : Nat → Int → List Int → Int × Bool × Nat
  | j, _, [] => (0, false, j)
  | j, n, c :: r => if 3 ≤ j then (0, false, j) else if c < 128 then (n + c * 128 ^ j, decide (0 < c ∨ j = 0), j + 1) else numGo (j + 1) (n + c % 128 * 128 ^ j) r
def num (l : List Int) : Int × Bool × Nat := numGo 0 0 l
theorem numGo_nil (j : Nat) (n : Int) : numGo j n [] = (0, false, j) := rfl
theorem numGo_three (n : Int) (l : List Int) : numGo 3 n l = (0, false, 3) := by cases l <;> rfl
theorem numGo_low {j : Nat} {n c : Int} {r : List Int} (hj : j < 3) (h : c < 128) : numGo j n (c :: r) = (n + c * 128 ^ j, decide (0 < c ∨ j = 0), j + 1) := by
  rw [numGo, if_neg (by omega), if_pos h]
theorem numGo_high {j : Nat} {n c : Int} {r : List Int} (hj : j < 3) (h : 128 ≤ c) : numGo j n (c :: r) = numGo (j + 1) (n + c % 128 * 128 ^ j) r := by
  rw [numGo, if_neg (by omega), if_neg (by omega)]

def NumPost (g t : Nat) (x : Value) (p : Int) (r : Int × Bool × Nat) (w : World) (e : Ending) (w' : World) : Prop :=
  e = .returned (.tuple #[.int .i64 r.1, .bool r.2.1]) ∧ Blk w' g t #[x, .int .i64 (p + r.2.2)] ∧ w.grownBy w' (some g)

def NumRel (g t : Nat) (x : Value) (p : Nat) (b : List Int) (w : World) (a s : Value) (wr : World) : Prop :=
  ∃ (j q : Nat) (n : Int), j ≤ 3 ∧ a = .int .i64 n ∧ s = .int .i64 (7 * j) ∧ 0 ≤ n ∧ n < 128 ^ j ∧ q = p + j ∧ q ≤ b.length ∧ num (b.drop p) = numGo j n (b.drop q) ∧ Blk wr g t #[x, .int .i64 q] ∧ w.grownBy wr (some g)

theorem only_drewN {a w : World} {row : Option Nat} (h : a.grownBy w row) (n : Nat) : a.grownBy (w.drewN n) row := ⟨h.os, h.tape, h.output, h.size, h.block⟩
theorem only_setCell {a w : World} {g : Nat} (h : a.grownBy w (some g)) (i : Nat) (u : Value) : a.grownBy (w.setCell ⟨g, i, none⟩ u) (some g) :=
  ⟨h.os, h.tape, h.output, by simpa [World.setCell] using h.size, fun i hi hne => (Below.heap_setCell w ⟨g, _, none⟩ u i (by rintro rfl; exact hne rfl)).trans (h.block i hi hne)⟩


set_option maxHeartbeats 1000000 in
theorem number_any (g : Nat) (A : Option Addr) (c p : Nat) (b : List Int) (w : World) (hl : b.length ≤ 9223372036854775807) (hp : p ≤ b.length) (hby : ∀ x ∈ b, 0 ≤ x ∧ x ≤ 255)
    (hB : Blk w g 71 #[.slice A b.length c, .int .i64 p]) (hA : Row w A (bcs b)) (hAg : ∀ a, A = some a → a.block ≠ g) :
    Calls Try.prog 36 #[.pointer (some ⟨g, 0, none⟩)] w (NumPost g 71 (.slice A b.length c) p (num (b.drop p)) w) := by
  have HB := Lib.hid hB
  have HA := Lib.hid hA
  have HG := Lib.hid hAg
  have HY := Lib.hid hby
  clear hB hA hAg hby
  go_enter Try.func36, Try.ntmps36
  go_wp2_with fail
  go_loopw [4, 5] (fun a s wr => NumRel g 71 (.slice A b.length c) p b w a s wr) (fun _ s _ => 30 - (intOf s).toNat)
  case atStart => exact ⟨0, p, 0, by omega, rfl, rfl, by omega, by simp, by omega, hp, rfl, HB.out, grownBy_refl _ _⟩
  case round =>
    obtain ⟨j, q, n, hj, rfl, rfl, n0, n1, hq, hqb, he, hB, hg⟩ := hrel
    have He := Lib.hid he
    have Hg := Lib.hid hg
    have Hq := Lib.hid hq
    clear he hg hq
    obtain ⟨hc, hf, hsz⟩ := hB.rules
    by_cases hj3 : j = 3
    · subst hj3
      go_wp2_with fail
      go_ret2
      refine ⟨by rw [He.out, numGo_three]; rfl, ?_, Hg.out⟩
      rw [He.out, numGo_three]
      have := Hq.out
      subst this
      exact hB
    · by_cases hlt : q < b.length
      · have hrow := HA.out.grown Hg.out (fun a ha e => HG.out a ha (by injection e))
        obtain ⟨bb, off, rfl, had, h1⟩ := hrow.byte hlt
        have hbyte := HY.out b[q] (List.getElem_mem hlt)
        have y0 := hbyte.1
        have y1 := hbyte.2
        clear hbyte
        have i1 : (q : Int) < b.length := by omega
        have hj' : j = 0 ∨ j = 1 ∨ j = 2 := by omega
        rcases hj' with rfl | rfl | rfl
        · have n2 : n < 1 := by have := n1; simp at this; omega
          have G := grp0 n b[q] n0 n2 y0 y1
          have HG2 := Lib.hid G
          clear G n1
          go_wp2_with fail
          go_quiet (fail)
          go_wp2_with fail
          go_quiet (fail)
          by_cases hlow : b[q] < 128
          · have Hn := Lib.hid (numGo_low (j := 0) (n := n) (r := b.drop (q + 1)) (by omega) hlow)
            go_wp2_with fail
            all_goals
              go_ret2
              refine ⟨?_, ?_, only_setCell (only_drewN Hg.out _) _ _⟩
              · rw [He.out, drop_cons hlt, Hn.out]
                have e : b[q] % 128 = b[q] := by omega
                have h := HG2.out
                rw [e] at h
                simp only [Int.pow_zero, Int.mul_one]
                show Ending.returned (.tuple #[.int .i64 _, .bool _]) = _
                rw [h]
                first | rfl | (congr 4; simp; done) | (congr 4; simp; omega)
              · rw [He.out, drop_cons hlt, Hn.out]
                have h := (hB.drewN (nq + nq)).set_ 1 (.int .i64 ((q : Int) + 1))
                have := Hq.out
                subst this
                exact h
          · have Hn := Lib.hid (numGo_high (j := 0) (n := n) (r := b.drop (q + 1)) (by omega) (show 128 ≤ b[q] by omega))
            go_wp2_with fail
            go_roundw
            case rel =>
              rw [HG2.out]
              refine ⟨0 + 1, q + 1, _, by omega, rfl, rfl, by omega, by simp only [Int.reducePow, Nat.reduceAdd]; omega, by have := Hq.out; omega, by omega, ?_, ?_, only_setCell (only_drewN Hg.out _) _ _⟩
              · rw [He.out, drop_cons hlt, Hn.out]
                simp only [Int.pow_zero, Int.mul_one]
              · have e : ((q + 1 : Nat) : Int) = (q : Int) + 1 := by omega
                rw [e]
                exact (hB.drewN _).set_ 1 _
            case measure => simp [intOf]
        · have n2 : n < 128 := by have := n1; simp at this; omega
          have G := grp1 n b[q] n0 n2 y0 y1
          have HG2 := Lib.hid G
          clear G n1
          go_wp2_with fail
          go_quiet (fail)
          go_wp2_with fail
          go_quiet (fail)
          by_cases hlow : b[q] < 128
          · have Hn := Lib.hid (numGo_low (j := 1) (n := n) (r := b.drop (q + 1)) (by omega) hlow)
            go_wp2_with fail
            all_goals
              go_ret2
              refine ⟨?_, ?_, only_setCell (only_drewN Hg.out _) _ _⟩
              · rw [He.out, drop_cons hlt, Hn.out]
                have e : b[q] % 128 = b[q] := by omega
                have h := HG2.out
                rw [e] at h
                simp only [Int.reducePow]
                show Ending.returned (.tuple #[.int .i64 _, .bool _]) = _
                rw [h]
                first | rfl | (congr 4; simp; done) | (congr 4; simp; omega)
              · rw [He.out, drop_cons hlt, Hn.out]
                have h := (hB.drewN (nq + nq)).set_ 1 (.int .i64 ((q : Int) + 1))
                have := Hq.out
                subst this
                exact h
          · have Hn := Lib.hid (numGo_high (j := 1) (n := n) (r := b.drop (q + 1)) (by omega) (show 128 ≤ b[q] by omega))
            go_wp2_with fail
            go_roundw
            case rel =>
              rw [HG2.out]
              refine ⟨1 + 1, q + 1, _, by omega, rfl, rfl, by omega, by simp only [Int.reducePow, Nat.reduceAdd]; omega, by have := Hq.out; omega, by omega, ?_, ?_, only_setCell (only_drewN Hg.out _) _ _⟩
              · rw [He.out, drop_cons hlt, Hn.out]
                simp only [Int.reducePow]
              · have e : ((q + 1 : Nat) : Int) = (q : Int) + 1 := by omega
                rw [e]
                exact (hB.drewN _).set_ 1 _
            case measure => simp [intOf]
        · have n2 : n < 16384 := by have := n1; simp at this; omega
          have G := grp2 n b[q] n0 n2 y0 y1
          have HG2 := Lib.hid G
          clear G n1
          go_wp2_with fail
          go_quiet (fail)
          go_wp2_with fail
          go_quiet (fail)
          by_cases hlow : b[q] < 128
          · have Hn := Lib.hid (numGo_low (j := 2) (n := n) (r := b.drop (q + 1)) (by omega) hlow)
            go_wp2_with fail
            all_goals
              go_ret2
              refine ⟨?_, ?_, only_setCell (only_drewN Hg.out _) _ _⟩
              · rw [He.out, drop_cons hlt, Hn.out]
                have e : b[q] % 128 = b[q] := by omega
                have h := HG2.out
                rw [e] at h
                simp only [Int.reducePow]
                show Ending.returned (.tuple #[.int .i64 _, .bool _]) = _
                rw [h]
                first | rfl | (congr 4; simp; done) | (congr 4; simp; omega)
              · rw [He.out, drop_cons hlt, Hn.out]
                have h := (hB.drewN (nq + nq)).set_ 1 (.int .i64 ((q : Int) + 1))
                have := Hq.out
                subst this
                exact h
          · have Hn := Lib.hid (numGo_high (j := 2) (n := n) (r := b.drop (q + 1)) (by omega) (show 128 ≤ b[q] by omega))
            go_wp2_with fail
            go_roundw
            case rel =>
              rw [HG2.out]
              refine ⟨2 + 1, q + 1, _, by omega, rfl, rfl, by omega, by simp only [Int.reducePow, Nat.reduceAdd]; omega, by have := Hq.out; omega, by omega, ?_, ?_, only_setCell (only_drewN Hg.out _) _ _⟩
              · rw [He.out, drop_cons hlt, Hn.out]
                simp only [Int.reducePow]
              · have e : ((q + 1 : Nat) : Int) = (q : Int) + 1 := by omega
                rw [e]
                exact (hB.drewN _).set_ 1 _
            case measure => simp [intOf]
      · have hge : b.length ≤ q := by omega
        have hj' : j = 0 ∨ j = 1 ∨ j = 2 := by omega
        have Hq2 := Lib.hid (show b.drop q = [] from List.drop_of_length_le hge)
        rcases hj' with rfl | rfl | rfl
        all_goals
          go_wp2_with fail
          go_quiet (fail)
          go_wp2_with fail
          go_ret2
          refine ⟨by rw [He.out, Hq2.out, numGo_nil]; rfl, ?_, only_drewN Hg.out _⟩
          rw [He.out, Hq2.out, numGo_nil]
          have := Hq.out
          subst this
          exact hB.drewN _

end Go.Proofs.Ytionmlkefheocaa
