/- Walks: the reference's reading of numbers. Nothing is claimed here. -/
import Derived.Test.YtionmlkefheocaaCatF
namespace Go.Proofs.Ytionmlkefheocaa
open Go.RowKit
set_option linter.unusedVariables false

/-- what Septet leaves: the number and where it ends, or an error -/
def SepPost (g p : Nat) (r : Int × Bool × Nat) (b : List Int) (w : World) (e : Ending) (w' : World) : Prop :=
  ∃ (n code : Int) (q : Nat), e = .returned (.tuple #[.int .i64 n, .int .i64 code]) ∧ q ≤ b.length ∧ (r.2.1 = true → n = r.1 ∧ code = 0 ∧ q = p + r.2.2) ∧ (r.2.1 = false → code ≠ 0) ∧ Blk w' g 3 #[.int .i64 q] ∧ w.grownBy w' (some g)

def SepRel (g p : Nat) (b : List Int) (w : World) (a s i : Value) (wr : World) : Prop :=
  ∃ (j q : Nat) (n : Int), j ≤ 3 ∧ a = .int .i64 n ∧ s = .int .i64 (128 ^ j) ∧ i = .int .i64 j ∧ 0 ≤ n ∧ n < 128 ^ j ∧ q = p + j ∧ q ≤ b.length ∧ num (b.drop p) = numGo j n (b.drop q) ∧ Blk wr g 3 #[.int .i64 q] ∧ w.grownBy wr (some g)


set_option maxHeartbeats 1000000 in
theorem septet_any (g : Nat) (A : Option Addr) (c p : Nat) (b : List Int) (w : World) (hl : b.length ≤ 9223372036854775806) (hp : p ≤ b.length) (hby : ∀ x ∈ b, 0 ≤ x ∧ x ≤ 255)
    (hB : Blk w g 3 #[.int .i64 p]) (hA : Row w A (bcs b)) (hAg : ∀ a, A = some a → p < b.length → a.block ≠ g) :
    Calls Try.prog 38 #[.slice A b.length c, .pointer (some ⟨g, 0, none⟩)] w (SepPost g p (num (b.drop p)) b w) := by
  have HB := Lib.hid hB
  have HA := Lib.hid hA
  have HG := Lib.hid hAg
  have HY := Lib.hid hby
  clear hB hA hAg hby
  go_enter Try.func38, Try.ntmps38
  go_wp2_with fail
  go_loopw [6, 7, 8] (fun a s i wr => SepRel g p b w a s i wr) (fun _ _ i _ => 4 - (intOf i).toNat)
  case atStart => exact ⟨0, p, 0, by omega, rfl, rfl, rfl, by omega, by simp, by omega, hp, rfl, HB.out, grownBy_refl _ _⟩
  case round =>
    obtain ⟨j, q, n, hj, rfl, rfl, rfl, n0, n1, hq, hqb, he, hB, hg⟩ := hrel
    have He := Lib.hid he
    have Hg := Lib.hid hg
    have Hq := Lib.hid hq
    clear he hg hq
    obtain ⟨hc, hf, hsz⟩ := hB.rules
    by_cases hlt : q < b.length
    · by_cases hj3 : j = 3
      · subst hj3
        go_wp2_with fail
        go_ret2
        refine ⟨0, 16, q, rfl, hqb, ?_, by simp, hB, Hg.out⟩
        rw [He.out, numGo_three]
        simp
      · have hpl : p < b.length := by have := Hq.out; omega
        have hrow := HA.out.grown Hg.out (fun a ha e => HG.out a ha hpl (by injection e))
        obtain ⟨bb, off, rfl, had, h1⟩ := hrow.byte hlt
        have hbyte := HY.out b[q] (List.getElem_mem hlt)
        have y0 := hbyte.1
        have y1 := hbyte.2
        clear hbyte
        have i1 : (q : Int) < b.length := by omega
        have hj' : j = 0 ∨ j = 1 ∨ j = 2 := by omega
        rcases hj' with rfl | rfl | rfl
        · have n2 : n < 1 := by have := n1; simp at this; omega
          clear n1
          have hk3 : ((0 : Int) == 3) = false := by decide
          by_cases hlow : b[q] < 128
          · have Hn := Lib.hid (numGo_low (j := 0) (n := n) (r := b.drop (q + 1)) (by omega) hlow)
            by_cases hz : b[q] = 0
            · have hz1 : (b[q] == 0) = true := by simpa using hz
              have Hz := Lib.hid hz
              clear hz
              go_wp2_with fail
              go_ret2
              have e1 := Hq.out
              refine ⟨_, _, q + 1, rfl, by omega, ?_, ?_, hB.set_ 0 _, only_setCell Hg.out _ _⟩
              · rw [He.out, drop_cons hlt, Hn.out]
                simp only [Int.pow_zero, Int.mul_one]
                intro h
                first | exact absurd h (by rw [Hz.out]; decide) | (refine ⟨?_, ?_, ?_⟩ <;> first | trivial | (simp [Hz.out]; done) | rfl | omega)
              · rw [He.out, drop_cons hlt, Hn.out]
                intro h
                first | (simp at h; done) | (intro h2; cases h2; done) | decide
            · have hz1 : (b[q] == 0) = false := by simpa using hz
              have Hz := Lib.hid hz
              clear hz
              go_wp2_with fail
              go_ret2
              have e1 := Hq.out
              refine ⟨_, _, q + 1, rfl, by omega, ?_, ?_, hB.set_ 0 _, only_setCell Hg.out _ _⟩
              · rw [He.out, drop_cons hlt, Hn.out]
                simp only [Int.pow_zero, Int.mul_one]
                intro h
                have e2 : b[q] % 128 = b[q] := by omega
                refine ⟨?_, ?_, ?_⟩ <;> first | trivial | rfl | (rw [e2]; done) | omega
              · rw [He.out, drop_cons hlt, Hn.out]
                intro h
                exfalso
                have h3 := Hz.out
                first | (simp at h; done) | (simp at h; omega)
          · have Hn := Lib.hid (numGo_high (j := 0) (n := n) (r := b.drop (q + 1)) (by omega) (show 128 ≤ b[q] by omega))
            go_wp2_with fail
            go_roundw
            case rel =>
              have e1 := Hq.out
              refine ⟨0 + 1, q + 1, n + b[q] % 128 * 1, by omega, ?_, rfl, rfl, by omega, ?_, by omega, by omega, ?_, hB.set_ 0 _, only_setCell Hg.out _ _⟩
              · first | rfl | rw [Int.mul_one]
              · simp
                omega
              · rw [He.out, drop_cons hlt, Hn.out]
                simp only [Int.pow_zero, Int.mul_one]
            case measure => simp [intOf]
        · have n2 : n < 128 := by have := n1; simp at this; omega
          clear n1
          have hk3 : ((1 : Int) == 3) = false := by decide
          by_cases hlow : b[q] < 128
          · have Hn := Lib.hid (numGo_low (j := 1) (n := n) (r := b.drop (q + 1)) (by omega) hlow)
            by_cases hz : b[q] = 0
            · have hz1 : (b[q] == 0) = true := by simpa using hz
              have Hz := Lib.hid hz
              clear hz
              go_wp2_with fail
              go_ret2
              have e1 := Hq.out
              refine ⟨_, _, q + 1, rfl, by omega, ?_, ?_, hB.set_ 0 _, only_setCell Hg.out _ _⟩
              · rw [He.out, drop_cons hlt, Hn.out]
                simp only [Int.reducePow]
                intro h
                first | exact absurd h (by rw [Hz.out]; decide) | (refine ⟨?_, ?_, ?_⟩ <;> first | trivial | (simp [Hz.out]; done) | rfl | omega)
              · rw [He.out, drop_cons hlt, Hn.out]
                intro h
                first | (simp at h; done) | (intro h2; cases h2; done) | decide
            · have hz1 : (b[q] == 0) = false := by simpa using hz
              have Hz := Lib.hid hz
              clear hz
              go_wp2_with fail
              go_ret2
              have e1 := Hq.out
              refine ⟨_, _, q + 1, rfl, by omega, ?_, ?_, hB.set_ 0 _, only_setCell Hg.out _ _⟩
              · rw [He.out, drop_cons hlt, Hn.out]
                simp only [Int.reducePow]
                intro h
                have e2 : b[q] % 128 = b[q] := by omega
                refine ⟨?_, ?_, ?_⟩ <;> first | trivial | rfl | (rw [e2]; done) | omega
              · rw [He.out, drop_cons hlt, Hn.out]
                intro h
                exfalso
                have h3 := Hz.out
                first | (simp at h; done) | (simp at h; omega)
          · have Hn := Lib.hid (numGo_high (j := 1) (n := n) (r := b.drop (q + 1)) (by omega) (show 128 ≤ b[q] by omega))
            go_wp2_with fail
            go_roundw
            case rel =>
              have e1 := Hq.out
              refine ⟨1 + 1, q + 1, n + b[q] % 128 * 128, by omega, ?_, rfl, rfl, by omega, ?_, by omega, by omega, ?_, hB.set_ 0 _, only_setCell Hg.out _ _⟩
              · first | rfl | rw [Int.mul_one]
              · simp
                omega
              · rw [He.out, drop_cons hlt, Hn.out]
                simp only [Int.reducePow]
            case measure => simp [intOf]
        · have n2 : n < 16384 := by have := n1; simp at this; omega
          clear n1
          have hk3 : ((2 : Int) == 3) = false := by decide
          by_cases hlow : b[q] < 128
          · have Hn := Lib.hid (numGo_low (j := 2) (n := n) (r := b.drop (q + 1)) (by omega) hlow)
            by_cases hz : b[q] = 0
            · have hz1 : (b[q] == 0) = true := by simpa using hz
              have Hz := Lib.hid hz
              clear hz
              go_wp2_with fail
              go_ret2
              have e1 := Hq.out
              refine ⟨_, _, q + 1, rfl, by omega, ?_, ?_, hB.set_ 0 _, only_setCell Hg.out _ _⟩
              · rw [He.out, drop_cons hlt, Hn.out]
                simp only [Int.reducePow]
                intro h
                first | exact absurd h (by rw [Hz.out]; decide) | (refine ⟨?_, ?_, ?_⟩ <;> first | trivial | (simp [Hz.out]; done) | rfl | omega)
              · rw [He.out, drop_cons hlt, Hn.out]
                intro h
                first | (simp at h; done) | (intro h2; cases h2; done) | decide
            · have hz1 : (b[q] == 0) = false := by simpa using hz
              have Hz := Lib.hid hz
              clear hz
              go_wp2_with fail
              go_ret2
              have e1 := Hq.out
              refine ⟨_, _, q + 1, rfl, by omega, ?_, ?_, hB.set_ 0 _, only_setCell Hg.out _ _⟩
              · rw [He.out, drop_cons hlt, Hn.out]
                simp only [Int.reducePow]
                intro h
                have e2 : b[q] % 128 = b[q] := by omega
                refine ⟨?_, ?_, ?_⟩ <;> first | trivial | rfl | (rw [e2]; done) | omega
              · rw [He.out, drop_cons hlt, Hn.out]
                intro h
                exfalso
                have h3 := Hz.out
                first | (simp at h; done) | (simp at h; omega)
          · have Hn := Lib.hid (numGo_high (j := 2) (n := n) (r := b.drop (q + 1)) (by omega) (show 128 ≤ b[q] by omega))
            go_wp2_with fail
            go_roundw
            case rel =>
              have e1 := Hq.out
              refine ⟨2 + 1, q + 1, n + b[q] % 128 * 16384, by omega, ?_, rfl, rfl, by omega, ?_, by omega, by omega, ?_, hB.set_ 0 _, only_setCell Hg.out _ _⟩
              · first | rfl | rw [Int.mul_one]
              · simp
                omega
              · rw [He.out, drop_cons hlt, Hn.out]
                simp only [Int.reducePow]
            case measure => simp [intOf]
    · have hge : b.length ≤ q := by omega
      have Hq2 := Lib.hid (show b.drop q = [] from List.drop_of_length_le hge)
      go_wp2_with fail
      go_ret2
      refine ⟨0, 15, q, rfl, hqb, ?_, by simp, hB, Hg.out⟩
      rw [He.out, Hq2.out, numGo_nil]
      simp

end Go.Proofs.Ytionmlkefheocaa
