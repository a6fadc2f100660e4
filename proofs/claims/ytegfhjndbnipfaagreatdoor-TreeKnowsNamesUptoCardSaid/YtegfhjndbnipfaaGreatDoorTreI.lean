/- The program's trees: a copy of a statement without parts, with its lines anew: the walk. Nothing is claimed here. -/
import Derived.Laws.Tables
import Derived.Test.YtegfhjndbnipfaaGreatDoorTreG
namespace Go.Proofs.YtegfhjndbnipfaaGreatDoor
open Go.RowKit Go.Lib Go.Maps Go.Sort
set_option linter.unusedVariables false

theorem Blk.set15 {w : World} {g t : Nat} {x0 x1 x2 x3 x4 x5 x6 x7 x8 x9 x10 x11 x12 x13 x14 : Value} (h : Blk w g t #[x0, x1, x2, x3, x4, x5, x6, x7, x8, x9, x10, x11, x12, x13, x14]) (a0 a1 a2 a3 a4 a5 a6 a7 a8 a9 a10 a11 a12 a13 a14 : Value) : Blk (((((((((((((((w.setCell ⟨g, 0, none⟩ a0).setCell ⟨g, 1, none⟩ a1).setCell ⟨g, 2, none⟩ a2).setCell ⟨g, 3, none⟩ a3).setCell ⟨g, 4, none⟩ a4).setCell ⟨g, 5, none⟩ a5).setCell ⟨g, 6, none⟩ a6).setCell ⟨g, 7, none⟩ a7).setCell ⟨g, 8, none⟩ a8).setCell ⟨g, 9, none⟩ a9).setCell ⟨g, 10, none⟩ a10).setCell ⟨g, 11, none⟩ a11).setCell ⟨g, 12, none⟩ a12).setCell ⟨g, 13, none⟩ a13).setCell ⟨g, 14, none⟩ a14) g t #[a0, a1, a2, a3, a4, a5, a6, a7, a8, a9, a10, a11, a12, a13, a14] := by
  have h0 : Blk _ g t #[a0, x1, x2, x3, x4, x5, x6, x7, x8, x9, x10, x11, x12, x13, x14] := h.set_ 0 a0
  have h1 : Blk _ g t #[a0, a1, x2, x3, x4, x5, x6, x7, x8, x9, x10, x11, x12, x13, x14] := h0.set_ 1 a1
  have h2 : Blk _ g t #[a0, a1, a2, x3, x4, x5, x6, x7, x8, x9, x10, x11, x12, x13, x14] := h1.set_ 2 a2
  have h3 : Blk _ g t #[a0, a1, a2, a3, x4, x5, x6, x7, x8, x9, x10, x11, x12, x13, x14] := h2.set_ 3 a3
  have h4 : Blk _ g t #[a0, a1, a2, a3, a4, x5, x6, x7, x8, x9, x10, x11, x12, x13, x14] := h3.set_ 4 a4
  have h5 : Blk _ g t #[a0, a1, a2, a3, a4, a5, x6, x7, x8, x9, x10, x11, x12, x13, x14] := h4.set_ 5 a5
  have h6 : Blk _ g t #[a0, a1, a2, a3, a4, a5, a6, x7, x8, x9, x10, x11, x12, x13, x14] := h5.set_ 6 a6
  have h7 : Blk _ g t #[a0, a1, a2, a3, a4, a5, a6, a7, x8, x9, x10, x11, x12, x13, x14] := h6.set_ 7 a7
  have h8 : Blk _ g t #[a0, a1, a2, a3, a4, a5, a6, a7, a8, x9, x10, x11, x12, x13, x14] := h7.set_ 8 a8
  have h9 : Blk _ g t #[a0, a1, a2, a3, a4, a5, a6, a7, a8, a9, x10, x11, x12, x13, x14] := h8.set_ 9 a9
  have h10 : Blk _ g t #[a0, a1, a2, a3, a4, a5, a6, a7, a8, a9, a10, x11, x12, x13, x14] := h9.set_ 10 a10
  have h11 : Blk _ g t #[a0, a1, a2, a3, a4, a5, a6, a7, a8, a9, a10, a11, x12, x13, x14] := h10.set_ 11 a11
  have h12 : Blk _ g t #[a0, a1, a2, a3, a4, a5, a6, a7, a8, a9, a10, a11, a12, x13, x14] := h11.set_ 12 a12
  have h13 : Blk _ g t #[a0, a1, a2, a3, a4, a5, a6, a7, a8, a9, a10, a11, a12, a13, x14] := h12.set_ 13 a13
  have h14 : Blk _ g t #[a0, a1, a2, a3, a4, a5, a6, a7, a8, a9, a10, a11, a12, a13, a14] := h13.set_ 14 a14
  exact h14
theorem below_set15 {B g : Nat} {a w : World} (h : Below B a w) (hg : B ≤ g) (a0 a1 a2 a3 a4 a5 a6 a7 a8 a9 a10 a11 a12 a13 a14 : Value) : Below B a (((((((((((((((w.setCell ⟨g, 0, none⟩ a0).setCell ⟨g, 1, none⟩ a1).setCell ⟨g, 2, none⟩ a2).setCell ⟨g, 3, none⟩ a3).setCell ⟨g, 4, none⟩ a4).setCell ⟨g, 5, none⟩ a5).setCell ⟨g, 6, none⟩ a6).setCell ⟨g, 7, none⟩ a7).setCell ⟨g, 8, none⟩ a8).setCell ⟨g, 9, none⟩ a9).setCell ⟨g, 10, none⟩ a10).setCell ⟨g, 11, none⟩ a11).setCell ⟨g, 12, none⟩ a12).setCell ⟨g, 13, none⟩ a13).setCell ⟨g, 14, none⟩ a14) := (((((((((((((((h.setCell (p := ⟨g, 0, none⟩) hg a0).setCell (p := ⟨g, 1, none⟩) hg a1).setCell (p := ⟨g, 2, none⟩) hg a2).setCell (p := ⟨g, 3, none⟩) hg a3).setCell (p := ⟨g, 4, none⟩) hg a4).setCell (p := ⟨g, 5, none⟩) hg a5).setCell (p := ⟨g, 6, none⟩) hg a6).setCell (p := ⟨g, 7, none⟩) hg a7).setCell (p := ⟨g, 8, none⟩) hg a8).setCell (p := ⟨g, 9, none⟩) hg a9).setCell (p := ⟨g, 10, none⟩) hg a10).setCell (p := ⟨g, 11, none⟩) hg a11).setCell (p := ⟨g, 12, none⟩) hg a12).setCell (p := ⟨g, 13, none⟩) hg a13).setCell (p := ⟨g, 14, none⟩) hg a14)

theorem setCell_same {w : World} {g t i : Nat} {cs : Array Value} {u : Value} (h : Blk w g t cs) (hu : cs[i]? = some u) : w.setCell ⟨g, i, none⟩ u = w := by
  have hh : (w.setCell ⟨g, i, none⟩ u).heap = w.heap := by
    apply Array.ext_getElem?
    intro k
    by_cases hk : g = k
    · subst hk
      have h1 : Blk (w.setCell ⟨g, i, none⟩ u) g t (cs.setIfInBounds i u) := h.set_ i u
      have h2 : cs.setIfInBounds i u = cs := by
        apply Array.ext_getElem?
        intro j
        rw [Array.getElem?_setIfInBounds]
        split
        · rename_i e
          subst e
          split
          · exact hu.symm
          · rename_i hlt
            rw [Array.getElem?_eq_none (by omega)] at hu
            cases hu
        · rfl
      rw [h2] at h1
      exact h1.trans h.symm
    · exact Below.heap_setCell w ⟨g, i, none⟩ u k (fun e => hk e.symm)
  cases w
  simp only [World.setCell] at hh ⊢
  rw [hh]
/-- the lines' functions -/
def FS (p : Nat) : Value := .func (.func 28) #[] #[.pointer (some ⟨p, 0, none⟩)]
def FL (o : Nat) : Value := .func (.func 23) #[] #[.pointer (some ⟨o, 0, none⟩)]
theorem Blk.grows {w : World} {g t : Nat} {cs : Array Value} (h : Blk w g t cs) : ∀ (d : Nat) (os : Array Obj) (i : Nat), (grow (redrawn w d) os).cell? ⟨g, i, none⟩ = cs[i]? := fun d os i => (h.belowS (below_regrown w d os)).cell i
-- all that is kept, behind a store at a field of the statement
set_option maxRecDepth 100000 in
set_option maxHeartbeats 8000000 in
theorem wstmt_shift (n by_ : Int) (p : Nat) (r : Value) (w : World) (h : Blk w p 3 #[.int .i64 by_]) (m : Int) (hm : IntKind.i64.wrap (n + by_) = m) :
    Calls Tryz.prog 39 #[.agg (wkC (FS p) r), .agg (stC 5 n)] w fun e w' => e = .returned (.agg (stC 5 m)) ∧ Below w.heap.size w w' := by
  have hW := ((Blk.new w 57 (wkC (FS p) r)).alloc (.cells (stC 5 n) 43)).alloc (.cells (stC 0 0) 43)
  have hS := (Blk.new (w.alloc (.cells (wkC (FS p) r) 57)) 43 (stC 5 n)).alloc (.cells (stC 0 0) 43)
  have hR := Blk.new ((w.alloc (.cells (wkC (FS p) r) 57)).alloc (.cells (stC 5 n) 43)) 43 (stC 0 0)
  rw [show (w.alloc (.cells (wkC (FS p) r) 57)).heap.size = w.heap.size + 1 by simp] at hS
  rw [show ((w.alloc (.cells (wkC (FS p) r) 57)).alloc (.cells (stC 5 n) 43)).heap.size = w.heap.size + 1 + 1 by simp] at hR
  have hO := ((h.alloc (.cells (wkC (FS p) r) 57)).alloc (.cells (stC 5 n) 43)).alloc (.cells (stC 0 0) 43)
  have hG := hO
  have hb := (((Below.refl w.heap.size w).alloc (Nat.le_refl _) (.cells (wkC (FS p) r) 57)).alloc (by simp) (.cells (stC 5 n) 43)).alloc (by simp; omega) (.cells (stC 0 0) 43)
  have hno : p ≠ w.heap.size + 1 := by have := h.lt; omega
  have hng := hno
  have hB0 : w.heap.size ≤ w.heap.size := Nat.le_refl _
  obtain ⟨W, hWW⟩ : ∃ W, (((w.alloc (.cells (wkC (FS p) r) 57)).alloc (.cells (stC 5 n) 43)).alloc (.cells (stC 0 0) 43)) = W := ⟨_, rfl⟩
  rw [hWW] at hW hS hR hO hG hb
  have HSH := Lib.hid (shift2_any n by_ p W hO m hm)
  obtain ⟨q1, q2, q3⟩ := hS.rules
  obtain ⟨p1, p2, p3⟩ := hW.rules
  unfold wkC stC FS at hWW ⊢
  unfold wkC FS at p1
  unfold stC at q1
  go_enter Tryz.func39, Tryz.ntmps39
  go_wp2_with fail
  refine HSH.out.mono ?_
  rintro e wx ⟨rfl, hwx⟩
  subst hwx
  clear hWW HSH
  as_aux_lemma =>
  go_wp2_with fail
  refine (cloneStr_nil _).mono ?_
  rintro e wx ⟨rfl, hwx⟩
  replace hwx := hwx.symm
  replace hS : Blk _ (w.heap.size + 1) 43 (stC 5 m) := Blk.set_ hS 1 (.int .i64 m)
  replace hW := Blk.far hW (p := ⟨w.heap.size + 1, 1, none⟩) (by simp) (.int .i64 m)
  replace hR := Blk.far hR (p := ⟨w.heap.size + 1, 1, none⟩) (by simp) (.int .i64 m)
  replace hO := Blk.far hO (p := ⟨w.heap.size + 1, 1, none⟩) hno (.int .i64 m)
  replace hG := Blk.far hG (p := ⟨w.heap.size + 1, 1, none⟩) hng (.int .i64 m)
  replace hb := Below.setCell hb (p := ⟨w.heap.size + 1, 1, none⟩) (by simp <;> omega) (.int .i64 m)
  rw [← hwx] at hS hW hR hO hG hb
  clear hwx q1 q2 q3 p1 p2 p3
  obtain ⟨q1, q2, q3⟩ := hS.rules
  obtain ⟨p1, p2, p3⟩ := hW.rules
  unfold stC at q1
  simp only [wkC, FS, FL] at p1
  go_wp2_with fail
  refine (wexprs_nil (FS p) r _).mono ?_
  rintro e wx ⟨rfl, hwx⟩
  replace hS : Blk _ (w.heap.size + 1) 43 (stC 5 m) := Blk.set_ hS 3 (.slice none 0 0)
  replace hW := Blk.far hW (p := ⟨w.heap.size + 1, 3, none⟩) (by simp) (.slice none 0 0)
  replace hR := Blk.far hR (p := ⟨w.heap.size + 1, 3, none⟩) (by simp) (.slice none 0 0)
  replace hO := Blk.far hO (p := ⟨w.heap.size + 1, 3, none⟩) hno (.slice none 0 0)
  replace hG := Blk.far hG (p := ⟨w.heap.size + 1, 3, none⟩) hng (.slice none 0 0)
  replace hb := Below.setCell hb (p := ⟨w.heap.size + 1, 3, none⟩) (by simp <;> omega) (.slice none 0 0)
  replace hS := Blk.alloc hS (.cells (wkC (FS p) r) 57)
  replace hW := Blk.alloc hW (.cells (wkC (FS p) r) 57)
  replace hR := Blk.alloc hR (.cells (wkC (FS p) r) 57)
  replace hO := Blk.alloc hO (.cells (wkC (FS p) r) 57)
  replace hG := Blk.alloc hG (.cells (wkC (FS p) r) 57)
  replace hb := Below.alloc hb (Nat.le_trans hB0 (Below.size hb)) (.cells (wkC (FS p) r) 57)
  rw [← hwx] at hS hW hR hO hG hb
  clear hwx q1 q2 q3 p1 p2 p3
  obtain ⟨q1, q2, q3⟩ := hS.rules
  obtain ⟨p1, p2, p3⟩ := hW.rules
  unfold stC at q1
  simp only [wkC, FS, FL] at p1
  as_aux_lemma =>
  go_wp2_with fail
  refine (wexprs_nil (FS p) r _).mono ?_
  rintro e wx ⟨rfl, hwx⟩
  replace hS : Blk _ (w.heap.size + 1) 43 (stC 5 m) := Blk.set_ hS 5 (.slice none 0 0)
  replace hW := Blk.far hW (p := ⟨w.heap.size + 1, 5, none⟩) (by simp) (.slice none 0 0)
  replace hR := Blk.far hR (p := ⟨w.heap.size + 1, 5, none⟩) (by simp) (.slice none 0 0)
  replace hO := Blk.far hO (p := ⟨w.heap.size + 1, 5, none⟩) hno (.slice none 0 0)
  replace hG := Blk.far hG (p := ⟨w.heap.size + 1, 5, none⟩) hng (.slice none 0 0)
  replace hb := Below.setCell hb (p := ⟨w.heap.size + 1, 5, none⟩) (by simp <;> omega) (.slice none 0 0)
  replace hS := Blk.alloc hS (.cells (wkC (FS p) r) 57)
  replace hW := Blk.alloc hW (.cells (wkC (FS p) r) 57)
  replace hR := Blk.alloc hR (.cells (wkC (FS p) r) 57)
  replace hO := Blk.alloc hO (.cells (wkC (FS p) r) 57)
  replace hG := Blk.alloc hG (.cells (wkC (FS p) r) 57)
  replace hb := Below.alloc hb (Nat.le_trans hB0 (Below.size hb)) (.cells (wkC (FS p) r) 57)
  rw [← hwx] at hS hW hR hO hG hb
  clear hwx q1 q2 q3 p1 p2 p3
  obtain ⟨q1, q2, q3⟩ := hS.rules
  obtain ⟨p1, p2, p3⟩ := hW.rules
  unfold stC at q1
  simp only [wkC, FS, FL] at p1
  as_aux_lemma =>
  go_wp2_with fail
  refine (wparams_nil (FS p) r _).mono ?_
  rintro e wx ⟨rfl, hwx⟩
  replace hS : Blk _ (w.heap.size + 1) 43 (stC 5 m) := Blk.set_ hS 6 (.slice none 0 0)
  replace hW := Blk.far hW (p := ⟨w.heap.size + 1, 6, none⟩) (by simp) (.slice none 0 0)
  replace hR := Blk.far hR (p := ⟨w.heap.size + 1, 6, none⟩) (by simp) (.slice none 0 0)
  replace hO := Blk.far hO (p := ⟨w.heap.size + 1, 6, none⟩) hno (.slice none 0 0)
  replace hG := Blk.far hG (p := ⟨w.heap.size + 1, 6, none⟩) hng (.slice none 0 0)
  replace hb := Below.setCell hb (p := ⟨w.heap.size + 1, 6, none⟩) (by simp <;> omega) (.slice none 0 0)
  replace hS := Blk.alloc hS (.cells (wkC (FS p) r) 57)
  replace hW := Blk.alloc hW (.cells (wkC (FS p) r) 57)
  replace hR := Blk.alloc hR (.cells (wkC (FS p) r) 57)
  replace hO := Blk.alloc hO (.cells (wkC (FS p) r) 57)
  replace hG := Blk.alloc hG (.cells (wkC (FS p) r) 57)
  replace hb := Below.alloc hb (Nat.le_trans hB0 (Below.size hb)) (.cells (wkC (FS p) r) 57)
  rw [← hwx] at hS hW hR hO hG hb
  clear hwx q1 q2 q3 p1 p2 p3
  obtain ⟨q1, q2, q3⟩ := hS.rules
  obtain ⟨p1, p2, p3⟩ := hW.rules
  unfold stC at q1
  simp only [wkC, FS, FL] at p1
  as_aux_lemma =>
  go_wp2_with fail
  go_loop [5, 42] (fun a v => a = .slice none 0 0 ∧ v = .int .i64 0) (fun _ _ => 0)
  case atStart => exact ⟨rfl, rfl⟩
  case round =>
    obtain ⟨rfl, rfl⟩ := hrel
    as_aux_lemma =>
    go_wp2_with fail
    go_loop [8, 64] (fun a v => a = .slice none 0 0 ∧ v = .int .i64 0) (fun _ _ => 0)
    case atStart => exact ⟨rfl, rfl⟩
    case round =>
      obtain ⟨rfl, rfl⟩ := hrel
      go_wp2_with fail
      go_loop [11, 94] (fun a v => a = .slice none 0 0 ∧ v = .int .i64 0) (fun _ _ => 0)
      case atStart => exact ⟨rfl, rfl⟩
      case round =>
        obtain ⟨rfl, rfl⟩ := hrel
        go_wp2_with fail
        replace hS : Blk _ (w.heap.size + 1) 43 (stC 5 m) := Blk.set_ hS 7 (.slice none 0 0)
        replace hW := Blk.far hW (p := ⟨w.heap.size + 1, 7, none⟩) (by simp) (.slice none 0 0)
        replace hR := Blk.far hR (p := ⟨w.heap.size + 1, 7, none⟩) (by simp) (.slice none 0 0)
        replace hO := Blk.far hO (p := ⟨w.heap.size + 1, 7, none⟩) hno (.slice none 0 0)
        replace hG := Blk.far hG (p := ⟨w.heap.size + 1, 7, none⟩) hng (.slice none 0 0)
        replace hb := Below.setCell hb (p := ⟨w.heap.size + 1, 7, none⟩) (by simp <;> omega) (.slice none 0 0)
        replace hS : Blk _ (w.heap.size + 1) 43 (stC 5 m) := Blk.set_ hS 12 (.slice none 0 0)
        replace hW := Blk.far hW (p := ⟨w.heap.size + 1, 12, none⟩) (by simp) (.slice none 0 0)
        replace hR := Blk.far hR (p := ⟨w.heap.size + 1, 12, none⟩) (by simp) (.slice none 0 0)
        replace hO := Blk.far hO (p := ⟨w.heap.size + 1, 12, none⟩) hno (.slice none 0 0)
        replace hG := Blk.far hG (p := ⟨w.heap.size + 1, 12, none⟩) hng (.slice none 0 0)
        replace hb := Below.setCell hb (p := ⟨w.heap.size + 1, 12, none⟩) (by simp <;> omega) (.slice none 0 0)
        replace hS : Blk _ (w.heap.size + 1) 43 (stC 5 m) := Blk.set_ hS 11 (.slice none 0 0)
        replace hW := Blk.far hW (p := ⟨w.heap.size + 1, 11, none⟩) (by simp) (.slice none 0 0)
        replace hR := Blk.far hR (p := ⟨w.heap.size + 1, 11, none⟩) (by simp) (.slice none 0 0)
        replace hO := Blk.far hO (p := ⟨w.heap.size + 1, 11, none⟩) hno (.slice none 0 0)
        replace hG := Blk.far hG (p := ⟨w.heap.size + 1, 11, none⟩) hng (.slice none 0 0)
        replace hb := Below.setCell hb (p := ⟨w.heap.size + 1, 11, none⟩) (by simp <;> omega) (.slice none 0 0)
        replace hS : Blk _ (w.heap.size + 1) 43 (stC 5 m) := Blk.set_ hS 13 (.slice none 0 0)
        replace hW := Blk.far hW (p := ⟨w.heap.size + 1, 13, none⟩) (by simp) (.slice none 0 0)
        replace hR := Blk.far hR (p := ⟨w.heap.size + 1, 13, none⟩) (by simp) (.slice none 0 0)
        replace hO := Blk.far hO (p := ⟨w.heap.size + 1, 13, none⟩) hno (.slice none 0 0)
        replace hG := Blk.far hG (p := ⟨w.heap.size + 1, 13, none⟩) hng (.slice none 0 0)
        replace hb := Below.setCell hb (p := ⟨w.heap.size + 1, 13, none⟩) (by simp <;> omega) (.slice none 0 0)
        obtain ⟨W5, hW5⟩ : ∃ W5, ((((wx.setCell ⟨w.heap.size + 1, 7, none⟩ (.slice none 0 0)).setCell ⟨w.heap.size + 1, 12, none⟩ (.slice none 0 0)).setCell ⟨w.heap.size + 1, 11, none⟩ (.slice none 0 0)).setCell ⟨w.heap.size + 1, 13, none⟩ (.slice none 0 0)) = W5 := ⟨_, rfl⟩
        rw [hW5] at hS hW hR hO hG hb ⊢
        clear hW5 q1 q2 q3 p1 p2 p3
        obtain ⟨S, hSS⟩ : ∃ S : World → Prop, ∀ W', S W' ↔ (Blk W' (w.heap.size + 1) 43 (stC 5 m) ∧ Blk W' w.heap.size 57 (wkC (FS p) r) ∧ Blk W' (w.heap.size + 1 + 1) 43 (stC 0 0) ∧ (fun W' => Blk W' p 3 #[.int .i64 by_]) W' ∧ Below w.heap.size w W') := ⟨_, fun _ => Iff.rfl⟩
        have hS0 : S W5.drew := (hSS _).2 ⟨hS.drew, hW.drew, hR.drew, hO.drew, hb.drew⟩
        have GS : ∀ (q : Held S) (i : Nat), q.w.cell? ⟨w.heap.size + 1, i, none⟩ = (stC 5 m)[i]? := fun q i => ((hSS q.w).1 q.h).1.cell i
        have GF : ∀ (q : Held S) (i : Nat), q.w.frozen? ⟨w.heap.size + 1, i, none⟩ = false := fun q i => ((hSS q.w).1 q.h).1.frozen i
        have GW : ∀ (q : Held S) (i : Nat), q.w.cell? ⟨w.heap.size, i, none⟩ = (wkC (FS p) r)[i]? := fun q i => ((hSS q.w).1 q.h).2.1.cell i
        have hat : ∀ q : Held S, Calls Tryz.prog 24 #[.agg (wkC (FS p) r), .slice none 0 0] q.w (fun e w'' => e = .returned (.slice none 0 0) ∧ ∃ p : Held S, w'' = p.w) := fun q => (wstmts_nil (FS p) r q.w).mono fun e w' h => ⟨h.1, by
          obtain ⟨t1, t2, t3, t4, t5⟩ := (hSS q.w).1 q.h
          refine ⟨⟨w', (hSS w').2 ?_⟩, rfl⟩
          rw [h.2]
          exact ⟨t1.alloc _, t2.alloc _, t3.alloc _, t4.alloc _, t5.alloc (Nat.le_trans hB0 t5.size) _⟩⟩
        have hst : ∀ (q : Held S) (j : Nat), (j = 8 ∨ j = 9 ∨ j = 10) → q.w.setCell ⟨w.heap.size + 1, j, none⟩ (.slice none 0 0) = q.w := fun q j hj => by
          have t1 := ((hSS q.w).1 q.h).1
          rcases hj with rfl | rfl | rfl <;> exact setCell_same t1 rfl
        have HAT := Lib.hid hat
        have HST := Lib.hid hst
        have HSS := Lib.hid hSS
        unfold stC at GS
        simp only [wkC, FS, FL] at GW
        clear hat hst hSS hS hW hR hO hG hb
        as_aux_lemma =>
        refine wp_region_quiet (C := fun w' => ∃ p : Held S, w' = p.w) (by kernel_rfl) (by kernel_rfl) (isHeld_mk hS0) ?_
        repeat (first | go_big_quiet_step (first | rfl | exact HAT.out _) | quiet_step (first | rfl | exact HAT.out _))
        refine wpQuiet_step (fun K hK => ?_)
        go_simp
        refine ⟨⟨undef, fun q => ⟨HST.out q _ (by simp), rfl⟩⟩, hK _ ?_⟩
        clear hK K
        repeat (first | go_big_quiet_step (first | rfl | exact HAT.out _) | quiet_step (first | rfl | exact HAT.out _))
        refine wpQuiet_step (fun K hK => ?_)
        go_simp
        refine ⟨⟨undef, fun q => ⟨HST.out q _ (by simp), rfl⟩⟩, hK _ ?_⟩
        clear hK K
        repeat (first | go_big_quiet_step (first | rfl | exact HAT.out _) | quiet_step (first | rfl | exact HAT.out _))
        refine wpQuiet_step (fun K hK => ?_)
        go_simp
        refine ⟨⟨undef, fun q => ⟨HST.out q _ (by simp), rfl⟩⟩, hK _ ?_⟩
        clear hK K
        refine wpQuiet_nil ?_
        intro w9 hwq
        obtain ⟨⟨W6, hq⟩, hwq'⟩ := hwq
        subst hwq'
        replace hq := (HSS.out _).1 hq
        obtain ⟨hS6, hW6, hR6, hO6, hb6⟩ := hq
        clear GS GF GW HAT HST HSS hS0
        obtain ⟨q1, q2, q3⟩ := hS6.rules
        unfold stC at q1
        have HR6 := Lib.hid hR6
        have HB6 := Lib.hid hb6
        clear hW6 hO6 hb6 hS6 hR6
        go_wp2_with (refine wpList_store_row rfl 43 (.tmp 4) (.tmp 141) rfl (w.heap.size + 1 + 1) (stC 5 m) rfl rfl 43 (stC 0 0) HR6.out (by kernel_rfl) rfl (by simp [stC, Value.oneCell']) ?_)
        have hF : Blk (w9.setRow (w.heap.size + 1 + 1) (stC 5 m)) (w.heap.size + 1 + 1) 43 (stC 5 m) := setRow_heap w9 _ _ _ _ _ HR6.out
        have hBB : Below w.heap.size w (w9.setRow (w.heap.size + 1 + 1) (stC 5 m)) := ⟨HB6.out.os, HB6.out.tape, HB6.out.output, by simpa using HB6.out.size, fun k hk => (setRow_other _ _ _ _ (by omega)).trans (HB6.out.block k hk)⟩
        exact ret_blk rfl rfl hF _ Tryz.underlying43 rfl (by kernel_rfl) rfl ⟨rfl, hBB⟩

end Go.Proofs.YtegfhjndbnipfaaGreatDoor
