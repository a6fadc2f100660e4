/- The built-in names: classOf and Named. Nothing is claimed here. -/
import Derived.Test.YtfpmnkokmlghmaaDoorBltH
namespace Go.Proofs.YtfpmnkokmlghmaaDoor
open Go.RowKit Go.Lib Go.Shelf
set_option linter.unusedVariables false

theorem row_ob {w : World} {A : Option Addr} {objs : List Ob} (h : Row w A (objs.flatMap Ob.cells)) {j : Nat} {o : Ob} (ho : objs[j]? = some o) :
    ∃ g off, A = some ⟨g, off, none⟩ ∧ g < w.heap.size ∧ ∀ i u, o.cells[i]? = some u → w.cell? ⟨g, off + (10 * j + i), none⟩ = some u := by
  have hj : j < objs.length := (List.getElem?_eq_some_iff.1 ho).1
  rcases h with h | ⟨b, off, e, hlt, hc⟩
  · exfalso
    have := flat_ob objs j 0 o ho (by decide)
    rw [h] at this
    simp [Ob.cells] at this
  · refine ⟨b, off, e, hlt, fun i u hu => ?_⟩
    have hi : i < 10 := by
      have := (List.getElem?_eq_some_iff.1 hu).1
      simpa [Ob.cells] using this
    exact hc (10 * j + i) u ((flat_ob objs j i o ho hi).trans hu)
set_option maxRecDepth 1000000 in
theorem heap_field (A : Option Addr) (n c : Nat) (W : World) : (Instr.field 56 (.agg #[.slice A n c]) 0).run Tryd.prog W = .ok (.slice A n c) W := by
  first | rfl | kernel_rfl
theorem idx_at {n : List UInt8} : ∀ (l : List (List UInt8)) (k : Nat), l[k]? = some n → (l.take k).contains n = false → l.idxOf n = k
  | [], _, h, _ => by simp at h
  | x :: l, 0, h, _ => by
    have : x = n := by simpa using h
    subst this
    simp
  | x :: l, k + 1, h, h2 => by
    rw [List.take_succ_cons, List.contains_cons, Bool.or_eq_false_iff] at h2
    have hx : (x == n) = false := by
      have := h2.1
      rw [beq_eq_false_iff_ne] at this ⊢
      exact fun e => this e.symm
    rw [List.idxOf_cons, hx, idx_at l k (by simpa using h) h2.2]
    rfl
/-- the place of a class -/
def clsI (n : List UInt8) : Int := if clsL.contains n then (clsL.idxOf n : Int) else 0
set_option maxRecDepth 100000 in
set_option maxHeartbeats 4000000 in
theorem classOf_any (n : List UInt8) (w : World) (he : Env w) : Calls Tryd.prog 15 #[.string ⟨n.toArray⟩] w fun e w' => e = .returned (.tuple #[.int .i64 (clsI n), .bool (clsL.contains n)]) ∧ Below w.heap.size w w' := by
  obtain ⟨b, hbb⟩ : ∃ b, w.heap.size = b := ⟨_, rfl⟩
  have HB := Lib.hid hbb
  obtain ⟨cb, hcb⟩ : ∃ cb, clsL.contains n = cb := ⟨_, rfl⟩
  obtain ⟨ci, hci⟩ : ∃ ci, clsI n = ci := ⟨_, rfl⟩
  rw [hcb, hci]
  have HCB := Lib.hid hcb
  have HCI := Lib.hid hci
  clear hbb hcb hci
  go_enter Tryd.func15, Tryd.ntmps15
  go_wp2_with fail
  refine (start_any w he).mono ?_
  rintro e w1 ⟨A, c, objs, rfl, HNM, hrow, hb⟩
  have hol : objs.length = 49 := by
    have := congrArg List.length HNM.out
    rw [List.length_map] at this
    exact this
  rw [HB.out] at hb
  have hr0 := hrow
  have HR := Lib.hid hr0
  have hs1 := hb.size
  rw [HB.out] at hs1
  clear hr0
  have hfld := fun W => heap_field A 49 c W
  have hw1 := hb
  go_wp2_with fail
  go_loopw [9] (fun i wr => ∃ (k : Nat), k ≤ 49 ∧ i = .int .i64 (k : Int) ∧ Hid ((clsL.take k).contains n = false) ∧ Below w1.heap.size w1 wr) (fun i _ => 49 - (RowKit.intOf i).toNat)
  case atStart => exact ⟨0, by omega, rfl, Lib.hid rfl, Below.refl _ _⟩
  case round =>
    obtain ⟨k, hk, rfl, HC, hbr⟩ := hrel
    have hbw := hb.trans (hbr.mono hs1)
    by_cases hlt : k < 49
    · obtain ⟨o, ho⟩ : ∃ o, objs[k]? = some o := ⟨objs[k]'(by omega), List.getElem?_eq_getElem (by omega)⟩
      obtain ⟨g, off, rfl, hg, hcl⟩ := row_ob (HR.out.keepB hbr) ho
      have HX : Hid (clsL[k]? = some o.name) := Lib.hid (by rw [← HNM.out, List.getElem?_map, ho]; rfl)
      clear ho
      obtain ⟨nm, ra, rl, rc, ob, on, oc⟩ := o
      have hcm : ∀ i u, (Ob.cells ⟨nm, ra, rl, rc, ob, on, oc⟩)[i]? = some u → wr.cell? ⟨g, off + k * 10 + i, none⟩ = some u := fun i u h => by rw [show off + k * 10 + i = off + (10 * k + i) by omega]; exact hcl i u h
      have c0 := hcm 0 _ rfl
      rw [Nat.add_zero] at c0
      have c1 := hcm 1 _ rfl
      have c2 := hcm 2 _ rfl
      have c3 := hcm 3 _ rfl
      have c4 := hcm 4 _ rfl
      have c5 := hcm 5 _ rfl
      have c6 := hcm 6 _ rfl
      have c7 := hcm 7 _ rfl
      have c8 := hcm 8 _ rfl
      have c9 := hcm 9 _ rfl
      unfold Ob.ord at c4
      unfold Ob.refs at c3
      dsimp only at c1 c3 c4
      clear hcm
      clear hcl
      have hba := hbr.alloc hbr.size (.cells #[.int .i64 9, .string ⟨nm.toArray⟩, .int .i64 0, .slice ra rl rc, .slice (some ⟨ob, 0, none⟩) on oc, .slice none 0 0, .slice none 0 0, .slice none 0 0, .int .i64 0, .int .i64 0] 60)
      have hbb2 := hb.trans (hba.mono hs1)
      cases hq : (nm == n)
      · have HN : Hid ((clsL.take (k + 1)).contains n = false) := Lib.hid (by
          rw [List.take_add_one, HX.out]
          have h1 := HC.out
          have h2 : (n == nm) = false := by rw [beq_eq_false_iff_ne] at hq ⊢; exact fun e => hq e.symm
          simp only [List.contains_eq_mem, decide_eq_false_iff_not, Option.toList_some, List.mem_append, List.mem_singleton, not_or] at h1 ⊢
          exact ⟨h1, by simpa using h2⟩)
        go_wp2_with fail
        go_roundw
        case rel => exact ⟨k + 1, by omega, by go_num, HN, hba⟩
        case measure => simp [RowKit.intOf]; omega
      · have hnm : nm = n := beq_iff_eq.1 hq
        have HT : Hid (clsL.contains n = true) := Lib.hid (by rw [List.contains_iff_mem, ← hnm]; exact List.mem_of_getElem? HX.out)
        have HI : Hid (clsI n = (k : Int)) := Lib.hid (by unfold clsI; rw [HT.out, if_pos rfl, idx_at clsL k (by rw [← hnm]; exact HX.out) HC.out])
        clear hnm
        go_wp2_with fail
        go_ret2
        exact ⟨by rw [← HCI.out, ← HCB.out, HT.out, HI.out]; rfl, by rw [HB.out]; exact hbb2⟩
    · have hk9 : k = 49 := by omega
      subst hk9
      have HF : Hid (clsL.contains n = false) := Lib.hid (by have := HC.out; rwa [show clsL.take 49 = clsL from by rw [show 49 = clsL.length from by decide +kernel, List.take_length]] at this)
      go_wp2_with fail
      go_ret2
      exact ⟨by rw [← HCI.out, ← HCB.out]; unfold clsI; rw [HF.out]; rfl, by rw [HB.out]; exact hbw⟩
theorem contains_any (s : List UInt8) (c : UInt8) (w : World) : Calls Tryd.prog 18 #[.string ⟨s.toArray⟩, .string ⟨#[c]⟩] w fun e w' => e = .returned (.bool (s.contains c)) ∧ w = w' := by
  refine (Tryd.strings_Contains_one ⟨s.toArray⟩ c w).mono ?_
  rintro e w' ⟨rfl, rfl⟩
  exact ⟨by rw [contains_iff_indexByte], rfl⟩
end Go.Proofs.YtfpmnkokmlghmaaDoor
