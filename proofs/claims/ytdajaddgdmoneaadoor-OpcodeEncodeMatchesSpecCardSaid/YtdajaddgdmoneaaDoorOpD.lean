/- Walks: the names and operands of the program's table. Nothing is claimed here. -/
import Derived.Test.YtdajaddgdmoneaaDoorOpC
import Derived.Test.YtdajaddgdmoneaaDoorOpT
namespace Go.Proofs.YtdajaddgdmoneaaDoor
open Go.RowKit
set_option linter.unusedVariables false

theorem opTab_len : opTab.length = 80 := rfl

def TabPost (w : World) (e : Ending) (w' : World) : Prop :=
  ∃ b, e = .returned (.slice (some ⟨b, 0, none⟩) 80 80) ∧ Row w' (some ⟨b, 0, none⟩) (opTab.flatMap enc) ∧ Below w.heap.size w w'

theorem table_row (w : World) : Calls Tryd.prog 16 #[] w (TabPost w) := by
  refine (table_any w).mono ?_
  rintro e w' ⟨rfl, rfl⟩
  refine ⟨_, rfl, .inr ⟨w.heap.size, 0, rfl, by simp, fun j u hu => ?_⟩, (Below.refl _ _).alloc (Nat.le_refl _) _⟩
  have h := (Blk.new w 50 (opTab.flatMap enc).toArray).cell (0 + j)
  rw [h]
  simpa using hu

theorem Row.ent {w : World} {A : Option Addr} (h : Row w A (opTab.flatMap enc)) {k : Nat} (hk : k < 80) :
    ∃ b off, ∃ s : List UInt8, ∃ x y : Nat, A = some ⟨b, off, none⟩ ∧ b < w.heap.size ∧ Hid (opTab[k]? = some (s, x, y)) ∧ w.cell? ⟨b, off + k * 3, none⟩ = some (.string ⟨s.toArray⟩) ∧ w.cell? ⟨b, off + k * 3 + 1, none⟩ = some (.int .i64 x) ∧ w.cell? ⟨b, off + k * 3 + 2, none⟩ = some (.int .i64 y) := by
  have hk' : k < opTab.length := hk
  obtain ⟨b, off, e, hlt, hc⟩ := h.elem enc_len (by omega) hk'
  exact ⟨b, off, opTab[k].1, opTab[k].2.1, opTab[k].2.2, e, hlt, Lib.hid (List.getElem?_eq_getElem hk'), hc 0 _ (by omega) rfl, hc 1 _ (by omega) rfl, hc 2 _ (by omega) rfl⟩

theorem info_str : (Tryd.prog.info? 9).map (fun i => (i.zero, i.size, i.bytes)) = some (some (.string ByteArray.empty), 1, 16) := by kernel_rfl

def nameL : List (List UInt8) := opTab.map (·.1)
theorem nameL_len : nameL.length = 80 := rfl
theorem strs_snoc {l : List (List UInt8)} {k : Nat} (h : k < l.length) : strs (l.take (k + 1)) = strs (l.take k) ++ [.string ⟨l[k].toArray⟩] := by
  rw [List.take_succ_eq_append_getElem h]; rw [strs, List.map_append]; rfl
theorem cell_one_at {w : World} {g o : Nat} {x : Value} (h : w.cell? ⟨g, o, none⟩ = some x) : ∀ j u, [x][j]? = some u → w.cell? ((⟨g, o, none⟩ : Addr).add j) = some u := by
  intro j u hj
  match j, hj with
  | 0, hj =>
    simp at hj
    subst hj
    rw [Go.WideShapes.add_plain]
    exact h

def StrPost (l : List (List UInt8)) (w : World) (e : Ending) (w' : World) : Prop :=
  ∃ A c, e = .returned (.slice A l.length c) ∧ Row w' A (strs l) ∧ Below w.heap.size w w'

set_option maxHeartbeats 400000 in
theorem names_any (w : World) : Calls Tryd.prog 12 #[] w (StrPost nameL w) := by
  obtain ⟨i0, hi, hz0, hz1, hz2⟩ := info_parts info_str
  go_enter Tryd.func12, Tryd.ntmps12
  go_wp2_with fail
  refine (table_row _).mono ?_
  rintro e w1 ⟨tb, rfl, hrow, hb1⟩
  go_wp2_with fail
  go_loopw [1, 6] (fun v i wr => ∃ k : Nat, k ≤ 80 ∧ i = .int .i64 k ∧ wr.ownsRow w1.heap.size 9 1 v k (strs (nameL.take k)) ∧ Below w1.heap.size w1 wr) (fun _ i _ => 80 - (intOf i).toNat)
  case atStart => exact ⟨0, Nat.zero_le _, rfl, World.ownsRow_nil _ _ _ _, Below.refl _ _⟩
  case round =>
    obtain ⟨k, hk, rfl, hown, hb0⟩ := hrel
    by_cases hlt : k < 80
    · obtain ⟨b, off, s, x, y, hA, had, hE, h1, h2, h3⟩ := (hrow.keepB hb0).ent (k := k) hlt
      injection hA with hA
      injection hA with hA1 hA2
      subst hA1 hA2
      simp only [Nat.zero_add] at h1 h2 h3
      have hsz := hb0.size
      go_wp2_with (at_builtin; refine wpList_append_own_at _ rfl (.tmp 10) (.tmp 13) 35 rfl w1.heap.size 9 i0 (.string ByteArray.empty) 1 16 Tryd.underlying35 hi hz0 hz1 hz2 rfl (by decide) _ _ _ rfl ((hown.alloc _).alloc _) ⟨wr.heap.size + 1, 0, none⟩ 1 1 [.string ⟨s.toArray⟩] rfl rfl (cell_one_at (by simp)) (by simp [Value.oneCell']) (by unfold maxLen; omega) (by omega) (by simp; omega) ?_; intro v2 w2 hown2 hg2 _ hat2)
      have hb2 := ((hb0.alloc hb0.size _).alloc (by simp; omega) _).grown hg2 (by simp; omega) (fun g e => by have := hown.lt g e; omega)
      have hkn : k < nameL.length := hlt
      have en : nameL[k] = s := by
        have h := congrArg (Option.map (·.1)) hE.out
        rw [← List.getElem?_map] at h
        exact Option.some.inj ((List.getElem?_eq_getElem hkn).symm.trans h)
      go_roundw
      case rel =>
        refine ⟨k + 1, by omega, by go_num, ?_, hb2⟩
        rw [strs_snoc hkn, en]
        exact hown2
      case measure => simp [intOf]; omega
    · obtain rfl : k = 80 := by omega
      obtain ⟨A, c, rfl, hr, _⟩ := own_form hown
      go_wp2_with fail
      go_ret
      exact ⟨A, c, rfl, hr, below_then hb1 hb0 hb1.size⟩

end Go.Proofs.YtdajaddgdmoneaaDoor
