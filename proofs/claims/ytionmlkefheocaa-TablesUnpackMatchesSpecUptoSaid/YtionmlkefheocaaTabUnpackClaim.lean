/-
  For all packed bytes of bulk at most 1048576: the law TablesUnpackMatchesSpec returns true and leaves its argument as it was.
-/
import Derived.Test.YtionmlkefheocaaRows
import Derived.Test.YtionmlkefheocaaUnpL
import Derived.Test.YtionmlkefheocaaOpen
import Derived.ShutString
import Derived.ChangeOld
import Derived.JoinedCond
namespace Go.Proofs.Ytionmlkefheocaa.tablesUnpack
open Go.ChangeShapes Go.WideShapes Go.ChangeAt Go.RowKit
set_option linter.unusedVariables false

theorem own : ownKnob Try.prog.godebug = none := by kernel_rfl
theorem laidOut : laidOutB Try.prog = true := by kernel_rfl

theorem bulk_lits {H : Type} : ∀ l : List Int, Rows.uptoBulkAll (H := H) (lits .u8 l) = l.length
  | [] => rfl
  | n :: l => by
    have ih := bulk_lits (H := H) l
    simp only [lits, List.map_cons, Rows.uptoBulkAll, Rows.uptoBulk, List.length_cons] at ih ⊢
    omega

theorem walk (A : Option Addr) (c : Nat) (b : List Int) (w : World) (hl : b.length ≤ 1048576) (hby : ∀ x ∈ b, 0 ≤ x ∧ x ≤ 255) (hA : Row w A (bcs b)) :
    Calls Try.prog 4 #[.slice A b.length c] w fun e w' => e = .returned (.bool true) ∧ Below w.heap.size w w' :=
  lawUnpack_a A c b (unpackL b).1 (unpackC b).1 (unpackL b).2.1 (unpackL b).2.2 (unpackC b).2.1 (unpackC b).2.2 w (by omega) hby hA rfl rfl

set_option maxRecDepth 100000 in
theorem lifted (os : Os) (started : os.Started) (H : Type) (enc : TypeId × Value → H) (F : Stop.Interp) :
    ReturnsInHanded {} Try.checked os 4 .any ((Rows.OpenSpec.upto Rows.tablesUnpackMatchesSpecSpec).pre6 enc Try.prog Try.f4 Rows.tablesUnpackMatchesSpecUptoRow.domain false) (((Rows.OpenSpec.upto Rows.tablesUnpackMatchesSpecSpec).at F).post enc Try.prog Try.f4 false true false false) := by
  refine returnsInHanded_of_cond (C := Try.checked) (s := Rows.OpenSpec.upto Rows.tablesUnpackMatchesSpecSpec) (k := Rows.uptoSmall) rfl own started (by kernel_rfl) Try.func4
    (OpenSpec.witness (enc := enc) (C := Try.checked) (s := Rows.OpenSpec.upto Rows.tablesUnpackMatchesSpecSpec) (k := Rows.uptoSmall) rfl false ⟨#[], #[.slice none 0 0], []⟩ 8 (by kernel_rfl) (by kernel_rfl) (by kernel_rfl)
      (x := ([.nil], [], [])) (by kernel_rfl) rfl (by kernel_rfl)) ?_
  intro W base args ds gs before hval0 hW _ hk _
  have hval : ∀ (j : Nat) t v, Try.f4.params[j]? = some t → args[j]? = some v → Value.okWide Try.prog W .any base t v := hval0
  have hW' := hW
  obtain ⟨p, q, hA0, hV, rfl, hfz, hnd⟩ := hW
  have hA : DataW.TrodAll enc Try.prog W 0 (fun _ => true) true Try.f4.params.toList args.toList ds p := hA0
  rw [Try.params4] at hA hval
  obtain ⟨v0, vs0, d0, ds0, p0, q0, hargs, rfl, rfl, h0, r0⟩ := trodAll_cons hA
  obtain ⟨rfl, rfl, rfl⟩ := trodAll_nil r0
  obtain rfl : args = #[v0] := by cases args; simp_all
  obtain ⟨rfl, rfl⟩ := trodVars_none hV
  obtain ⟨a0, len0, cap0, rfl⟩ := okWide_slice Try.underlying29 (hval 0 29 v0 rfl rfl)
  have k0 := h0
  have lt0 : ∀ x ∈ p0, x.block < W.heap.size := by obtain ⟨m, hm⟩ := k0; exact DataW.trod_lt m _ _ _ hm
  have hk' : Rows.uptoBulkAll (H := H) [d0] ≤ 1048576 := of_decide_eq_true hk
  obtain ⟨b, hl, hm, hby, hrow⟩ : ∃ b : List Int, b.length = len0 ∧ b.length ≤ 1048576 ∧ (∀ x ∈ b, 0 ≤ x ∧ x ≤ 255) ∧ Row W a0 (bcs b) := by
    obtain ⟨fuel, hf⟩ := h0
    rcases open_ints Try.underlying29 Try.underlying5 (by kernel_rfl) hf with ⟨hcs, _⟩ | ⟨x, len, cap, zs, hcs, hbb, hl, hm, hz, hx, hcell, hwz⟩
    · simp [Value.cells] at hcs
      obtain ⟨rfl, rfl, rfl⟩ := hcs
      exact ⟨[], rfl, by simp, by simp, .inl rfl⟩
    · simp [Value.cells] at hcs
      obtain ⟨rfl, rfl, rfl⟩ := hcs
      simp only [Prod.mk.injEq] at hx
      obtain ⟨rfl, rfl⟩ := hx
      have hzl : len0 ≤ zs.length := by rw [hz]; split <;> omega
      have htl : (zs.take len0).length = len0 := by simp; omega
      simp only [Rows.uptoBulkAll, Rows.uptoBulk, bulk_lits] at hk'
      refine ⟨zs.take len0, htl, by omega, fun n hn => ?_, ?_⟩
      · have := hwz n (List.mem_of_mem_take hn)
        simp [Lit.wf] at this
        have e1 : IntKind.u8.min = 0 := by rfl
        have e2 : IntKind.u8.max = 255 := by rfl
        omega
      · by_cases h0' : len0 = 0
        · left
          subst h0'
          simp [bcs]
        · obtain ⟨ab, ao, spot⟩ := x
          have hspot : spot = none := by simpa [Addr.add] using World.cell?_spot (hcell 0 (by omega))
          subst hspot
          refine .inr ⟨ab, ao, rfl, ?_, fun j u hu => ?_⟩
          · exact World.block_lt_of_cell? W _ (hcell 0 (by omega))
          · rw [bcs, List.getElem?_map] at hu
            have hj : j < (zs.take len0).length := by
              cases h : (zs.take len0)[j]? with
              | none => rw [h] at hu; simp at hu
              | some y => exact (List.getElem?_eq_some_iff.1 h).1
            rw [List.getElem?_eq_getElem hj] at hu
            simp at hu
            have := hcell j (by omega)
            rw [Go.WideShapes.add_plain] at this
            rw [List.getD_eq_getElem?_getD, List.getElem?_eq_getElem (by omega)] at this
            rw [← hu]
            simpa using this
  subst hl
  clear hA0 hval0 hk'
  refine (walk a0 cap0 b W hm hby hrow).mono fun e W' ⟨he, bel⟩ => ?_
  subst he
  exact ⟨_, rfl, _, _, _, [], _, [], hW', trodAll_mk1 (shut_bool Try.underlying4 _), (trodAll_cons_mk (Below.trod laidOut (by kernel_rfl) (of_decide_eq_true (by kernel_rfl)) k0 bel lt0) trodAll_mk0), rfl, bel.frame _, fun h => by cases h⟩

theorem proved : Rows.TablesUnpackMatchesSpecUptoSaid :=
  OpenClaim.holds_of_cond 4 Try.f4 rfl rfl rfl rfl rfl rfl rfl ⟨rfl, rfl, rfl, rfl, rfl⟩ rfl rfl rfl rfl rfl (by kernel_rfl) Try.func4 (by kernel_rfl)
    (of_decide_eq_true (by kernel_rfl)) (by unfold Func.isWrapper; first | (rw [if_pos (by decide +kernel)]; kernel_rfl) | (rw [if_neg (by decide +kernel)]; exact ⟨rfl, rfl⟩))
    (fun os started H enc _ F => lifted os started H enc F)

#print axioms proved
end Go.Proofs.Ytionmlkefheocaa.tablesUnpack
