/-
  For every table of catches and every instruction: the law TablesCatchesMatchSpec returns true and leaves its arguments as they were. No condition.
-/
import Derived.Test.YtionmlkefheocaaRows
import Derived.Test.YtionmlkefheocaaCatL
import Derived.Test.YtionmlkefheocaaOpen
import Derived.ShutString
import Derived.ChangeOld
namespace Go.Proofs.Ytionmlkefheocaa.tablesCatches
open Go.ChangeShapes Go.WideShapes Go.ChangeAt Go.RowKit
open Go.ChangeMaps (open_string shut_string)
set_option linter.unusedVariables false

theorem own : ownKnob Try.prog.godebug = none := by kernel_rfl
theorem laidOut : laidOutB Try.prog = true := by kernel_rfl

theorem walk (A : Option Addr) (c : Nat) (l : List Catch) (a : Int) (w : World) (hl : l.length ≤ maxLen) (hlc : l.length ≤ c) (hm : Row w A (l.flatMap ctc)) :
    Calls Try.prog 5 #[.slice A l.length c, .int .i64 a] w fun e w' => e = .returned (.bool true) ∧ Below w.heap.size w w' := by
  unfold maxLen at hl
  rcases catchesFault_ne l with h | h
  · exact lawCatches_ok A c l a w hlc hm h
  · exact lawCatches_bad A c l a (catchesFault l).1 (catchesFault l).2 w (by omega) hm rfl (by simpa using h) (by simpa using h) h

set_option maxRecDepth 100000 in
theorem lifted (os : Os) (started : os.Started) (H : Type) (enc : TypeId × Value → H) :
    ReturnsInHanded {} Try.checked os 5 .any (Rows.tablesCatchesMatchSpecSpec.pre6 enc Try.prog Try.f5 Rows.tablesCatchesMatchSpecRow.domain false) (Rows.tablesCatchesMatchSpecSpec.post enc Try.prog Try.f5 false true false false) := by
  refine returnsInHanded_of_change (C := Try.checked) own started (by kernel_rfl) Try.func5
    (ChangeSpec.witness6 (enc := enc) (C := Try.checked) false ⟨#[], #[.slice none 0 0, .int .i64 0], []⟩ 8 (by kernel_rfl) (by kernel_rfl) (by kernel_rfl) (by kernel_rfl)) ?_
  intro W base args ds gs before hval0 hW hcnd _
  have hval : ∀ (j : Nat) t v, Try.f5.params[j]? = some t → args[j]? = some v → Value.okWide Try.prog W .any base t v := hval0
  have hW' := hW
  obtain ⟨p, q, hA0, hV, rfl, hfz, hnd⟩ := hW
  have hA : DataW.TrodAll enc Try.prog W 0 (fun _ => true) true Try.f5.params.toList args.toList ds p := hA0
  rw [Try.params5] at hA hval
  obtain ⟨v0, vs0, d0, ds0, p0, q0, hargs, rfl, rfl, h0, r0⟩ := trodAll_cons hA
  obtain ⟨v1, vs1, d1, ds1, p1, q1, rfl, rfl, rfl, h1, r1⟩ := trodAll_cons r0
  obtain ⟨rfl, rfl, rfl⟩ := trodAll_nil r1
  obtain rfl : args = #[v0, v1] := by cases args; simp_all
  obtain ⟨rfl, rfl⟩ := trodVars_none hV
  obtain ⟨a0, len0, cap0, rfl⟩ := okWide_slice Try.underlying47 (hval 0 47 v0 rfl rfl)
  have k0 := h0
  have lt0 : ∀ x ∈ p0, x.block < W.heap.size := by obtain ⟨m, hm⟩ := k0; exact DataW.trod_lt m _ _ _ hm
  obtain ⟨l, hl, hm, hlc, hrow⟩ : ∃ l : List Catch, l.length = len0 ∧ l.length ≤ maxLen ∧ l.length ≤ cap0 ∧ Row W a0 (l.flatMap ctc) := by
    obtain ⟨fuel, hf⟩ := h0
    rcases open_slice_fields Try.underlying47 Try.underlying51 (by kernel_rfl) (by kernel_rfl) hf with ⟨hcs, _⟩ | ⟨x, len, cap, m, D, Pl, hcs, hbb, hl, hm, hmm, _, hi⟩
    · simp [Value.cells] at hcs
      obtain ⟨rfl, rfl, rfl⟩ := hcs
      exact ⟨[], rfl, by simp, by simp, .inl rfl⟩
    · simp [Value.cells] at hcs
      obtain ⟨rfl, rfl, rfl⟩ := hcs
      have hmn : len0 ≤ m := by rw [hmm]; split <;> omega
      obtain ⟨l, h1, _, h3⟩ := row_of_cells (n := len0) ctc 4 ctc_len (by omega) (fun _ => True) (a := x) (w := W) (fun hn => by
          obtain ⟨ys, n, _, _, _, hf⟩ := hi 0 (by omega)
          obtain ⟨v, y, hcell, _⟩ := hf 0 _ rfl
          have := World.block_lt_of_cell? W _ hcell
          rwa [add_block] at this) (fun i hi' => by
        obtain ⟨ys, n, _, _, _, hf⟩ := hi i (by omega)
        obtain ⟨u0, y0, hc0, _, ht0⟩ := hf 0 _ rfl
        obtain ⟨u1, y1, hc1, _, ht1⟩ := hf 1 _ rfl
        obtain ⟨u2, y2, hc2, _, ht2⟩ := hf 2 _ rfl
        obtain ⟨u3, y3, hc3, _, ht3⟩ := hf 3 _ rfl
        obtain ⟨z0, e0, _, _⟩ := DataW.trod_int Try.underlying3 ht0
        obtain ⟨z1, e1, _, _⟩ := DataW.trod_int Try.underlying3 ht1
        obtain ⟨z2, e2, _, _⟩ := DataW.trod_int Try.underlying3 ht2
        obtain ⟨z3, e3, _, _⟩ := DataW.trod_int Try.underlying3 ht3
        simp at e0 e1 e2 e3
        subst e0
        subst e1
        subst e2
        subst e3
        refine ⟨(z0, z1, z2, z3), trivial, fun j u hu => ?_⟩
        match j, hu with
        | 0, hu => simp [ctc] at hu; subst hu; exact hc0
        | 1, hu => simp [ctc] at hu; subst hu; exact hc1
        | 2, hu => simp [ctc] at hu; subst hu; exact hc2
        | 3, hu => simp [ctc] at hu; subst hu; exact hc3)
      exact ⟨l, h1, by omega, by omega, h3⟩
  subst hl
  obtain ⟨a1, rfl, rfl, rfl, w1⟩ := open_int Try.underlying3 (hval 1 3 v1 rfl rfl) h1
  clear hA0 hval0
  refine (walk a0 cap0 l a1 W hm hlc hrow).mono fun e W' ⟨he, bel⟩ => ?_
  subst he
  exact ⟨_, rfl, _, _, _, [], _, [], hW', trodAll_mk1 (shut_bool Try.underlying4 _), (trodAll_cons_mk (Below.trod laidOut (by kernel_rfl) (of_decide_eq_true (by kernel_rfl)) k0 bel lt0) (trodAll_cons_mk (shut_int Try.underlying3 w1) trodAll_mk0)), rfl, bel.frame _, fun h => by cases h⟩

theorem proved : Rows.TablesCatchesMatchSpecSaid :=
  OpenClaim.holds_of_wide 5 Try.f5 rfl rfl rfl rfl rfl rfl rfl ⟨rfl, rfl, rfl, rfl, rfl⟩ rfl rfl rfl rfl rfl (by kernel_rfl) Try.func5 (by kernel_rfl)
    (of_decide_eq_true (by kernel_rfl)) (by unfold Func.isWrapper; first | (rw [if_pos (by decide +kernel)]; kernel_rfl) | (rw [if_neg (by decide +kernel)]; exact ⟨rfl, rfl⟩))
    (fun os started H enc _ => lifted os started H enc)

#print axioms proved
end Go.Proofs.Ytionmlkefheocaa.tablesCatches
