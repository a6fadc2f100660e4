/-
  For every list of instructions and every number of an instruction: the law OpcodeEncodeMatchesSpec returns true and leaves its arguments as they were. No condition; the library's listed variables are tied to the program's text.
-/
import Derived.Test.YtdajaddgdmoneaaDoorCards
import Derived.Test.YtdajaddgdmoneaaDoorTie
import Derived.Test.YtdajaddgdmoneaaDoorOpL
import Derived.Test.YtdajaddgdmoneaaDoorOpen
import Derived.ChangeOld
import Derived.Lay
import Derived.LaidMore
import Derived.Lib.LaidTab
import Derived.Stop.LaidErr
import Derived.Deep.DeepHandedRow
import Derived.Shelf.Vars
import Derived.SevenTiedAt
namespace Go.Proofs.YtdajaddgdmoneaaDoor.opcodeEncode
open Go.ChangeShapes Go.WideShapes Go.ChangeAt Go.RowKit
set_option linter.unusedVariables false

theorem own : ownKnob Tryd.prog.godebug = none := by kernel_rfl
theorem laidOut : laidOutB Tryd.prog = true := by kernel_rfl
theorem gTab : Tryd.prog.globalNamed "strings.asciiSpace" = some 0 := by kernel_rfl
theorem gTabType : (Tryd.prog.globals[0]?).map (·.type) = some 63 := by kernel_rfl
theorem cellsTab : Tryd.prog.cellsOf 63 = 256 := by kernel_rfl
theorem cellsByte : Tryd.prog.cellsOf 5 = 1 := by kernel_rfl
theorem laidEq : Rows.opcodeEncodeMatchesSpecRow.laid = [("unicode.White_Space", Rows.laid_unicode_White_Space), ("strings.asciiSpace", Lib.tabData .u8 Lib.asciiSpaceTab)] := by kernel_rfl
theorem plainLaid (w : World) : laidMetH Tryd.prog Rows.opcodeEncodeMatchesSpecRow.laid w = laidMet Tryd.prog Rows.opcodeEncodeMatchesSpecRow.laid w := MakeChecks.laidMetH_plain _ _ _ (by kernel_rfl)

theorem env {W : World} (hL : laidMetH Tryd.prog Rows.opcodeEncodeMatchesSpecRow.laid W) (hsh : W.ShapedOpen Tryd.prog) : Env W := by
  rw [plainLaid, laidEq] at hL
  obtain ⟨m, hm⟩ := Go.Proofs.cell_of_shapedOpen_int (g := 2) (zero := #[.int .i64 0]) (t := 3) hsh (of_decide_eq_true (by kernel_rfl)) (by kernel_rfl) rfl (by kernel_rfl) (by kernel_rfl) Tryd.underlying3
  exact ⟨Lib.tabIs_of_head (rest := []) gTab gTabType Tryd.underlying63 Tryd.underlying5 cellsByte cellsTab hL.tail, ⟨m, hm⟩, World.block_lt_of_cell? W _ hm⟩

noncomputable def start (os : Os) : World := (World.laidAll Tryd.prog os Rows.opcodeEncodeMatchesSpecRow.laid).forCall (fun _ _ => 0) ⟨#[], #[.slice none 0 0, .int .i64 0], []⟩
theorem startShaped (os : Os) : (start os).Shaped Tryd.prog := World.shaped_of_ZipB (by kernel_rfl) (by kernel_rfl)
theorem startOk (os : Os) : Input.okWideB Tryd.prog (start os) 4 ⟨#[], #[.slice none 0 0, .int .i64 0], []⟩ = true := by kernel_rfl
theorem startLaid (os : Os) : laidMet Tryd.prog Rows.opcodeEncodeMatchesSpecRow.laid (start os).memory := laidMet_laidAll _ (by kernel_rfl) (by kernel_rfl)
theorem reads (os : Os) {H : Type} (enc : TypeId × Value → H) : ∃ places, DataW.whole enc Tryd.prog (start os).memory Tryd.f4.params.toList Rows.opcodeEncodeMatchesSpecSpec.vars false #[Value.slice none 0 0, .int .i64 0].toList 8 = some ([.nil, .lit (.int .i64 0)], [], places) :=
  ⟨[], by kernel_rfl⟩

set_option maxRecDepth 100000 in
theorem lifted (os : Os) (started : os.Started) (H : Type) (enc : TypeId × Value → H) (F : Stop.Interp) :
    ReturnsInHanded {} Tryd.checked os 4 .any ((OpenSpec.ofChange Rows.opcodeEncodeMatchesSpecSpec).preRow enc Tryd.prog Tryd.f4 Rows.opcodeEncodeMatchesSpecRow.domain false Rows.opcodeEncodeMatchesSpecRow.laid) (((OpenSpec.ofChange Rows.opcodeEncodeMatchesSpecSpec).at F).post enc Tryd.prog Tryd.f4 false true false false) := by
  obtain ⟨places, hx⟩ := reads os enc
  refine returnsInHanded_of_row (C := Tryd.checked) (s := OpenSpec.ofChange Rows.opcodeEncodeMatchesSpecSpec) own started (by kernel_rfl) Tryd.func4
    ⟨World.laidAll Tryd.prog os Rows.opcodeEncodeMatchesSpecRow.laid, fun _ _ => 0, ⟨#[], #[.slice none 0 0, .int .i64 0], []⟩, World.laidAll_os _ _ _, startShaped os, rfl, (Input.okWide_of_okWideB (startOk os)).2,
      OpenSpec.preRow_of_cond 8 hx (by kernel_rfl) (fun k hk => by cases hk) (by kernel_rfl) ((plainLaid (start os).memory).symm ▸ startLaid os), by simp [Assume.holds]⟩ ?_
  intro W base args ds gs before hval0 hW _ _ _ hL hsh _
  have hval : ∀ (j : Nat) t v, Tryd.f4.params[j]? = some t → args[j]? = some v → Value.okWide Tryd.prog W .any base t v := hval0
  have hE := env hL hsh
  have hW' := hW
  obtain ⟨p, q, hA0, hV, rfl, hfz, hnd⟩ := hW
  have hA : DataW.TrodAll enc Tryd.prog W 0 (fun _ => true) true Tryd.f4.params.toList args.toList ds p := hA0
  rw [Tryd.params4] at hA hval
  obtain ⟨v0, vs0, d0, ds0, p0, q0, hargs, rfl, rfl, h0, r0⟩ := trodAll_cons hA
  obtain ⟨v1, vs1, d1, ds1, p1, q1, rfl, rfl, rfl, h1, r1⟩ := trodAll_cons r0
  obtain ⟨rfl, rfl, rfl⟩ := trodAll_nil r1
  obtain rfl : args = #[v0, v1] := by cases args; simp_all
  obtain ⟨rfl, rfl⟩ := trodVars_none hV
  obtain ⟨a0, len0, cap0, rfl⟩ := okWide_slice Tryd.underlying23 (hval 0 23 v0 rfl rfl)
  have k0 := h0
  have lt0 : ∀ x ∈ p0, x.block < W.heap.size := by obtain ⟨m, hm⟩ := k0; exact DataW.trod_lt m _ _ _ hm
  obtain ⟨l, hl, hm, hrow⟩ : ∃ l : List Ins, l.length = len0 ∧ l.length ≤ maxLen ∧ Row W a0 (l.flatMap insc) := by
    obtain ⟨fuel, hf⟩ := h0
    rcases open_slice_fields Tryd.underlying23 Tryd.underlying30 (by kernel_rfl) (by kernel_rfl) hf with ⟨hcs, _⟩ | ⟨x, len, cap, m, D, Pl, hcs, hbb, hl, hm, hmm, _, hi⟩
    · simp [Value.cells] at hcs
      obtain ⟨rfl, rfl, rfl⟩ := hcs
      exact ⟨[], rfl, by simp, .inl rfl⟩
    · simp [Value.cells] at hcs
      obtain ⟨rfl, rfl, rfl⟩ := hcs
      have hmn : len0 ≤ m := by rw [hmm]; split <;> omega
      obtain ⟨l, h1, _, h3⟩ := row_of_cells (n := len0) insc 3 insc_len (by omega) (fun _ => True) (a := x) (w := W) (fun hn => by
          obtain ⟨ys, n, _, _, _, hf⟩ := hi 0 (by omega)
          obtain ⟨v, y, hcell, _⟩ := hf 0 _ rfl
          have := World.block_lt_of_cell? W _ hcell
          rwa [add_block] at this) (fun i hi' => by
        obtain ⟨ys, n, _, _, _, hf⟩ := hi i (by omega)
        obtain ⟨u0, y0, hc0, _, ht0⟩ := hf 0 _ rfl
        obtain ⟨u1, y1, hc1, _, ht1⟩ := hf 1 _ rfl
        obtain ⟨u2, y2, hc2, _, ht2⟩ := hf 2 _ rfl
        obtain ⟨z0, e0, _, _⟩ := DataW.trod_int Tryd.underlying3 ht0
        obtain ⟨z1, e1, _, _⟩ := DataW.trod_int Tryd.underlying3 ht1
        obtain ⟨z2, e2, _, _⟩ := DataW.trod_int Tryd.underlying3 ht2
        simp at e0 e1 e2
        subst e0
        subst e1
        subst e2
        refine ⟨(z0, z1, z2), trivial, fun j u hu => ?_⟩
        match j, hu with
        | 0, hu => simp [insc] at hu; subst hu; exact hc0
        | 1, hu => simp [insc] at hu; subst hu; exact hc1
        | 2, hu => simp [insc] at hu; subst hu; exact hc2)
      exact ⟨l, h1, by omega, h3⟩
  subst hl
  obtain ⟨a1, rfl, rfl, rfl, w1⟩ := open_int Tryd.underlying3 (hval 1 3 v1 rfl rfl) h1
  clear hA0 hval0
  unfold maxLen at hm
  refine (lawEncode_any a0 cap0 l a1 W (by omega) hrow hE).mono fun e W' ⟨he, bel⟩ => ?_
  subst he
  exact ⟨_, rfl, _, _, _, [], _, [], hW', trodAll_mk1 (shut_bool Tryd.underlying4 _), (trodAll_cons_mk (Below.trod laidOut (by kernel_rfl) (of_decide_eq_true (by kernel_rfl)) k0 bel lt0) (trodAll_cons_mk (shut_int Tryd.underlying3 w1) trodAll_mk0)), rfl, bel.frame _, fun h => by cases h⟩

theorem said : Rows.OpcodeEncodeMatchesSpecSaid :=
  OpenClaim.holds_of_cond 4 Tryd.f4 rfl rfl rfl rfl rfl rfl rfl ⟨rfl, rfl, rfl, rfl, rfl⟩ rfl rfl rfl rfl rfl (by kernel_rfl) Tryd.func4 (by kernel_rfl)
    (of_decide_eq_true (by kernel_rfl)) (by unfold Func.isWrapper; first | (rw [if_pos (by decide +kernel)]; kernel_rfl) | (rw [if_neg (by decide +kernel)]; exact ⟨rfl, rfl⟩))
    (fun os started H enc _ F => by rw [OpenClaim.pre_eq_preRow]; exact lifted os started H enc F)

theorem plain (f : FuncId) (fn : Func) (hf : Tryd.pinned.checked.prog.funcNamed "brindlewood/brindlewoodlaw8.OpcodeEncodeMatchesSpec" = some f) (hfn : Tryd.pinned.checked.prog.funcs[f]? = some fn) :
    false = Tryd.pinned.checked.prog.looks [] ∧ ∀ (j : Nat) t, fn.params[j]? = some t → Tryd.pinned.checked.prog.wantsStandIn t = false := by
  obtain rfl : f = 4 := Option.some.inj ((show Tryd.prog.funcNamed "brindlewood/brindlewoodlaw8.OpcodeEncodeMatchesSpec" = some 4 by kernel_rfl).symm.trans hf) |>.symm
  obtain rfl : fn = Tryd.f4 := (Option.some.inj (Tryd.func4.symm.trans hfn)).symm
  refine ⟨by kernel_rfl, fun j t ht => ?_⟩
  rw [Tryd.params4] at ht
  have hm : t ∈ [23, 3] := by simpa using Array.mem_of_getElem? ht
  have hall : ([23, 3].all fun u => !Tryd.prog.wantsStandIn u) = true := by kernel_rfl
  exact (show Tryd.prog.wantsStandIn t = false by simpa using List.all_eq_true.1 hall t hm)

theorem proved : Rows.OpcodeEncodeMatchesSpecCardSaid :=
  Claim7.holds_tied_plain_at .later [] _ _ _ _ said (fun _ h => by cases h) (by kernel_rfl) (fun _ h => by cases h) opcodeEncodeMatchesSpec_row_tie rfl ⟨rfl, rfl⟩ (by kernel_rfl) rfl plain (by kernel_rfl)

#print axioms proved
end Go.Proofs.YtdajaddgdmoneaaDoor.opcodeEncode
