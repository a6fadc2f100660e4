/-
  For every list of tokens of bulk at most 1048576: the law TokenJoinsTokens returns true and leaves its argument as it was. The library's listed variables are tied to the program's text.
-/
import Derived.Test.YtjoeojdciogcgaaDoorTokZ
import Derived.Test.YtjoeojdciogcgaaDoorCards
import Derived.Test.YtjoeojdciogcgaaDoorTie
import Derived.Test.YtjoeojdciogcgaaDoorOpen
import Derived.ChangeOld
import Derived.ChangeMaps5
import Derived.Lay
import Derived.LaidMore
import Derived.Lib.LaidTab
import Derived.Lib.LaidU8T
import Derived.Stop.LaidErr
import Derived.Deep.DeepHandedRow
import Derived.Shelf.Vars
import Derived.SevenTiedAt
namespace Go.Proofs.YtjoeojdciogcgaaDoor.tokenJoinsTokens
open Go.ChangeShapes Go.WideShapes Go.ChangeAt Go.RowKit Go.ChangeMaps
set_option linter.unusedVariables false

theorem own : ownKnob Tryd.prog.godebug = none := by kernel_rfl
theorem laidOut : laidOutB Tryd.prog = true := by kernel_rfl
theorem gTab : Tryd.prog.globalNamed "strings.asciiSpace" = some 0 := by kernel_rfl
theorem gTabType : (Tryd.prog.globals[0]?).map (·.type) = some 83 := by kernel_rfl
theorem cellsTab : Tryd.prog.cellsOf 83 = 256 := by kernel_rfl
theorem cellsByte : Tryd.prog.cellsOf 5 = 1 := by kernel_rfl
theorem laidEq : Rows.tokenJoinsTokensUptoRow.laid = [("unicode/utf8.acceptRanges", Lib.acceptData), ("unicode.White_Space", Rows.laid_unicode_White_Space), ("strings.asciiSpace", Lib.tabData .u8 Lib.asciiSpaceTab), ("unicode/utf8.first", Lib.firstData)] := by kernel_rfl
theorem plainLaid (w : World) : laidMetH Tryd.prog Rows.tokenJoinsTokensUptoRow.laid w = laidMet Tryd.prog Rows.tokenJoinsTokensUptoRow.laid w := MakeChecks.laidMetH_plain _ _ _ (by kernel_rfl)
theorem env {W : World} (hL : laidMetH Tryd.prog Rows.tokenJoinsTokensUptoRow.laid W) (hsh : W.ShapedOpen Tryd.prog) : Env W ∧ Lim W := by
  rw [plainLaid, laidEq] at hL
  obtain ⟨m, hm⟩ := Go.Proofs.cell_of_shapedOpen_int (g := 4) (zero := #[.int .i64 0]) (t := 3) hsh (of_decide_eq_true (by kernel_rfl)) (by kernel_rfl) rfl (by kernel_rfl) (by kernel_rfl) Tryd.underlying3
  refine ⟨⟨?_, Lib.tabIs_of_head (rest := [("unicode/utf8.first", Lib.firstData)]) gTab gTabType Tryd.underlying83 Tryd.underlying5 cellsByte cellsTab hL.tail.tail⟩, ⟨m, hm⟩⟩
  exact utf8Tabs_of_readsT (ρ := Tryd.lays197_ren) ⟨Tryd.underlying5, Tryd.underlying83, Tryd.underlying112, Tryd.underlying113⟩ ⟨by kernel_rfl, by kernel_rfl, by kernel_rfl, by kernel_rfl, by kernel_rfl, by kernel_rfl, by kernel_rfl⟩
    (Lib.laidMet.reads hL (by simp)) (Lib.laidMet.reads hL (by simp))

theorem bulk_one {H : Type} (d : DataW H) : 1 ≤ Rows.uptoBulk d := by
  cases d with
  | lit x => cases x <;> simp [Rows.uptoBulk]
  | _ => simp [Rows.uptoBulk]
theorem bulk_all {H : Type} : ∀ (l : List (DataW H)), l.length ≤ Rows.uptoBulkAll l ∧ ∀ d ∈ l, Rows.uptoBulk d ≤ Rows.uptoBulkAll l
  | [] => ⟨by simp [Rows.uptoBulkAll], by simp⟩
  | d :: r => by
    obtain ⟨h1, h2⟩ := bulk_all r
    have h3 := bulk_one d
    simp only [Rows.uptoBulkAll, List.length_cons, List.mem_cons]
    refine ⟨by omega, fun x hx => ?_⟩
    rcases hx with rfl | hx
    · omega
    · have := h2 x hx
      omega
theorem bulk_list {H : Type} {l s : List (DataW H)} {n : Nat} (h : Rows.uptoBulkAll (H := H) ([.slice l s] ++ []) ≤ n) : l.length ≤ n ∧ ∀ d ∈ l, Rows.uptoBulk d ≤ n := by
  simp only [List.append_nil, Rows.uptoBulkAll, Rows.uptoBulk] at h
  obtain ⟨h1, h2⟩ := bulk_all l
  refine ⟨by omega, fun d hd => ?_⟩
  have := h2 d hd
  omega
theorem bulk_agg {H : Type} {n : Nat} (ys : List (DataW H × List MemPlace)) (j : Nat) (y : DataW H × List MemPlace) (hy : ys[j]? = some y) (h : Rows.uptoBulk (.agg (ys.map (·.1))) ≤ n) : Rows.uptoBulk y.1 ≤ n := by
  simp only [Rows.uptoBulk] at h
  have := (bulk_all (ys.map (·.1))).2 y.1 (List.mem_map.2 ⟨y, List.mem_of_getElem? hy, rfl⟩)
  omega

noncomputable def start (os : Os) : World := (World.laidAll Tryd.prog os Rows.tokenJoinsTokensUptoRow.laid).forCall (fun _ _ => 0) ⟨#[], #[.slice none 0 0], []⟩
theorem startShaped (os : Os) : (start os).Shaped Tryd.prog := World.shaped_of_ZipB (by kernel_rfl) (by kernel_rfl)
theorem startOk (os : Os) : Input.okWideB Tryd.prog (start os) 4 ⟨#[], #[.slice none 0 0], []⟩ = true := by kernel_rfl
theorem startLaid (os : Os) : laidMet Tryd.prog Rows.tokenJoinsTokensUptoRow.laid (start os).memory := laidMet_laidAll _ (by kernel_rfl) (by kernel_rfl)
theorem reads (os : Os) {H : Type} (enc : TypeId × Value → H) : ∃ places, DataW.whole enc Tryd.prog (start os).memory Tryd.f4.params.toList Rows.tokenJoinsTokensSpec.vars false #[Value.slice none 0 0].toList 8 = some ([.nil], [], places) :=
  ⟨[], by kernel_rfl⟩

set_option maxRecDepth 100000 in
theorem lifted (os : Os) (started : os.Started) (H : Type) (enc : TypeId × Value → H) (F : Stop.Interp) :
    ReturnsInHanded {} Tryd.checked os 4 .any ((Rows.OpenSpec.upto Rows.tokenJoinsTokensSpec).preRow enc Tryd.prog Tryd.f4 Rows.tokenJoinsTokensUptoRow.domain false Rows.tokenJoinsTokensUptoRow.laid) (((Rows.OpenSpec.upto Rows.tokenJoinsTokensSpec).at F).post enc Tryd.prog Tryd.f4 false true false false) := by
  obtain ⟨places, hx⟩ := reads os enc
  refine returnsInHanded_of_row (C := Tryd.checked) (s := Rows.OpenSpec.upto Rows.tokenJoinsTokensSpec) own started (by kernel_rfl) Tryd.func4
    ⟨World.laidAll Tryd.prog os Rows.tokenJoinsTokensUptoRow.laid, fun _ _ => 0, ⟨#[], #[.slice none 0 0], []⟩, World.laidAll_os _ _ _, startShaped os, rfl, (Input.okWide_of_okWideB (startOk os)).2,
      OpenSpec.preRow_of_cond 8 hx (by kernel_rfl) (fun k hk => by cases hk; kernel_rfl) (by kernel_rfl) ((plainLaid (start os).memory).symm ▸ startLaid os), by simp [Assume.holds]⟩ ?_
  intro W base args ds gs before hval0 hW _ hcond _ hL hsh _
  have hval : ∀ (j : Nat) t v, Tryd.f4.params[j]? = some t → args[j]? = some v → Value.okWide Tryd.prog W .any base t v := hval0
  have hE := env hL hsh
  have hW' := hW
  obtain ⟨p, q, hA0, hV, rfl, hfz, hnd⟩ := hW
  have hA : DataW.TrodAll enc Tryd.prog W 0 (fun _ => true) true Tryd.f4.params.toList args.toList ds p := hA0
  rw [Tryd.params4] at hA hval
  obtain ⟨v0, vs0, d0, ds0, p0, q0, hargs, rfl, rfl, h0, r0⟩ := trodAll_cons hA
  obtain ⟨rfl, rfl, rfl⟩ := trodAll_nil r0
  obtain rfl : args = #[v0] := by cases args; simp_all
  obtain ⟨rfl, rfl⟩ := trodVars_none hV
  obtain ⟨a0, len0, cap0, rfl⟩ := okWide_slice Tryd.underlying23 (hval 0 23 v0 rfl rfl)
  have k0 := h0
  have lt0 : ∀ x ∈ p0, x.block < W.heap.size := by obtain ⟨m, hm⟩ := k0; exact DataW.trod_lt m _ _ _ hm
  have hk' : Rows.uptoBulkAll (H := H) _ ≤ 1048576 := of_decide_eq_true (hcond _ rfl)
  obtain ⟨l, hl, hm, htx, hrow⟩ : ∃ l : List Tok, l.length = len0 ∧ l.length ≤ 1048576 ∧ (∀ t ∈ l, t.text.length ≤ 1048576) ∧ Row W a0 (l.flatMap tokc) := by
    obtain ⟨fuel, hf⟩ := h0
    rcases open_slice_fields Tryd.underlying23 Tryd.underlying32 (by kernel_rfl) (by kernel_rfl) hf with ⟨hcs, _⟩ | ⟨x, len, cap, m, D, Pl, hcs, hbb, hl, hm, hmm, hd0, hi⟩
    · simp [Value.cells] at hcs
      obtain ⟨rfl, rfl, rfl⟩ := hcs
      exact ⟨[], rfl, by simp, by simp, .inl rfl⟩
    · simp [Value.cells] at hcs
      obtain ⟨rfl, rfl, rfl⟩ := hcs
      have hmn : len0 ≤ m := by rw [hmm]; split <;> omega
      simp only [Prod.mk.injEq] at hd0
      obtain ⟨rfl, rfl⟩ := hd0
      have hbulk := bulk_list hk'
      obtain ⟨l, h1, h2, h3⟩ := row_of_cells (n := len0) tokc 4 (fun _ => rfl) (by omega) (fun t : Tok => t.text.length ≤ 1048576) (a := x) (w := W) (fun hn => by
          obtain ⟨ys, n, _, _, _, hf⟩ := hi 0 (by omega)
          obtain ⟨v, y, hcell, _⟩ := hf 0 _ rfl
          have := World.block_lt_of_cell? W _ hcell
          rwa [add_block] at this) (fun i hi' => by
        obtain ⟨ys, n, hD, _, hyl, hf⟩ := hi i (by omega)
        obtain ⟨u0, y0, hc0, hy0, ht0⟩ := hf 0 _ rfl
        obtain ⟨u1, y1, hc1, hy1, ht1⟩ := hf 1 _ rfl
        obtain ⟨u2, y2, hc2, hy2, ht2⟩ := hf 2 _ rfl
        obtain ⟨u3, y3, hc3, hy3, ht3⟩ := hf 3 _ rfl
        obtain ⟨z0, e0, _, _⟩ := DataW.trod_int Tryd.underlying3 ht0
        obtain ⟨z1, e1, rfl, _⟩ := DataW.trod_string Tryd.underlying9 ht1
        obtain ⟨z2, e2, _, _⟩ := DataW.trod_int Tryd.underlying3 ht2
        obtain ⟨z3, e3, _, _⟩ := DataW.trod_int Tryd.underlying3 ht3
        simp at e0 e1 e2 e3
        subst e0
        subst e1
        subst e2
        subst e3
        obtain ⟨⟨tx⟩⟩ := z1
        refine ⟨⟨z0, tx, z2, z3⟩, ?_, fun j u hu => ?_⟩
        · have hb := hbulk.2 (D i) (List.mem_map.2 ⟨i, List.mem_range.2 hi', rfl⟩)
          rw [hD] at hb
          have h5 : tx.length + 1 ≤ 1048576 := bulk_agg ys 1 _ hy1 hb
          show tx.length ≤ 1048576
          omega
        · match j, hu with
          | 0, hu => simp [tokc] at hu; subst hu; exact hc0
          | 1, hu => simp [tokc] at hu; subst hu; exact hc1
          | 2, hu => simp [tokc] at hu; subst hu; exact hc2
          | 3, hu => simp [tokc] at hu; subst hu; exact hc3)
      exact ⟨l, h1, by have := hbulk.1; simp at this; omega, h2, h3⟩
  subst hl
  clear hA0 hval0 hk'
  refine (joinsLaw_any a0 cap0 l W (by omega) (fun t ht => by have := htx t ht; omega) hrow hE.1 hE.2).mono fun e W' ⟨he, bel⟩ => ?_
  subst he
  exact ⟨_, rfl, _, _, _, [], _, [], hW', trodAll_mk1 (shut_bool Tryd.underlying4 _), trodAll_cons_mk (Below.trod laidOut (by kernel_rfl) (of_decide_eq_true (by kernel_rfl)) k0 bel lt0) trodAll_mk0, rfl, bel.frame _, fun h => by cases h⟩

theorem said : Rows.TokenJoinsTokensUptoSaid :=
  OpenClaim.holds_of_cond 4 Tryd.f4 rfl rfl rfl rfl rfl rfl rfl ⟨rfl, rfl, rfl, rfl, rfl⟩ rfl rfl rfl rfl rfl (by kernel_rfl) Tryd.func4 (by kernel_rfl)
    (of_decide_eq_true (by kernel_rfl)) (by unfold Func.isWrapper; first | (rw [if_pos (by decide +kernel)]; kernel_rfl) | (rw [if_neg (by decide +kernel)]; exact ⟨rfl, rfl⟩))
    (fun os started H enc _ F => by rw [OpenClaim.pre_eq_preRow]; exact lifted os started H enc F)

theorem plain (f : FuncId) (fn : Func) (hf : Tryd.pinned.checked.prog.funcNamed "brindlewood/brindlewoodlaw1.TokenJoinsTokens" = some f) (hfn : Tryd.pinned.checked.prog.funcs[f]? = some fn) :
    true = Tryd.pinned.checked.prog.looks [] ∧ ∀ (j : Nat) t, fn.params[j]? = some t → Tryd.pinned.checked.prog.wantsStandIn t = false := by
  obtain rfl : f = 4 := Option.some.inj ((show Tryd.prog.funcNamed "brindlewood/brindlewoodlaw1.TokenJoinsTokens" = some 4 by kernel_rfl).symm.trans hf) |>.symm
  obtain rfl : fn = Tryd.f4 := (Option.some.inj (Tryd.func4.symm.trans hfn)).symm
  refine ⟨by kernel_rfl, fun j t ht => ?_⟩
  rw [Tryd.params4] at ht
  have hm : t ∈ [23] := by simpa using Array.mem_of_getElem? ht
  have hall : ([23].all fun u => !Tryd.prog.wantsStandIn u) = true := by kernel_rfl
  exact (show Tryd.prog.wantsStandIn t = false by simpa using List.all_eq_true.1 hall t hm)

theorem proved : Rows.TokenJoinsTokensUptoCardSaid :=
  Claim7.holds_tied_plain_at .later [] _ _ _ _ said (fun _ h => by cases h) (by kernel_rfl) (fun _ h => by cases h) tokenJoinsTokensUpto_row_tie rfl ⟨rfl, rfl⟩ (by kernel_rfl) rfl plain (by kernel_rfl)

#print axioms proved
end Go.Proofs.YtjoeojdciogcgaaDoor.tokenJoinsTokens
