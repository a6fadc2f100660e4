/- Walks: tables of catches are unpacked. Nothing is claimed here. -/
import Derived.Test.YtionmlkefheocaaCatD
namespace Go.Proofs.Ytionmlkefheocaa
open Go.RowKit
set_option linter.unusedVariables false

/-- j numbers from position p on: their values and where they end -/
def rdN (b : List Int) (p : Nat) : Nat → Option (List Int × Nat)
  | 0 => some ([], p)
  | j + 1 => match rdN b p j with
    | none => none
    | some (vs, q) => if (num (b.drop q)).2.1 then some (vs ++ [(num (b.drop q)).1], q + (num (b.drop q)).2.2) else none
theorem rdN_step {b : List Int} {p j q k : Nat} {vs : List Int} {v : Int} (h : rdN b p j = some (vs, q)) (hn : num (b.drop q) = (v, true, k)) : rdN b p (j + 1) = some (vs ++ [v], q + k) := by
  rw [rdN, h]; simp [hn]
theorem rdN_fail {b : List Int} {p j q k : Nat} {vs : List Int} {v : Int} (h : rdN b p j = some (vs, q)) (hn : num (b.drop q) = (v, false, k)) : rdN b p (j + 1) = none := by
  rw [rdN, h]; simp [hn]
theorem rdN_none {b : List Int} {p j : Nat} (h : rdN b p j = none) : ∀ m, rdN b p (j + m) = none
  | 0 => h
  | m + 1 => by
    rw [← Nat.add_assoc, rdN, rdN_none h m]

def ucGo (b : List Int) : Nat → Nat → Int → Option Nat × List Catch
  | 0, _, _ => (none, [])
  | f + 1, p, fr =>
    if b.length ≤ p then (none, [])
    else match rdN b p 4 with
      | none => (some p, [])
      | some (vs, q) =>
        ((ucGo b f q (fr + unfoldI (vs.getD 0 0))).1,
         (fr + unfoldI (vs.getD 0 0), fr + unfoldI (vs.getD 0 0) + vs.getD 1 0, fr + unfoldI (vs.getD 0 0) + vs.getD 1 0 + unfoldI (vs.getD 2 0), vs.getD 3 0) :: (ucGo b f q (fr + unfoldI (vs.getD 0 0))).2)
theorem ucGo_end {b : List Int} {f p : Nat} {fr : Int} (h : b.length ≤ p) : ucGo b f p fr = (none, []) := by
  cases f with
  | zero => rfl
  | succ f => rw [ucGo, if_pos h]
theorem ucGo_fail {b : List Int} {f p : Nat} {fr : Int} (hp : p < b.length) (hf : b.length < f + p) (h : rdN b p 4 = none) : ucGo b f p fr = (some p, []) := by
  obtain ⟨g, rfl⟩ : ∃ g, f = g + 1 := ⟨f - 1, by omega⟩
  rw [ucGo, if_neg (by omega), h]
theorem ucGo_step {b : List Int} {f p q : Nat} {fr x0 x1 x2 x3 : Int} (hp : p < b.length) (hf : b.length < f + p) (h : rdN b p 4 = some ([x0, x1, x2, x3], q)) :
    ucGo b f p fr = ((ucGo b (f - 1) q (fr + unfoldI x0)).1, (fr + unfoldI x0, fr + unfoldI x0 + x1, fr + unfoldI x0 + x1 + unfoldI x2, x3) :: (ucGo b (f - 1) q (fr + unfoldI x0)).2) := by
  obtain ⟨g, rfl⟩ : ∃ g, f = g + 1 := ⟨f - 1, by omega⟩
  rw [ucGo, if_neg (by omega), h]
  rfl

def unpackC (b : List Int) : List Catch × (Int × Int) :=
  match ucGo b (b.length + 1) 0 0 with
  | (some p, _) => ([], (16, (p : Int)))
  | (none, l) => if catchesFault l = (0, 0) then (l, (0, 0)) else ([], ((catchesFault l).1, -1))
theorem unpackC_bad {b : List Int} {p : Nat} {l : List Catch} (h : ucGo b (b.length + 1) 0 0 = (some p, l)) : unpackC b = ([], (16, (p : Int))) := by
  unfold unpackC; rw [h]
theorem unpackC_ok {b : List Int} {l : List Catch} (h : ucGo b (b.length + 1) 0 0 = (none, l)) (hm : catchesFault l = (0, 0)) : unpackC b = (l, (0, 0)) := by
  unfold unpackC; rw [h]; simp [hm]
theorem unpackC_not {b : List Int} {l : List Catch} {fc fi : Int} (h : ucGo b (b.length + 1) 0 0 = (none, l)) (hm : catchesFault l = (fc, fi)) (hfc : (fc == 0) = false) : unpackC b = ([], (fc, -1)) := by
  unfold unpackC; rw [h]
  have : ¬ fc = 0 := by simpa using hfc
  simp [hm, this]

def UnpackCPost (r : List Catch × (Int × Int)) (w : World) (e : Ending) (w' : World) : Prop :=
  ∃ A c, e = .returned (.tuple #[.slice A r.1.length c, .agg #[.int .i64 r.2.1, .int .i64 r.2.2]]) ∧ Row w' A (r.1.flatMap ctc) ∧ Below w.heap.size w w'

def UCRel (b : List Int) (x : Value) (w : World) (v a : Value) (wr : World) : Prop :=
  ∃ (f p : Nat) (fr : Int) (d : List Catch), p ≤ b.length ∧ b.length < f + p ∧ a = .int .i64 fr ∧ d.length ≤ p ∧ -(1048576 * d.length) ≤ fr ∧ fr ≤ 1048576 * d.length ∧
    ucGo b (b.length + 1) 0 0 = ((ucGo b f p fr).1, d ++ (ucGo b f p fr).2) ∧ Blk wr w.heap.size 24 #[.int .i64 0, .int .i64 0] ∧
    Blk wr (w.heap.size + 1) 71 #[x, .int .i64 p] ∧ wr.ownsRow (w.heap.size + 2) 51 4 v d.length (d.flatMap ctc) ∧ Below w.heap.size w wr

def UCIn (b : List Int) (x : Value) (w : World) (p gn : Nat) (d : List Catch) (v i : Value) (wr : World) : Prop :=
  ∃ (j q : Nat) (vs : List Int), j ≤ 4 ∧ i = .int .i64 j ∧ vs.length = j ∧ rdN b p j = some (vs, q) ∧ q ≤ b.length ∧ p ≤ q ∧ (0 < j → p < q) ∧ (∀ x ∈ vs, 0 ≤ x ∧ x < 2097152) ∧ Blk wr w.heap.size 24 #[.int .i64 0, .int .i64 0] ∧
    Blk wr (w.heap.size + 1) 71 #[x, .int .i64 q] ∧ Blk wr gn 76 #[.int .i64 (vs.getD 0 0), .int .i64 (vs.getD 1 0), .int .i64 (vs.getD 2 0), .int .i64 (vs.getD 3 0)] ∧
    wr.ownsRow (w.heap.size + 2) 51 4 v d.length (d.flatMap ctc) ∧ Below w.heap.size w wr

theorem info_catch : (Try.prog.info? 51).map (fun i => (i.zero, i.size, i.bytes)) = some (some (.agg #[.int .i64 0, .int .i64 0, .int .i64 0, .int .i64 0]), 4, 32) := by kernel_rfl

theorem len0 {α : Type} {l : List α} (h : l.length = 0) : l = [] := List.eq_nil_of_length_eq_zero h
theorem len1 {α : Type} {l : List α} (h : l.length = 1) : ∃ a, l = [a] := match l, h with | [a], _ => ⟨a, rfl⟩
theorem len2 {α : Type} {l : List α} (h : l.length = 2) : ∃ a b, l = [a, b] := match l, h with | [a, b], _ => ⟨a, b, rfl⟩
theorem len3 {α : Type} {l : List α} (h : l.length = 3) : ∃ a b c, l = [a, b, c] := match l, h with | [a, b, c], _ => ⟨a, b, c, rfl⟩
theorem len4 {α : Type} {l : List α} (h : l.length = 4) : ∃ a b c d, l = [a, b, c, d] := match l, h with | [a, b, c, d], _ => ⟨a, b, c, d, rfl⟩


theorem ownsRow_setCell_other {w : World} {base : Nat} {e : TypeId} {size n g i : Nat} {v : Value} {xs : List Value} (h : w.ownsRow base e size v n xs) (hne : some g ≠ v.ownBlock) (u : Value) : (w.setCell ⟨g, i, none⟩ u).ownsRow base e size v n xs := by
  obtain ⟨h1, h2⟩ := h
  refine ⟨h1, ?_⟩
  rcases h2 with h2 | ⟨g', cap, cur, hv, hg, hh, r⟩
  · exact Or.inl h2
  · refine Or.inr ⟨g', cap, cur, hv, hg, ?_, r⟩
    rw [Below.heap_setCell _ _ _ _ (by rintro rfl; exact hne (by rw [hv]; rfl))]
    exact hh

set_option maxHeartbeats 2000000 in
theorem unpackCatches_any (A : Option Addr) (c : Nat) (b : List Int) (w : World) (hl : b.length ≤ 10000000) (hby : ∀ x ∈ b, 0 ≤ x ∧ x ≤ 255) (hA : Row w A (bcs b)) :
    Calls Try.prog 18 #[.slice A b.length c] w (UnpackCPost (unpackC b) w) := by
  have HA := Lib.hid hA
  have HY := Lib.hid hby
  clear hA hby
  obtain ⟨i0, hi, hz0, hz1, hz2⟩ := info_parts info_catch
  go_enter Try.func18, Try.ntmps18
  go_wp2_with fail
  go_loopw [5, 6] (fun v a wr => UCRel b (.slice A b.length c) w v a wr) (fun _ _ wr => b.length - posOf wr (w.heap.size + 1))
  case atStart =>
    refine ⟨b.length + 1, 0, 0, [], by omega, by omega, rfl, by simp, by simp, by simp, rfl, ?_, ?_, World.ownsRow_nil _ _ _ _, ?_⟩
    · exact (Blk.new _ _ _).alloc _
    · have := Blk.new (w.alloc (.cells #[.int .i64 0, .int .i64 0] 24)) 71 #[.slice A b.length c, .int .i64 0]
      simpa using this
    · exact ((Below.refl _ _).alloc (Nat.le_refl _) _).alloc (by simp) _
  case round =>
    obtain ⟨f, p, fr, d, hp, hf, rfl, hd, l0, l1, he, hB, hR, hown, hb0⟩ := hrel
    have He := Lib.hid he
    clear he
    obtain ⟨r1, r2, r3⟩ := hR.rules
    by_cases hlt : p < b.length
    · have HW := Lib.hid (HA.out.block_lt (k := p) (by simpa [bcs] using hlt))
      have Hpos := Lib.hid (posOf_blk hR)
      have hne : ∀ g, g ≤ w.heap.size + 1 → some g ≠ u5.ownBlock := fun g hg e => by have := hown.lt _ e.symm; omega
      have HN := Lib.hid hne
      have hneN : some wr.heap.size ≠ u5.ownBlock := fun e => by have := hown.lt _ e.symm; omega
      have HNN := Lib.hid hneN
      clear hne hneN
      obtain ⟨wo, hwo⟩ : ∃ wo : World, wo = wr := ⟨_, rfl⟩
      subst hwo
      go_wp2_with fail
      have hN := Blk.new wo 76 #[.int .i64 0, .int .i64 0, .int .i64 0, .int .i64 0]
      have HI := Lib.hid (show UCIn b (.slice A b.length c) w p wo.heap.size d u5 (.int .i64 0) (wo.alloc (.cells #[.int .i64 0, .int .i64 0, .int .i64 0, .int .i64 0] 76)) from
        ⟨0, p, [], by omega, rfl, rfl, rfl, hp, Nat.le_refl _, by omega, by simp, hB.alloc _, hR.alloc _, hN, hown.alloc _, hb0.alloc hb0.size _⟩)
      clear hN hB hR hown r1 r2
      go_loopw [28] (fun i wr => UCIn b (.slice A b.length c) w p wo.heap.size d u5 i wr) (fun i _ => 4 - (intOf i).toNat)
      case atStart => exact HI.out
      case round =>
        clear HI
        obtain ⟨j, q, vs, hj, rfl, hvl, hrd, hqb, hpq, hpq2, hvs, hB1, hR1, hN1, hown1, hb1⟩ := hrel
        have HRD := Lib.hid hrd
        have HVL := Lib.hid hvl
        have HVS := Lib.hid hvs
        clear hrd hvl hvs
        have hs1 := hb1.size
        obtain ⟨q1, q2, q3⟩ := hB1.rules
        by_cases hj4 : j = 4
        · subst hj4
          obtain ⟨x0, x1, x2, x3, rfl⟩ := len4 HVL.out
          have hN2 : Blk wr wo.heap.size 76 #[.int .i64 x0, .int .i64 x1, .int .i64 x2, .int .i64 x3] := hN1
          obtain ⟨n1, n2, n3⟩ := hN2.rules
          have b0 := HVS.out x0 (by simp)
          have b1 := HVS.out x1 (by simp)
          have b2 := HVS.out x2 (by simp)
          have b3 := HVS.out x3 (by simp)
          have u0 := unfold_bd b0.1 b0.2
          have u2 := unfold_bd b2.1 b2.2
          have Hst := Lib.hid (ucGo_step (fr := fr) hlt hf HRD.out)
          have hpq3 : p < q := hpq2 (by omega)
          have hdn : d.length ≤ 10000000 := by omega
          go_wp2_with (go_at_call 37; refine (unfold_any _ _ b0.1 (by omega)).mono ?_; rintro e w' ⟨rfl, rfl⟩)
          have tok1 : True := trivial
          have hb2n := b2.1
          have hb2m : x2 ≤ 10000000 := by omega
          have m1 : d.length + 1 ≤ maxLen := by unfold maxLen; omega
          have m2 : (d.length + 1) * 32 ≤ 140737488355328 := by omega
          have ww : IntKind.i64.wrap (fr + unfoldI x0 + x1 + unfoldI x2) = fr + unfoldI x0 + x1 + unfoldI x2 := IntWalk.i64_in _ (by omega)
          go_region_held3 (fun w' => w'.cell? ⟨wo.heap.size, 0, none⟩ = some (.int .i64 x0) ∧ w'.cell? ⟨wo.heap.size, 1, none⟩ = some (.int .i64 x1) ∧ w'.cell? ⟨wo.heap.size, 2, none⟩ = some (.int .i64 x2) ∧ w'.cell? ⟨wo.heap.size, 3, none⟩ = some (.int .i64 x3))
            (first | go_keep | (exact ⟨hN3.cell 0, hN3.cell 1, hN3.cell 2, hN3.cell 3⟩))
            (first
              | (go_at_call 37; refine (unfold_any _ _ hb2n hb2m).mono ?_; rintro e w' ⟨rfl, rfl⟩)
              | (refine step_append_row _ (by rfl) (.tmp 53) (.tmp 64) 47 (by rfl) (w.heap.size + 2) 51 i0 (.agg #[.int .i64 0, .int .i64 0, .int .i64 0, .int .i64 0]) 4 32 Try.underlying47 hi hz0 hz1 hz2 rfl (by decide) u5 d.length (d.flatMap ctc) (by rfl) ((hown1.alloc _).drew) (some ⟨wr.heap.size, 0, none⟩) 1 1 [.int .i64 (fr + unfoldI x0), .int .i64 (fr + unfoldI x0 + x1), .int .i64 (fr + unfoldI x0 + x1 + unfoldI x2), .int .i64 x3] (by rfl) (by rfl) (Row.new wr #[.int .i64 (fr + unfoldI x0), .int .i64 (fr + unfoldI x0 + x1), .int .i64 (fr + unfoldI x0 + x1 + unfoldI x2), .int .i64 x3] 51) (by simp [Value.oneCell']) m1 m2 (by simp; omega) ?_
                 intro v3 w3 hown3 hg3 hat3
                 have hN3 := ((hN2.alloc _).drew).grown hg3 HNN.out)
              | fail)
          have hb3 := ((hb1.alloc hs1 _).drew).grown hg3 (by simp; omega) (fun g e => by have := hown1.lt g e; omega)
          have hB3 := ((hB1.alloc _).drew).grown hg3 (HN.out _ (by omega))
          have hR3 := ((hR1.alloc _).drew).grown hg3 (HN.out _ (Nat.le_refl _))
          clear ww n1 n2 q1 q2
          go_wp2_with fail
          go_roundw
          case rel =>
            refine ⟨f - 1, q, fr + unfoldI x0, d ++ [(fr + unfoldI x0, fr + unfoldI x0 + x1, fr + unfoldI x0 + x1 + unfoldI x2, x3)], hqb, by omega, rfl, by simp; omega, by simp; omega, by simp; omega, ?_, hB3, hR3, ?_, hb3⟩
            · rw [He.out, Hst.out]; simp
            · simpa [ctc] using hown3
          case measure => rw [posOf_blk hR3, Hpos.out]; omega
        · have hrow := HA.out.keepB hb1
          have hn := num_bd (l := b.drop q) (fun x hx => HY.out x (List.mem_of_mem_drop hx))
          obtain ⟨v1, ok1, k1, e1⟩ : ∃ v1 ok1 k1, num (b.drop q) = (v1, ok1, k1) := ⟨_, _, _, rfl⟩
          rw [e1] at hn
          obtain ⟨x0, x1, x2, x3, x4⟩ := hn
          simp only [List.length_drop] at x0 x1 x2 x3 x4
          obtain ⟨q', hq'⟩ : ∃ q', q' = q + k1 := ⟨_, rfl⟩
          have E1 := Lib.hid e1
          have HQ := Lib.hid hq'
          have hqb' : q' ≤ b.length := by omega
          have hqq : q ≤ q' := by omega
          have hpj : p < q' := by
            by_cases hj0 : j = 0
            · subst hj0
              have := HRD.out
              simp [rdN] at this
              obtain ⟨_, rfl⟩ := this
              have := x4 (fun e => by have := congrArg List.length e; simp at this; omega)
              omega
            · have := hpq2 (by omega); omega
          clear e1 hq' x4 hpq2
          have hj' : j = 0 ∨ j = 1 ∨ j = 2 ∨ j = 3 := by omega
          go_wp2_with fail
          refine (number_at (w.heap.size + 1) A c q q' b v1 ok1 k1 _ (by omega) hqb HY.out hR1 hrow (fun a ha => by have := HW.out a ha; omega) E1 HQ).mono ?_
          rintro e w1 ⟨rfl, hR2, hg1⟩
          have hb2 : Below w.heap.size w w1 := hb1.grown hg1 hb1.size (fun g e => by injection e with e; omega)
          have hown2 := hown1.kept hg1 (.inr (fun e => HN.out _ (Nat.le_refl _) e.symm))
          have hB2 := hB1.grown hg1 (fun e => by injection e with e; omega)
          have hN2 := hN1.grown hg1 (fun e => by injection e with e; omega)
          clear q1 q2 q3 hR1 hrow hb1 hown1 hB1 hN1 hg1
          obtain ⟨q1, q2, q3⟩ := hB2.rules
          cases ok1
          · have Hbad := Lib.hid (unpackC_bad (p := p) (l := d) (by
              have h4 : rdN b p 4 = none := by
                have h5 := rdN_none (rdN_fail HRD.out E1.out) (3 - j)
                rwa [show j + 1 + (3 - j) = 4 by omega] at h5
              rw [He.out, ucGo_fail hlt hf h4]; simp))
            go_wp2_with (go_at_call 28; refine (fault_any _ _ _).mono ?_; rintro e w3 ⟨rfl, hb3⟩; have hB3 := hB2.belowS hb3; obtain ⟨t1, t2, t3⟩ := hB3.rules)
            refine ret_tmp_blk Try.results18 rfl ((hB3.set_ 0 _).set_ 1 _) _ Try.underlying24 rfl (by kernel_rfl) rfl _ rfl ?_
            rw [Hbad.out]
            exact ⟨none, 0, rfl, .inl rfl, ((below_then hb2 hb3 hb2.size).setCell (Nat.le_refl _) _).setCell (Nat.le_refl _) _⟩
          · have Hnext := Lib.hid (show rdN b p (j + 1) = some (vs ++ [v1], q') by rw [rdN_step HRD.out E1.out, HQ.out])
            have hvs' : ∀ x ∈ vs ++ [v1], 0 ≤ x ∧ x < 2097152 := fun x hx => by
              rcases List.mem_append.1 hx with hx | hx
              · exact HVS.out x hx
              · simp at hx; subst hx; exact ⟨x0, x1⟩
            have HVS' := Lib.hid hvs'
            clear hvs' q1 q2
            obtain ⟨n1, n2, n3⟩ := hN2.rules
            rcases hj' with rfl | rfl | rfl | rfl
            · obtain rfl := len0 HVL.out
              go_wp2_with fail
              go_roundw
              case rel => exact ⟨0 + 1, q', _, by omega, rfl, by simp, Hnext.out, hqb', by omega, fun _ => hpj, HVS'.out, hB2.far (by simp; omega) _, hR2.far (by simp; omega) _, hN2.set_ 0 _, ownsRow_setCell_other hown2 (HNN.out) _, hb2.setCell (by simp; omega) _⟩
              case measure => simp [intOf]
            · obtain ⟨y0, rfl⟩ := len1 HVL.out
              go_wp2_with fail
              go_roundw
              case rel => exact ⟨1 + 1, q', _, by omega, rfl, by simp, Hnext.out, hqb', by omega, fun _ => hpj, HVS'.out, hB2.far (by simp; omega) _, hR2.far (by simp; omega) _, hN2.set_ 1 _, ownsRow_setCell_other hown2 (HNN.out) _, hb2.setCell (by simp; omega) _⟩
              case measure => simp [intOf]
            · obtain ⟨y0, y1, rfl⟩ := len2 HVL.out
              go_wp2_with fail
              go_roundw
              case rel => exact ⟨2 + 1, q', _, by omega, rfl, by simp, Hnext.out, hqb', by omega, fun _ => hpj, HVS'.out, hB2.far (by simp; omega) _, hR2.far (by simp; omega) _, hN2.set_ 2 _, ownsRow_setCell_other hown2 (HNN.out) _, hb2.setCell (by simp; omega) _⟩
              case measure => simp [intOf]
            · obtain ⟨y0, y1, y2, rfl⟩ := len3 HVL.out
              go_wp2_with fail
              go_roundw
              case rel => exact ⟨3 + 1, q', _, by omega, rfl, by simp, Hnext.out, hqb', by omega, fun _ => hpj, HVS'.out, hB2.far (by simp; omega) _, hR2.far (by simp; omega) _, hN2.set_ 3 _, ownsRow_setCell_other hown2 (HNN.out) _, hb2.setCell (by simp; omega) _⟩
              case measure => simp [intOf]
    · obtain ⟨Av, cv, rfl, hrv, hcv⟩ := own_form hown
      have hup : ucGo b (b.length + 1) 0 0 = (none, d) := by rw [He.out, ucGo_end (by omega)]; simp
      have HU := Lib.hid hup
      clear hup He
      rcases catchesFault_ne d with hmf | hmf
      · have HM := Lib.hid hmf
        clear hmf
        go_wp2_with fail
        refine (checkC_at Av cv d 0 0 _ (by omega) hrv HM).mono ?_
        rintro e w1 ⟨rfl, hb1⟩
        have hB1 := hB.belowS hb1
        obtain ⟨s1, s2, s3⟩ := hB1.rules
        have ho1 := own_belowS hown hb1
        clear r1 r2 r3
        go_wp2_with fail
        refine ret_tmp_blk Try.results18 rfl (((hB1.set_ 0 _).set_ 1 _).alloc _) _ Try.underlying24 rfl (by kernel_rfl) rfl _ rfl ?_
        rw [unpackC_ok HU.out HM.out]
        refine ⟨Av, cv, rfl, ?_, Below.alloc (((below_then hb0 hb1 hb0.size).setCell (Nat.le_refl _) _).setCell (Nat.le_refl _) _) (by simp; omega) _⟩
        exact Row.of_own ((ownsRow_setCell_below (ownsRow_setCell_below ho1 (a := ⟨w.heap.size, 0, none⟩) (by simp) _) (a := ⟨w.heap.size, 1, none⟩) (by simp) _).alloc _)
      · obtain ⟨fc, fi, hmm⟩ : ∃ fc fi, catchesFault d = (fc, fi) := ⟨_, _, rfl⟩
        have hfc : (fc == 0) = false := by rw [hmm] at hmf; simpa using hmf
        have HM := Lib.hid hmm
        clear hmf hmm
        go_wp2_with fail
        refine (checkC_at Av cv d fc fi _ (by omega) hrv HM).mono ?_
        rintro e w1 ⟨rfl, hb1⟩
        have hB1 := hB.belowS hb1
        obtain ⟨s1, s2, s3⟩ := hB1.rules
        clear r1 r2 r3
        go_wp2_with (go_at_call 28; refine (fault_any _ _ _).mono ?_; rintro e w2 ⟨rfl, hb2⟩; have hB2 := (hB1.alloc _).belowS hb2; obtain ⟨t1, t2, t3⟩ := hB2.rules)
        refine ret_tmp_blk Try.results18 rfl ((hB2.set_ 0 _).set_ 1 _) _ Try.underlying24 rfl (by kernel_rfl) rfl _ rfl ?_
        rw [unpackC_not HU.out HM.out hfc]
        exact ⟨none, 0, rfl, .inl rfl, ((below_then (Below.alloc (below_then hb0 hb1 hb0.size) (by omega) _) hb2 (by simp; omega)).setCell (Nat.le_refl _) _).setCell (Nat.le_refl _) _⟩

end Go.Proofs.Ytionmlkefheocaa
