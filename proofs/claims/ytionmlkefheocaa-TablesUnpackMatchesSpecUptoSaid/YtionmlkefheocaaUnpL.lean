/- The law on what is unpacked: the walk. -/
import Derived.Test.YtionmlkefheocaaUnpP
import Derived.Test.YtionmlkefheocaaCatL
import Derived.Test.YtionmlkefheocaaTabL
import Derived.Deep.DeepCutAuto
import Derived.StillTailTactics
namespace Go.Proofs.Ytionmlkefheocaa
open Go.RowKit
set_option linter.unusedVariables false

theorem groups_at (A : Option Addr) (c cnt : Nat) (b : List Int) (at_ : Option Nat) (gs : List (List Int)) (w : World) (hl : b.length ≤ 10000000) (hcn : cnt ≤ 4) (hc1 : 1 ≤ cnt) (hby : ∀ x ∈ b, 0 ≤ x ∧ x ≤ 255) (hA : Row w A (bcs b)) (h : Hid (grGo b cnt (b.length + 1) 0 = (at_, gs))) :
    Calls Try.prog 16 #[.slice A b.length c, .int .i64 cnt] w (GrPost b (at_, gs) w) := by
  have := groups_any A c cnt b w hl hcn hc1 hby hA
  rw [h.out] at this
  exact this

/-- what the reference makes of the bytes is what is unpacked -/
theorem unpackL_gr {b : List Int} (hb : ∀ x ∈ b, 0 ≤ x ∧ x ≤ 255) : upGo (b.length + 1) 0 0 0 b = ((grGo b 2 (b.length + 1) 0).1, mkGo 0 0 (grGo b 2 (b.length + 1) 0).2) := by
  have := up_gr hb (b.length + 1) 0 0 0 (by omega) (by omega)
  rwa [List.drop_zero] at this

def LMRel (gs : List (List Int)) (X : World) (v i : Value) (wr : World) : Prop :=
  ∃ (k : Nat) (a ln : Int) (d : List Mark), k ≤ gs.length ∧ i = .int .i64 k ∧ d.length = k ∧ 0 ≤ a ∧ a ≤ 2097152 * k ∧ -(1048576 * k) ≤ ln ∧ ln ≤ 1048576 * k ∧ mkGo 0 0 gs = d ++ mkGo a ln (gs.drop k) ∧
    Blk wr X.heap.size 24 #[.int .i64 0, .int .i64 0] ∧ Blk wr (X.heap.size + 1) 38 #[.int .i64 a, .int .i64 ln] ∧ wr.ownsRow (X.heap.size + 2) 38 2 v d.length (d.flatMap mkc) ∧ Below X.heap.size X wr

def LMCut (l : List Mark) (x y : Int) (X : World) (v : Value) (wr : World) : Prop :=
  ∃ A c, v = .slice A l.length c ∧ Row wr A (l.flatMap mkc) ∧ Blk wr X.heap.size 24 #[.int .i64 x, .int .i64 y] ∧ Below X.heap.size X wr

theorem Grps.keepB {N : Nat} {w w' : World} {A : Option Addr} {ps : List Grp} (h : Grps N w A ps) (hb : Below w.heap.size w w') : Grps N w' A ps :=
  ⟨h.1.keepB hb, h.2.1, fun p hp => by
    obtain ⟨B, c, e, hr, hn⟩ := h.2.2 p hp
    exact ⟨B, c, e, hr.keepB hb, hn⟩⟩
theorem Grps.get {N : Nat} {w : World} {A : Option Addr} {ps : List Grp} (h : Grps N w A ps) {k : Nat} (hk : k < ps.length) {v : Int} {vs : List Int} (he : ps[k].2 = v :: vs) :
    ∃ bb off b2 o2 c2, A = some ⟨bb, off, none⟩ ∧ bb < w.heap.size ∧ w.cell? ⟨bb, off + k, none⟩ = some (.slice (some ⟨b2, o2, none⟩) (vs.length + 1) c2) ∧ b2 < w.heap.size ∧ ∀ i (hi : i < vs.length + 1), w.cell? ⟨b2, o2 + i, none⟩ = some (.int .i64 (v :: vs)[i]) := by
  obtain ⟨B, c, e, hr, hn⟩ := h.2.2 ps[k] (List.getElem_mem hk)
  rw [he] at e hr
  obtain ⟨bb, off, e1, hlt, hc⟩ := h.1.at_ (k := k) (by simpa using hk)
  obtain ⟨b2, o2, e2, hlt2, _⟩ := hr.at_ (k := 0) (by simp [ics])
  refine ⟨bb, off, b2, o2, c, e1, hlt, ?_, hlt2, fun i hi => ?_⟩
  · refine hc k _ ?_
    rw [List.getElem?_map, List.getElem?_eq_getElem hk]
    simp [e, e2]
  · obtain ⟨b3, o3, e3, _, hc3⟩ := hr.at_ (k := i) (by simpa [ics] using hi)
    rw [e2] at e3
    injection e3 with e3
    injection e3 with e4 e5
    subst e4
    subst e5
    refine hc3 i _ ?_
    rw [ics, List.getElem?_map, List.getElem?_eq_getElem (by simpa using hi)]
    rfl

theorem mkGo_len : ∀ (gs : List (List Int)) (a ln : Int), (mkGo a ln gs).length = gs.length
  | [], _, _ => rfl
  | g :: gs, a, ln => by rw [mkGo, List.length_cons, mkGo_len gs, List.length_cons]
theorem ctGo_len : ∀ (gs : List (List Int)) (a : Int), (ctGo a gs).length = gs.length
  | [], _ => rfl
  | g :: gs, a => by rw [ctGo, List.length_cons, ctGo_len gs, List.length_cons]
theorem grGo_len {b : List Int} {c : Nat} (hb : ∀ x ∈ b, 0 ≤ x ∧ x ≤ 255) (hc : 1 ≤ c) : ∀ (f p : Nat), p ≤ b.length → (grGo b c f p).2.length + p ≤ b.length
  | 0, p, hp => by simp [grGo]; omega
  | f + 1, p, hp => by
    rw [grGo]
    by_cases h : b.length ≤ p
    · rw [if_pos h]; simp; omega
    · rw [if_neg h]
      cases hr : rdN b p c with
      | none => simp; omega
      | some r =>
        obtain ⟨vs, q⟩ := r
        obtain ⟨i1, i2, i3, i4, i5, _⟩ := rdN_bd hb hp c vs q hr
        have := i5 (by omega) (by omega)
        have := grGo_len hb hc f q i4
        simp only [List.length_cons]
        omega
theorem unpackL_facts {b : List Int} {l : List Mark} {x y : Int} (hb : ∀ x ∈ b, 0 ≤ x ∧ x ≤ 255) (hl : b.length ≤ 10000000) (h : unpackL b = (l, (x, y))) : marksFault l = (0, 0) ∧ (x = 0 → packGo 0 0 l = b) ∧ l.length ≤ 10000000 := by
  obtain ⟨at2, gs2, eg⟩ : ∃ at2 gs2, grGo b 2 (b.length + 1) 0 = (at2, gs2) := ⟨_, _, rfl⟩
  have hup := unpackL_gr hb
  rw [eg] at hup
  have hn : marksFault [] = (0, 0) := by rfl
  cases at2 with
  | some p =>
    rw [unpackL_bad hup] at h
    injection h with h1 h2
    injection h2 with h2 h3
    subst h1
    exact ⟨hn, fun e => by omega, by simp⟩
  | none =>
    rcases marksFault_ne (mkGo 0 0 gs2) with hm | hm
    · rw [unpackL_ok hup hm] at h
      injection h with h1 h2
      subst h1
      refine ⟨hm, fun _ => ?_, ?_⟩
      · have := pack_up hb (b.length + 1) 0 0 0 (by omega) (by omega) (by rw [eg])
        rw [eg, List.drop_zero] at this
        exact this
      · have := grGo_len hb (c := 2) (by omega) (b.length + 1) 0 (by omega)
        rw [eg] at this
        have h5 : gs2.length + 0 ≤ b.length := this
        rw [mkGo_len]
        omega
    · obtain ⟨fc, fi, em⟩ : ∃ fc fi, marksFault (mkGo 0 0 gs2) = (fc, fi) := ⟨_, _, rfl⟩
      rw [em] at hm
      have hm' : fc ≠ 0 := hm
      rw [unpackL_not hup em (by simpa using hm')] at h
      injection h with h1 h2
      injection h2 with h2 h3
      subst h1
      subst h2
      exact ⟨hn, fun e => absurd e hm', by simp⟩

theorem unpackC_facts {b : List Int} {l : List Catch} {x y : Int} (hb : ∀ x ∈ b, 0 ≤ x ∧ x ≤ 255) (hl : b.length ≤ 10000000) (h : unpackC b = (l, (x, y))) : catchesFault l = (0, 0) ∧ (x = 0 → packCGo 0 l = b) ∧ l.length ≤ 10000000 := by
  obtain ⟨at2, gs2, eg⟩ : ∃ at2 gs2, grGo b 4 (b.length + 1) 0 = (at2, gs2) := ⟨_, _, rfl⟩
  have hup := uc_gr hb (b.length + 1) 0 0
  rw [eg] at hup
  have hn : catchesFault [] = (0, 0) := by rfl
  cases at2 with
  | some p =>
    rw [unpackC_bad hup] at h
    injection h with h1 h2
    injection h2 with h2 h3
    subst h1
    exact ⟨hn, fun e => by omega, by simp⟩
  | none =>
    rcases catchesFault_ne (ctGo 0 gs2) with hm | hm
    · rw [unpackC_ok hup hm] at h
      injection h with h1 h2
      subst h1
      refine ⟨hm, fun _ => ?_, ?_⟩
      · have := pack_uc hb (b.length + 1) 0 0 (by omega) (by omega) (by rw [eg])
        rw [eg, List.drop_zero] at this
        exact this
      · have := grGo_len hb (c := 4) (by omega) (b.length + 1) 0 (by omega)
        rw [eg] at this
        have h5 : gs2.length + 0 ≤ b.length := this
        rw [ctGo_len]
        omega
    · obtain ⟨fc, fi, em⟩ : ∃ fc fi, catchesFault (ctGo 0 gs2) = (fc, fi) := ⟨_, _, rfl⟩
      rw [em] at hm
      have hm' : fc ≠ 0 := hm
      rw [unpackC_not hup em (by simpa using hm')] at h
      injection h with h1 h2
      injection h2 with h2 h3
      subst h1
      subst h2
      exact ⟨hn, fun e => absurd e hm', by simp⟩

/-- a row of catches lies in no block of two cells -/
theorem catch_far {w : World} {A : Option Addr} {l : List Catch} {g : Nat} {t : TypeId} {cs : Array Value} (h : Row w A (l.flatMap ctc)) (hB : Blk w g t cs) (i : Nat) (u : Value) (hcs : cs.size = 2 := by rfl) : Row (w.setCell ⟨g, i, none⟩ u) A (l.flatMap ctc) := by
  match l, h with
  | [], _ => exact .inl rfl
  | c :: l, h =>
    obtain ⟨b, off, e, hlt, hc⟩ := h.at_ (k := 3) (by simp [ctc])
    have hne : b ≠ g := by
      rintro rfl
      have := hc 3 (.int .i64 c.2.2.2) (by simp [ctc])
      rw [hB.cell, Array.getElem?_eq_none (by omega)] at this
      cases this
    refine .inr ⟨b, off, e, by simpa using hlt, fun j v hv => ?_⟩
    rw [World.cell?_setCell_far _ _ _ _ (Ne.symm hne)]
    exact hc j v hv

theorem row_far {w : World} {A : Option Addr} {xs : List Value} {g : Nat} (h : Row w A xs) (hn : ∀ a, A = some a → a.block ≠ g) (i : Nat) (u : Value) : Row (w.setCell ⟨g, i, none⟩ u) A xs := by
  rcases h with h | ⟨b, off, e, hlt, hc⟩
  · exact .inl h
  · refine .inr ⟨b, off, e, by simpa using hlt, fun j v hv => ?_⟩
    have hne : b ≠ g := hn _ e
    rw [World.cell?_setCell_far _ _ _ _ (Ne.symm hne)]
    exact hc j v hv
theorem Grps.far {N g : Nat} {w : World} {A : Option Addr} {ps : List Grp} (h : Grps N w A ps) (hg : g < N) (i : Nat) (u : Value) : Grps N (w.setCell ⟨g, i, none⟩ u) A ps :=
  ⟨row_far h.1 (fun a ha e => by have := h.2.1 a ha; omega) i u, h.2.1, fun p hp => by
    obtain ⟨B, c, e, hr, hn⟩ := h.2.2 p hp
    exact ⟨B, c, e, row_far hr (fun a ha e => by have := hn a ha; omega) i u, hn⟩⟩

def LCtRel (gs : List (List Int)) (X : World) (v s i : Value) (wr : World) : Prop :=
  ∃ (k : Nat) (fr : Int) (d : List Catch), k ≤ gs.length ∧ i = .int .i64 k ∧ s = .int .i64 fr ∧ d.length = k ∧ -(1048576 * k) ≤ fr ∧ fr ≤ 1048576 * k ∧ ctGo 0 gs = d ++ ctGo fr (gs.drop k) ∧
    wr.ownsRow X.heap.size 51 4 v d.length (d.flatMap ctc) ∧ Below X.heap.size X wr
def LCCut (m : List Catch) (x y : Int) (gf gw : Nat) (A15 : Option Addr) (w : World) (v : Value) (wr : World) : Prop :=
  ∃ A c, v = .slice A m.length c ∧ Row wr A (m.flatMap ctc) ∧ Row wr A15 (m.flatMap ctc) ∧ Blk wr gf 24 #[.int .i64 x, .int .i64 y] ∧ Blk wr gw 24 #[.int .i64 x, .int .i64 y] ∧ Below w.heap.size w wr

set_option maxRecDepth 100000 in
set_option maxHeartbeats 4000000 in
theorem lawUnpack_a (A : Option Addr) (c : Nat) (b : List Int) (l : List Mark) (m : List Catch) (x y x' y' : Int) (w : World) (hl : b.length ≤ 10000000) (hby : ∀ x ∈ b, 0 ≤ x ∧ x ≤ 255) (hA : Row w A (bcs b))
    (hL : Hid (unpackL b = (l, (x, y)))) (hC : Hid (unpackC b = (m, (x', y')))) :
    Calls Try.prog 4 #[.slice A b.length c] w fun e w' => e = .returned (.bool true) ∧ Below w.heap.size w w' := by
  obtain ⟨at2, gs2, eg2⟩ : ∃ at2 gs2, grGo b 2 (b.length + 1) 0 = (at2, gs2) := ⟨_, _, rfl⟩
  obtain ⟨at4, gs4, eg4⟩ : ∃ at4 gs4, grGo b 4 (b.length + 1) 0 = (at4, gs4) := ⟨_, _, rfl⟩
  have E2 := Lib.hid eg2
  have E4 := Lib.hid eg4
  have HY := Lib.hid hby
  have HA := Lib.hid hA
  clear eg2 eg4 hby hA
  obtain ⟨i0, hi, hz0, hz1, hz2⟩ := info_parts info_mark
  obtain ⟨j0, hj, hy0, hy1, hy2⟩ := info_parts info_catch
  go_enter Try.func4, Try.ntmps4
  go_wp2_with fail
  refine (unpack_at A c b l x y _ hl HY.out HA.out hL).mono ?_
  rintro e w1 ⟨A3, c3, rfl, hr3, hb1⟩
  have hb1' := hb1.alloc hb1.size (.cells #[.int .i64 x, .int .i64 y] 24)
  have HF1 := Lib.hid (Blk.new w1 24 #[.int .i64 x, .int .i64 y])
  have HR3 := Lib.hid (hr3.keepB ((Below.refl _ _).alloc (Nat.le_refl _) (.cells #[.int .i64 x, .int .i64 y] 24)))
  clear hr3
  go_wp2_with fail
  refine (groups_at A c 2 b at2 gs2 _ hl (by omega) (by omega) HY.out (HA.out.keepB hb1') E2).mono ?_
  rintro e w2 ⟨A5, c5, ps, ai, rfl, hG, hb2, hps, hcase⟩
  have hb2' := below_then hb1' hb2 hb1'.size
  have hF2 := HF1.out.belowS hb2
  have HR2 := Lib.hid (HR3.out.keepB hb2)
  have HG := Lib.hid hG
  have HC := Lib.hid hcase
  have hs1 := hb1.size
  have hs2 := hF2.lt
  clear HF1 HR3 hG hcase hb1 hb1' hb2
  go_upto_if 37 with fail
  go_cut [8] (fun s8 wx => LMCut l x y w2 s8 wx)
  case first =>
    have hW2 := Blk.new w2 24 #[.int .i64 0, .int .i64 0]
    have hb20 : Below w2.heap.size w2 (w2.alloc (.cells #[.int .i64 0, .int .i64 0] 24)) := (Below.refl _ _).alloc (Nat.le_refl _) _
    rcases HC.out with ⟨p, e1, rfl, rfl⟩ | ⟨e1, rfl, e3⟩
    · have e4 := hL.out
      rw [unpackL_bad (p := p) (by rw [unpackL_gr HY.out, E2.out, e1])] at e4
      injection e4 with e4 e5
      injection e5 with e5 e6
      subst e4
      subst e5
      subst e6
      clear e1
      have hp0 : (0 : Int) ≤ p := by omega
      go_wp2_with fail
      refine (at_any 16 p _).mono ?_
      rintro e w3 ⟨rfl, hb3⟩
      have hW3 := hW2.belowS hb3
      have hb3' := below_then hb20 hb3 (by simp)
      clear hW2 hb20
      obtain ⟨t1, t2, t3⟩ := hW3.rules
      go_wp2_with fail
      go_meet
      exact ⟨none, 0, rfl, .inl rfl, (hW3.set_ 0 _).set_ 1 _, (hb3'.setCell (Nat.le_refl _) _).setCell (Nat.le_refl _) _⟩
    · have hbd := grGo_bd (c := 2) HY.out (b.length + 1) 0 (by omega)
      rw [E2.out] at hbd
      have HD := Lib.hid hbd
      have E1 := Lib.hid e1
      have E3 := Lib.hid e3
      have HW2 := Lib.hid hW2
      clear hbd e1 e3 hW2
      have hgl : gs2.length = ps.length := by rw [E3.out]; simp
      have HGL := Lib.hid hgl
      clear hgl
      go_wp2_with fail
      go_loopw [8, 43] (fun v i wr => LMRel gs2 w2 v i wr) (fun _ i _ => ps.length - (intOf i).toNat)
      case atStart =>
        refine ⟨0, 0, 0, [], by omega, rfl, rfl, by omega, by omega, by omega, by omega, by simp, HW2.out.alloc _, ?_, World.ownsRow_nil _ _ _ _, hb20.alloc (by simp) _⟩
        have := Blk.new (w2.alloc (.cells #[.int .i64 0, .int .i64 0] 24)) 38 #[.int .i64 0, .int .i64 0]
        simpa using this
      case round =>
        clear hb20
        obtain ⟨k, a, ln, d, hk, rfl, hdk, a0, a1, l0, l1, he, hW, hN, hown, hb0⟩ := hrel
        have HE := Lib.hid he
        have HDK := Lib.hid hdk
        clear he hdk
        obtain ⟨t1, t2, t3⟩ := hW.rules
        obtain ⟨n1, n2, n3⟩ := hN.rules
        by_cases hlt : k < ps.length
        · have hk2 : k < gs2.length := by rw [HGL.out]; exact hlt
          have eg : gs2[k] = ps[k].2 := by simp [E3.out]
          obtain ⟨q1, q2⟩ := HD.out gs2[k] (List.getElem_mem hk2)
          obtain ⟨v0, v1, ev⟩ : ∃ v0 v1, gs2[k] = [v0, v1] := by
            match h : gs2[k], q1 with
            | [v0, v1], _ => exact ⟨v0, v1, rfl⟩
          have q2' := q2
          rw [ev] at q2'
          have b0 := (q2' v0 (by simp))
          have b1 := (q2' v1 (by simp))
          have u1 := unfold_bd b1.1 b1.2
          obtain ⟨bb, off, b2, o2, c2, rfl, hlt1, hc1, hlt2, hcc⟩ := (HG.out.keepB hb0).get hlt (v := v0) (vs := [v1]) (by rw [← eg, ev])
          have cc0 := hcc 0 (by simp)
          have cc1 := hcc 1 (by simp)
          simp only [List.length_cons, List.length_nil, Nat.zero_add, List.getElem_cons_zero, List.getElem_cons_succ, Nat.add_zero] at hc1 cc0 cc1
          have EV := Lib.hid ev
          have w1' : IntKind.i64.wrap (a + v0) = a + v0 := IntWalk.i64_in _ (by omega)
          have w2' : IntKind.i64.wrap (ln + unfoldI v1) = ln + unfoldI v1 := IntWalk.i64_in _ (by omega)
          clear hcc q1 q2 q2' ev eg
          go_wp2_with fail
          go_still_tail 14, (by kernel_rfl)
          still_call ((opened_any _ _ (by omega) (by omega)).mono (fun e w'' h => ⟨h.1, h.2.symm⟩))
          repeat still_step
          refine wpStill_nil ?_
          have hNd := hN.drew
          have hWd := hW.drew
          have hownd := hown.drew
          have hbd := hb0.drew
          have hltd : b2 < wr.drew.heap.size := hlt2
          change wpList _ _ _ _ _ wr.drew
          generalize wr.drew = wd at hNd hWd hownd hbd hltd ⊢
          clear hN hW hown hb0 n1 n2 n3 t1 t2 t3 hc1 cc0 cc1 hlt1 hlt2 w1' w2'
          obtain ⟨n1, n2, n3⟩ := hNd.rules
          have hsd := hbd.size
          go_wp2_with (at_builtin; refine wpList_append_row _ rfl (.tmp 61) (.tmp 63) 22 rfl (w2.heap.size + 2) 38 i0 (.agg #[.int .i64 0, .int .i64 0]) 2 16 Try.underlying22 hi hz0 hz1 hz2 rfl (by decide) u8 d.length (d.flatMap mkc) rfl ((ownsRow_setCell_below (ownsRow_setCell_below hownd (a := ⟨w2.heap.size + 1, 0, none⟩) (by simp) _) (a := ⟨w2.heap.size + 1, 1, none⟩) (by simp) _).alloc _) (some ⟨wd.heap.size, 0, none⟩) 1 1 [.int .i64 (a + v0), .int .i64 (ln + unfoldI v1)] rfl rfl (Row.newAt _ _ _ _ (by simp)) (by simp [Value.oneCell']) (by have := HDK.out; unfold maxLen; omega) (by have := HDK.out; omega) (by simp; omega) ?_; intro v3 w3 hown3 hg3 hat3)
          go_roundw
          case rel =>
            have hdk := HDK.out
            have hgl := HGL.out
            have hne : ∀ g, g ≤ w2.heap.size + 1 → some g ≠ u8.ownBlock := fun g hg e => by have := hownd.lt _ e.symm; omega
            refine ⟨k + 1, a + v0, ln + unfoldI v1, d ++ [(a + v0, ln + unfoldI v1)], by omega, by go_num, by simp; omega, by omega, by omega, by omega, by omega, ?_, ?_, ?_, ?_, ?_⟩
            · rw [HE.out, drop_cons hk2, EV.out]
              simp [mkGo]
            · exact (((hWd.far (by simp) _).far (by simp) _).alloc _).grown hg3 (hne _ (by omega))
            · exact (((hNd.set_ 0 _).set_ 1 _).alloc _).grown hg3 (hne _ (by omega))
            · simpa [mkc] using hown3
            · exact ((((hbd.setCell (by simp) _).setCell (by simp) _).alloc (by simp; omega) _).grown hg3 (by simp; omega) (fun g e => by have := hownd.lt g e; omega))
          case measure => simp [intOf]; omega
        · obtain ⟨Av, cv, rfl, hrv, hcv⟩ := own_form hown
          have hgl := HGL.out
          have hde : mkGo 0 0 gs2 = d := by rw [HE.out, List.drop_of_length_le (by omega)]; simp [mkGo]
          have hup : upGo (b.length + 1) 0 0 0 b = (none, d) := by rw [unpackL_gr HY.out, E2.out, E1.out, hde]
          have e4 := hL.out
          have hdl : d.length ≤ 10000000 := by have := HDK.out; omega
          rcases marksFault_ne d with hm0 | hm0
          · rw [unpackL_ok hup hm0] at e4
            injection e4 with e4 e5
            injection e5 with e5 e6
            subst e4
            subst e5
            subst e6
            have HM := Lib.hid hm0
            clear hm0 hup hde
            go_wp2_with fail
            refine (marksFault_at Av cv d 0 0 _ (by omega) hrv HM).mono ?_
            rintro e w3 ⟨rfl, hb3⟩
            have hb3' := below_then hb0 hb3 hb0.size
            go_wp2_with fail
            go_meet
            exact ⟨Av, cv, rfl, (hrv.keepB hb3).keepB ((Below.refl _ _).alloc (Nat.le_refl _) _), (hW.belowS hb3).alloc _, hb3'.alloc hb3'.size _⟩
          · obtain ⟨fc, fi, em⟩ : ∃ fc fi, marksFault d = (fc, fi) := ⟨_, _, rfl⟩
            rw [em] at hm0
            have hfc : (fc == 0) = false := by simpa using hm0
            have hfc2 : (fc != 0) = true := by simpa using hm0
            rw [unpackL_not hup em hfc] at e4
            injection e4 with e4 e5
            injection e5 with e5 e6
            subst e4
            subst e5
            subst e6
            have HM := Lib.hid em
            clear hm0 hup hde em
            go_wp2_with fail
            refine (marksFault_at Av cv d fc fi _ (by omega) hrv HM).mono ?_
            rintro e w3 ⟨rfl, hb3⟩
            have hb3' := below_then hb0 hb3 hb0.size
            have hb3'' := hb3'.alloc hb3'.size (.cells #[.int .i64 fc, .int .i64 fi] 24)
            have hW3 := (hW.belowS hb3).alloc (.cells #[.int .i64 fc, .int .i64 fi] 24)
            clear t1 t2 t3
            go_wp2_with fail
            refine (at_any fc (-1) _).mono ?_
            rintro e w4 ⟨rfl, hb4⟩
            have hb4' := below_then hb3'' hb4 hb3''.size
            have hW4 := hW3.belowS hb4
            obtain ⟨t1, t2, t3⟩ := hW4.rules
            go_wp2_with fail
            go_meet
            exact ⟨none, 0, rfl, .inl rfl, (hW4.set_ 0 _).set_ 1 _, (hb4'.setCell (Nat.le_refl _) _).setCell (Nat.le_refl _) _⟩
  case rest =>
    obtain ⟨A8, c8, rfl, hr8, hWc, hbc⟩ := hcut
    have hx : marksFault l = (0, 0) ∧ (x = 0 → packGo 0 0 l = b) ∧ l.length ≤ 10000000 := unpackL_facts HY.out hl hL.out
    have HX := Lib.hid hx.1
    have HXP := Lib.hid hx.2.1
    have hll := hx.2.2
    clear hx
    have hFc := hF2.belowS hbc
    have hr3 := HR2.out.keepB hbc
    have hbw := below_then hb2' hbc hb2'.size
    clear HR2 hF2 HG HC hbc hb2'
    obtain ⟨t1, t2, t3⟩ := hWc.rules
    obtain ⟨f1, f2, f3⟩ := hFc.rules
    go_wp2_with fail
    refine (eqMarks_any A3 A8 c3 c8 l l _ (by omega) (by omega) hr3 hr8).mono ?_
    rintro e w3 ⟨rfl, hb3⟩
    have hd : decide (l = l) = true := by simp
    rw [hd]
    have hW3 := hWc.belowS hb3
    have hF3 := hFc.belowS hb3
    have hr3' := hr3.keepB hb3
    have hb3' := below_then hbw hb3 hbw.size
    clear hd t1 t2 t3 f1 f2 f3 hWc hFc hr3 hr8 hb3 hbw
    go_wp2_with fail
    refine (packLines_ok A3 c3 l _ hr3' HX).mono ?_
    rintro e w4 ⟨Ab, cb, rfl, hrb, hb4⟩
    have hb4' := below_then hb3' hb4 hb3'.size
    have hb4'' := hb4'.alloc hb4'.size (.cells #[.int .i64 0, .int .i64 0] 24)
    have hW4 := (hW3.belowS hb4).alloc (.cells #[.int .i64 0, .int .i64 0] 24)
    have hF4 := (hF3.belowS hb4).alloc (.cells #[.int .i64 0, .int .i64 0] 24)
    have hrb' := hrb.keepB ((Below.refl _ _).alloc (Nat.le_refl _) (.cells #[.int .i64 0, .int .i64 0] 24))
    have hG4 := Blk.new w4 24 #[.int .i64 0, .int .i64 0]
    have HG4 := Lib.hid hG4
    clear hW3 hF3 hr3' hrb hb3' hb4 hb4' hG4
    go_upto_region 20 with fail
    go_cut [101] (fun s101 wx => s101 = .bool false ∧ Below (w4.heap.size + 1) (w4.alloc (.cells #[.int .i64 0, .int .i64 0] 24)) wx)
    case first =>
      obtain ⟨f1, f2, f3⟩ := hF4.rules
      obtain ⟨g1, g2, g3⟩ := HG4.out.rules
      by_cases hx0 : x = 0
      · subst hx0
        have hpl := (pack_bd HX.out).2
        go_wp2_with fail
        refine (eqBytes_any A Ab c cb b (packGo 0 0 l) _ (by omega) (by omega) (HA.out.keepB hb4'') hrb').mono ?_
        rintro e w5 ⟨rfl, hb5⟩
        have hd : decide (b = packGo 0 0 l) = true := by rw [HXP.out (by first | trivial | rfl)]; simp
        rw [hd]
        clear hd
        go_wp2_with fail
        go_meet
        exact ⟨rfl, by simpa using hb5⟩
      · have hxb : (x == 0) = false := by simpa using hx0
        go_wp2_with fail
        go_meet
        exact ⟨rfl, Below.refl _ _⟩
    case rest =>
      obtain ⟨rfl, hbx0⟩ := hcut
      have hbx : Below (w4.alloc (.cells #[.int .i64 0, .int .i64 0] 24)).heap.size (w4.alloc (.cells #[.int .i64 0, .int .i64 0] 24)) wc := by simpa using hbx0
      have hW5 := hW4.belowS hbx
      have hF5 := hF4.belowS hbx
      have hb5 := below_then hb4'' hbx hb4''.size
      clear hbx hbx0 hW4 hF4 HG4 hrb' hb4'' HXP HX
      go_wp2_with fail
      refine (unpackC_at A c b m x' y' _ hl HY.out (HA.out.keepB hb5) hC).mono ?_
      rintro e w6 ⟨A15, c15, rfl, hr15, hb6⟩
      have hW6 := hW5.belowS hb6
      have hF6 := hF5.belowS hb6
      have hb6' := below_then hb5 hb6 hb5.size
      have hne : w2.heap.size ≠ w1.heap.size := by omega
      have hF7 := (hF6.set_ 0 (.int .i64 x')).set_ 1 (.int .i64 y')
      have hW7 := (hW6.far (p := ⟨w1.heap.size, 0, none⟩) hne (.int .i64 x')).far (p := ⟨w1.heap.size, 1, none⟩) hne (.int .i64 y')
      have hb7 := (hb6'.setCell (p := ⟨w1.heap.size, 0, none⟩) hs1 (.int .i64 x')).setCell (p := ⟨w1.heap.size, 1, none⟩) hs1 (.int .i64 y')
      have hr7 := catch_far (catch_far hr15 hF6 0 (.int .i64 x')) (hF6.set_ 0 (.int .i64 x')) 1 (.int .i64 y')
      obtain ⟨f1, f2, f3⟩ := hF6.rules
      clear hW5 hF5 hb5 hb6 hb6' hr15 hW6
      go_wp2_with fail
      refine (groups_at A c 4 b at4 gs4 _ hl (by omega) (by omega) HY.out (HA.out.keepB hb7) E4).mono ?_
      rintro e w8 ⟨A16, c16, ps4, ai4, rfl, hG8, hb8, hps4, hcase4⟩
      have hF8 := hF7.belowS hb8
      have hW8 := hW7.belowS hb8
      have hb8' := below_then hb7 hb8 hb7.size
      have hr8' := hr7.keepB hb8
      have hne' : w1.heap.size ≠ w2.heap.size := by omega
      have hs2' : w.heap.size ≤ w2.heap.size := by omega
      have hF9 := (hF8.far (p := ⟨w2.heap.size, 0, none⟩) hne' (.int .i64 0)).far (p := ⟨w2.heap.size, 1, none⟩) hne' (.int .i64 0)
      have hW9 := (hW8.set_ 0 (.int .i64 0)).set_ 1 (.int .i64 0)
      have hb9 := (hb8'.setCell (p := ⟨w2.heap.size, 0, none⟩) hs2' (.int .i64 0)).setCell (p := ⟨w2.heap.size, 1, none⟩) hs2' (.int .i64 0)
      have hr9 := catch_far (catch_far hr8' hW8 0 (.int .i64 0)) (hW8.set_ 0 (.int .i64 0)) 1 (.int .i64 0)
      have hgw : w2.heap.size < ((w6.setCell ⟨w1.heap.size, 0, none⟩ (.int .i64 x')).setCell ⟨w1.heap.size, 1, none⟩ (.int .i64 y')).heap.size := hW7.lt
      have hG9 := (hG8.far hgw 0 (.int .i64 0)).far hgw 1 (.int .i64 0)
      obtain ⟨t1, t2, t3⟩ := hW8.rules
      have HC4 := Lib.hid hcase4
      clear hF7 hW7 hb7 hr7 hb8 hF8 hb8' hr8' hG8 hcase4 f1 f2 f3 hF6 hne hgw
      go_upto_if 114 with fail
      generalize ((w8.setCell ⟨w2.heap.size, 0, none⟩ (.int .i64 0)).setCell ⟨w2.heap.size, 1, none⟩ (.int .i64 0)) = X at hF9 hW9 hb9 hr9 hG9 ⊢
      have HG := Lib.hid hG9
      have HR9 := Lib.hid hr9
      have hF : Blk X w1.heap.size 24 #[.int .i64 x', .int .i64 y'] := hF9
      have hW : Blk X w2.heap.size 24 #[.int .i64 0, .int .i64 0] := hW9
      clear hW8 t1 t2 t3 hG9 hr9 hF9 hW9
      go_cut [17] (fun s17 wx => LCCut m x' y' w1.heap.size w2.heap.size A15 w s17 wx)
      case first =>
        rcases HC4.out with ⟨p, e1, rfl, rfl⟩ | ⟨e1, rfl, e3⟩
        · have e4 := hC.out
          rw [unpackC_bad (p := p) (by rw [uc_gr HY.out, E4.out, e1])] at e4
          injection e4 with e4 e5
          injection e5 with e5 e6
          subst e4
          subst e5
          subst e6
          clear e1
          have hp0 : (0 : Int) ≤ p := by omega
          go_wp2_with fail
          refine (at_any 16 p _).mono ?_
          rintro e w9 ⟨rfl, hb⟩
          have hWn := hW.belowS hb
          have hFn := hF.belowS hb
          have hbn := below_then hb9 hb hb9.size
          obtain ⟨t1, t2, t3⟩ := hWn.rules
          go_wp2_with fail
          go_meet
          exact ⟨none, 0, rfl, .inl rfl, .inl rfl, (hFn.far hne' _).far hne' _, (hWn.set_ 0 _).set_ 1 _, (hbn.setCell hs2' _).setCell hs2' _⟩
        · have hbd := grGo_bd (c := 4) HY.out (b.length + 1) 0 (by omega)
          rw [E4.out] at hbd
          have HD := Lib.hid hbd
          have E1 := Lib.hid e1
          have E3 := Lib.hid e3
          clear hbd e1 e3
          have hgl : gs4.length = ps4.length := by rw [E3.out]; simp
          have HGL := Lib.hid hgl
          clear hgl
          go_wp2_with fail
          go_loopw [17, 18, 119] (fun v fr i wr => LCtRel gs4 X v fr i wr) (fun _ _ i _ => ps4.length - (intOf i).toNat)
          case atStart => exact ⟨0, 0, [], by omega, rfl, rfl, rfl, by omega, by omega, by simp, World.ownsRow_nil _ _ _ _, Below.refl _ _⟩
          case round =>
            obtain ⟨k, fr, d, hk, rfl, rfl, hdk, l0, l1, he, hown, hb0⟩ := hrel
            have HE := Lib.hid he
            have HDK := Lib.hid hdk
            clear he hdk
            by_cases hlt : k < ps4.length
            · have hk2 : k < gs4.length := by rw [HGL.out]; exact hlt
              have eg : gs4[k] = ps4[k].2 := by simp [E3.out]
              obtain ⟨q1, q2⟩ := HD.out gs4[k] (List.getElem_mem hk2)
              obtain ⟨x0, x1, x2, x3, ev⟩ := len4 q1
              rw [ev] at q2
              have b0 := q2 x0 (by simp)
              have b1 := q2 x1 (by simp)
              have b2' := q2 x2 (by simp)
              have b3 := q2 x3 (by simp)
              have u0' := unfold_bd b0.1 b0.2
              have u2' := unfold_bd b2'.1 b2'.2
              obtain ⟨bb, off, b2, o2, c2, rfl, hlt1, hc1, hlt2, hcc⟩ := HG.out.get hlt (v := x0) (vs := [x1, x2, x3]) (by rw [← eg, ev])
              have cc0 := hcc 0 (by simp)
              have cc1 := hcc 1 (by simp)
              have cc2 := hcc 2 (by simp)
              have cc3 := hcc 3 (by simp)
              simp only [List.length_cons, List.length_nil, Nat.zero_add, List.getElem_cons_zero, List.getElem_cons_succ, Nat.add_zero, Nat.reduceAdd] at hc1 cc0 cc1 cc2 cc3
              have CC2 := Lib.hid cc2
              have CC3 := Lib.hid cc3
              have hs0 := hb0.size
              have d1 := ((bcell hb0).1 _ _ hlt1).trans hc1
              have d2 := ((bcell hb0).1 _ _ hlt2).trans cc0
              have d3 := ((bcell hb0).1 _ _ hlt2).trans cc1
              have d4 := ((bcell hb0).1 _ _ hlt2).trans cc2
              have d5 := ((bcell hb0).1 _ _ hlt2).trans cc3
              have hl1 : bb < wr.heap.size := by omega
              have hl2 : b2 < wr.heap.size := by omega
              have hn2 : ¬ b2 = wr.heap.size := by omega
              have EV := Lib.hid ev
              have hdn : d.length ≤ 10000000 := by have := HDK.out; omega
              have m1 : d.length + 1 ≤ maxLen := by unfold maxLen; omega
              have m2 : (d.length + 1) * 32 ≤ 140737488355328 := by omega
              have hb2n := b2'.1
              have hb2m : x2 ≤ 10000000 := by omega
              have ww : IntKind.i64.wrap (fr + unfoldI x0 + x1 + unfoldI x2) = fr + unfoldI x0 + x1 + unfoldI x2 := IntWalk.i64_in _ (by omega)
              clear hcc q1 q2 ev eg cc0 cc1 cc2 cc3 hc1
              go_wp2_with (go_at_call 17; refine (opened_any _ _ b0.1 (by omega)).mono ?_; rintro e w' ⟨rfl, rfl⟩)
              go_region_held3 (fun w' => w'.cell? ⟨b2, o2 + 2, none⟩ = some (.int .i64 x2) ∧ w'.cell? ⟨b2, o2 + 3, none⟩ = some (.int .i64 x3))
                (first | go_keep | (exact ⟨((bcell hb3).1 _ _ hlt2).trans CC2.out, ((bcell hb3).1 _ _ hlt2).trans CC3.out⟩))
                (first
                  | (go_at_call 17; refine (opened_any _ _ hb2n hb2m).mono ?_; rintro e w' ⟨rfl, rfl⟩)
                  | (refine step_append_row _ (by rfl) (.tmp 134) (.tmp 147) 47 (by rfl) X.heap.size 51 j0 (.agg #[.int .i64 0, .int .i64 0, .int .i64 0, .int .i64 0]) 4 32 Try.underlying47 hj hy0 hy1 hy2 rfl (by decide) u17 d.length (d.flatMap ctc) (by rfl) ((hown.alloc _).drew) (some ⟨wr.heap.size, 0, none⟩) 1 1 [.int .i64 (fr + unfoldI x0), .int .i64 (fr + unfoldI x0 + x1), .int .i64 (fr + unfoldI x0 + x1 + unfoldI x2), .int .i64 x3] (by rfl) (by rfl) (Row.new wr #[.int .i64 (fr + unfoldI x0), .int .i64 (fr + unfoldI x0 + x1), .int .i64 (fr + unfoldI x0 + x1 + unfoldI x2), .int .i64 x3] 51) (by simp [Value.oneCell']) m1 m2 (by simp; omega) ?_
                     intro v3 w3 hown3 hg3 hat3
                     have hb3 := ((hb0.alloc hs0 _).drew).grown hg3 (by simp; omega) (fun g e => by have := hown.lt g e; omega))
                  | fail)
              clear ww d1 d2 d3 d4 d5
              go_wp2_with fail
              go_roundw
              case rel =>
                have hdk := HDK.out
                have hgl := HGL.out
                refine ⟨k + 1, fr + unfoldI x0, d ++ [(fr + unfoldI x0, fr + unfoldI x0 + x1, fr + unfoldI x0 + x1 + unfoldI x2, x3)], by omega, by go_num, rfl, by simp; omega, by omega, by omega, ?_, ?_, hb3⟩
                · rw [HE.out, drop_cons hk2, EV.out]
                  simp [ctGo]
                · simpa [ctc] using hown3
              case measure => simp [intOf]; omega
            · obtain ⟨Av, cv, rfl, hrv, hcv⟩ := own_form hown
              have hgl := HGL.out
              have hde : ctGo 0 gs4 = d := by rw [HE.out, List.drop_of_length_le (by omega)]; simp [ctGo]
              have hup : ucGo b (b.length + 1) 0 0 = (none, d) := by rw [uc_gr HY.out, E4.out, E1.out, hde]
              have e4 := hC.out
              have hdl : d.length ≤ 10000000 := by have := HDK.out; omega
              have hFn := hF.belowS hb0
              have hWn := hW.belowS hb0
              have hRn := HR9.out.keepB hb0
              have hbn := below_then hb9 hb0 hb9.size
              rcases catchesFault_ne d with hm0 | hm0
              · rw [unpackC_ok hup hm0] at e4
                injection e4 with e4 e5
                injection e5 with e5 e6
                subst e4
                subst e5
                subst e6
                have HM := Lib.hid hm0
                clear hm0 hup hde
                go_wp2_with fail
                refine (catchesFault_at Av cv d 0 0 _ (by omega) hrv HM).mono ?_
                rintro e w9 ⟨rfl, hb⟩
                have hb' := below_then hbn hb hbn.size
                go_wp2_with fail
                go_meet
                have hk0 : Below w9.heap.size w9 (w9.alloc (.cells #[.int .i64 0, .int .i64 0] 24)) := (Below.refl _ _).alloc (Nat.le_refl _) _
                exact ⟨Av, cv, rfl, (hrv.keepB hb).keepB hk0, (hRn.keepB hb).keepB hk0, (hFn.belowS hb).alloc _, (hWn.belowS hb).alloc _, hb'.alloc hb'.size _⟩
              · obtain ⟨fc, fi, em⟩ : ∃ fc fi, catchesFault d = (fc, fi) := ⟨_, _, rfl⟩
                rw [em] at hm0
                have hfc : (fc == 0) = false := by simpa using hm0
                have hfc2 : (fc != 0) = true := by simpa using hm0
                rw [unpackC_not hup em hfc] at e4
                injection e4 with e4 e5
                injection e5 with e5 e6
                subst e4
                subst e5
                subst e6
                have HM := Lib.hid em
                clear hm0 hup hde em
                go_wp2_with fail
                refine (catchesFault_at Av cv d fc fi _ (by omega) hrv HM).mono ?_
                rintro e w9 ⟨rfl, hb⟩
                have hb' := below_then hbn hb hbn.size
                have hb'' := hb'.alloc hb'.size (.cells #[.int .i64 fc, .int .i64 fi] 24)
                have hW3 := (hWn.belowS hb).alloc (.cells #[.int .i64 fc, .int .i64 fi] 24)
                have hF3 := (hFn.belowS hb).alloc (.cells #[.int .i64 fc, .int .i64 fi] 24)
                go_wp2_with fail
                refine (at_any fc (-1) _).mono ?_
                rintro e w10 ⟨rfl, hb10⟩
                have hb10' := below_then hb'' hb10 hb''.size
                have hW4 := hW3.belowS hb10
                have hF4 := hF3.belowS hb10
                obtain ⟨t1, t2, t3⟩ := hW4.rules
                go_wp2_with fail
                go_meet
                exact ⟨none, 0, rfl, .inl rfl, .inl rfl, (hF4.far hne' _).far hne' _, (hW4.set_ 0 _).set_ 1 _, (hb10'.setCell hs2' _).setCell hs2' _⟩
      case rest =>
        obtain ⟨A17, c17, rfl, hr17, hr15, hFc, hWc, hbw⟩ := hcut
        have hx : catchesFault m = (0, 0) ∧ (x' = 0 → packCGo 0 m = b) ∧ m.length ≤ 10000000 := unpackC_facts HY.out hl hC.out
        have HX := Lib.hid hx.1
        have HXP := Lib.hid hx.2.1
        have hmm := hx.2.2
        clear hx hF hW HG HR9 hb9 HC4
        obtain ⟨t1, t2, t3⟩ := hWc.rules
        obtain ⟨f1, f2, f3⟩ := hFc.rules
        go_wp2_with fail
        refine (eqCatches_any A15 A17 c15 c17 m m _ (by omega) (by omega) hr15 hr17).mono ?_
        rintro e w9 ⟨rfl, hb9⟩
        have hd : decide (m = m) = true := by simp
        rw [hd]
        have hF3 := hFc.belowS hb9
        have hr3 := hr15.keepB hb9
        have hb9' := below_then hbw hb9 hbw.size
        clear hd t1 t2 t3 f1 f2 f3 hWc hFc hr17 hr15 hb9 hbw
        go_wp2_with fail
        refine (packCatches_ok A15 c15 m _ hr3 HX).mono ?_
        rintro e w10 ⟨Ac, cc, rfl, hrc, hb10⟩
        have hb10' := below_then hb9' hb10 hb9'.size
        have hb10'' := hb10'.alloc hb10'.size (.cells #[.int .i64 0, .int .i64 0] 24)
        have hF4 := (hF3.belowS hb10).alloc (.cells #[.int .i64 0, .int .i64 0] 24)
        have hrc' := hrc.keepB ((Below.refl _ _).alloc (Nat.le_refl _) (.cells #[.int .i64 0, .int .i64 0] 24))
        obtain ⟨f1, f2, f3⟩ := hF4.rules
        obtain ⟨g1, g2, g3⟩ := (Blk.new w10 24 #[.int .i64 0, .int .i64 0]).rules
        clear hF3 hr3 hrc hb9' hb10 hb10'
        by_cases hx0 : x' = 0
        · subst hx0
          have hpl := (packC_bd HX.out).2
          go_wp2_with fail
          refine (eqBytes_any A Ac c cc b (packCGo 0 m) _ (by omega) (by omega) (HA.out.keepB hb10'') hrc').mono ?_
          rintro e w11 ⟨rfl, hb11⟩
          have hd : decide (b = packCGo 0 m) = true := by rw [HXP.out (by first | trivial | rfl)]; simp
          rw [hd]
          clear hd
          go_wp2_with fail
          go_ret
          exact ⟨rfl, below_then hb10'' hb11 hb10''.size⟩
        · have hxb : (x' != 0) = true := by simpa using hx0
          go_wp2_with fail
          go_ret
          exact ⟨rfl, hb10''⟩

end Go.Proofs.Ytionmlkefheocaa
