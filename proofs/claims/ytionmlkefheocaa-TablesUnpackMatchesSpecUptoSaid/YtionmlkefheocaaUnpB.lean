/- Walks: the reference's groups of numbers. Nothing is claimed here. -/
import Derived.Test.YtionmlkefheocaaUnpA
namespace Go.Proofs.Ytionmlkefheocaa
open Go.RowKit
set_option linter.unusedVariables false

def grGo (b : List Int) (c : Nat) : Nat → Nat → Option Nat × List (List Int)
  | 0, _ => (none, [])
  | f + 1, p => if b.length ≤ p then (none, []) else match rdN b p c with
    | none => (some p, [])
    | some (vs, q) => ((grGo b c f q).1, vs :: (grGo b c f q).2)
theorem grGo_end {b : List Int} {c f p : Nat} (h : b.length ≤ p) : grGo b c f p = (none, []) := by
  cases f with
  | zero => rfl
  | succ f => rw [grGo, if_pos h]
theorem grGo_fail {b : List Int} {c f p : Nat} (hp : p < b.length) (hf : b.length < f + p) (h : rdN b p c = none) : grGo b c f p = (some p, []) := by
  obtain ⟨g, rfl⟩ : ∃ g, f = g + 1 := ⟨f - 1, by omega⟩
  rw [grGo, if_neg (by omega), h]
theorem grGo_step {b : List Int} {c f p q : Nat} {vs : List Int} (hp : p < b.length) (hf : b.length < f + p) (h : rdN b p c = some (vs, q)) : grGo b c f p = ((grGo b c (f - 1) q).1, vs :: (grGo b c (f - 1) q).2) := by
  obtain ⟨g, rfl⟩ : ∃ g, f = g + 1 := ⟨f - 1, by omega⟩
  rw [grGo, if_neg (by omega), h]
  rfl

abbrev Grp := Value × List Int
/-- a slice of slices of numbers, read -/
def Grps (N : Nat) (w : World) (A : Option Addr) (ps : List Grp) : Prop := Row w A (ps.map (·.1)) ∧ (∀ a, A = some a → N ≤ a.block) ∧ ∀ p ∈ ps, ∃ B c, p.1 = .slice B p.2.length c ∧ Row w B (ics p.2) ∧ ∀ a, B = some a → N ≤ a.block
def GrpsOwn (N g : Nat) (v : Value) (ps : List Grp) (w : World) : Prop :=
  w.ownsRow N 39 1 v ps.length (ps.map (·.1)) ∧ ∀ p ∈ ps, w.ownsRow N 3 1 p.1 p.2.length (ics p.2) ∧ ∀ b', p.1.ownBlock = some b' → b' < g

theorem own_grown {w w' : World} {base : Nat} {e : TypeId} {size n : Nat} {v : Value} {xs : List Value} {row : Option Nat} (h : w.ownsRow base e size v n xs) (hg : w.grownBy w' row) (hne : ∀ b, v.ownBlock = some b → some b ≠ row) : w'.ownsRow base e size v n xs := by
  refine ⟨h.1, ?_⟩
  rcases h.2 with h2 | ⟨g, cap, cur, hv, hgb, hh, r⟩
  · exact Or.inl h2
  · exact Or.inr ⟨g, cap, cur, hv, hgb, by rw [hg.block g (Array.getElem?_eq_some_iff.1 hh).1 (hne g (by rw [hv]; rfl))]; exact hh, r⟩
theorem own_own_ne {w : World} {base base' size size' n n' : Nat} {e e' : TypeId} {v v' : Value} {xs xs' : List Value} (h : w.ownsRow base e size v n xs) (h' : w.ownsRow base' e' size' v' n' xs') (hne : e ≠ e') : ∀ b, v.ownBlock = some b → some b ≠ v'.ownBlock := by
  intro b hb hb'
  rcases h.2 with ⟨h2, _⟩ | ⟨g, cap, cur, hv, _, hh, _⟩
  · rw [h2] at hb; cases hb
  · rcases h'.2 with ⟨h2', _⟩ | ⟨g', cap', cur', hv', _, hh', _⟩
    · rw [h2'] at hb'; cases hb'
    · have e1 : g = b := by rw [hv] at hb; injection hb
      have e2 : b = g' := by rw [hv'] at hb'; injection hb'
      subst e1
      subst e2
      rw [hh] at hh'
      injection hh' with hh'
      injection hh' with _ hh' _
      exact hne hh'

/-- the growth of a row that lies beyond -/
theorem grown_own {a b c : World} {r s : Option Nat} (h : a.grownBy b r) (k : b.grownBy c s) (hs : ∀ g, s = some g → a.heap.size ≤ g) : a.grownBy c r :=
  ⟨k.os.trans h.os, k.tape.trans h.tape, k.output.trans h.output, Nat.le_trans h.size k.size, fun i hi hne => (k.block i (Nat.lt_of_lt_of_le hi h.size) (fun e => by have := hs i e.symm; omega)).trans (h.block i hi hne)⟩
theorem GrpsOwn.kept {N g : Nat} {v : Value} {ps : List Grp} {w w' : World} {cs : Array Value} (h : GrpsOwn N g v ps w) (hg : w.grownBy w' (some g)) (hB : Blk w g 3 cs) : GrpsOwn N g v ps w' := by
  refine ⟨own_grown h.1 hg (fun b hb e => own_blk_ne h.1 hB (by decide) (by rw [hb, e])), fun p hp => ⟨own_grown (h.2 p hp).1 hg (fun b hb e => ?_), (h.2 p hp).2⟩⟩
  have := (h.2 p hp).2 b hb
  injection e with e
  omega
theorem GrpsOwn.parts {N g n c : Nat} {A : Option Addr} {ps : List Grp} {w : World} (h : GrpsOwn N g (.slice A n c) ps w) : Grps N w A ps ∧ n = ps.length ∧ n ≤ c := by
  obtain ⟨h1, h2⟩ := h
  obtain ⟨A', c', e, hr, hc⟩ := own_form h1
  injection e with e1 e2 e3
  subst e1
  subst e2
  subst e3
  refine ⟨⟨hr, own_block_ge h1, fun p hp => ?_⟩, rfl, hc⟩
  have h3 := (h2 p hp).1
  obtain ⟨B, c2, e, hr2, _⟩ := own_form h3
  rw [e] at h3
  exact ⟨B, c2, e, hr2, own_block_ge h3⟩

def GrPost (b : List Int) (r : Option Nat × List (List Int)) (w : World) (e : Ending) (w' : World) : Prop :=
  ∃ (A : Option Addr) (cap : Nat) (ps : List Grp) (at_ : Int), e = .returned (.tuple #[.slice A ps.length cap, .int .i64 at_]) ∧ Grps w.heap.size w' A ps ∧ Below w.heap.size w w' ∧ ps.length ≤ b.length ∧
    ((∃ p : Nat, r.1 = some p ∧ at_ = p ∧ ps = []) ∨ (r.1 = none ∧ at_ = -1 ∧ r.2 = ps.map (·.2)))

def GrRel (b : List Int) (c : Nat) (w : World) (v a : Value) (wr : World) : Prop :=
  ∃ (f q g : Nat) (ps : List Grp), a = .pointer (some ⟨g, 0, none⟩) ∧ w.heap.size ≤ g ∧ wr.heap.size = g + 1 ∧ q ≤ b.length ∧ b.length < f + q ∧ ps.length ≤ q ∧
    grGo b c (b.length + 1) 0 = ((grGo b c f q).1, ps.map (·.2) ++ (grGo b c f q).2) ∧ Blk wr g 3 #[.int .i64 q] ∧ GrpsOwn w.heap.size g v ps wr ∧ Below w.heap.size w wr

def GrIn (b : List Int) (c p g : Nat) (w wo : World) (l i : Value) (wr : World) : Prop :=
  ∃ (j q : Nat) (vs : List Int), i = .int .i64 j ∧ j ≤ c ∧ vs.length = j ∧ p ≤ q ∧ (0 < j → p < q) ∧ q ≤ b.length ∧ rdN b p j = some (vs, q) ∧ Blk wr g 3 #[.int .i64 q] ∧ wr.ownsRow wo.heap.size 3 1 l j (ics vs) ∧
    wo.grownBy wr (some g) ∧ Below w.heap.size w wr

def posAt (v : Value) (w : World) : Nat := match v with
  | .pointer (some a) => match w.cell? a with
    | some (.int _ n) => n.toNat
    | _ => 0
  | _ => 0
theorem posAt_blk {w : World} {g : Nat} {t : TypeId} {n : Nat} (h : Blk w g t #[.int .i64 n]) : posAt (.pointer (some ⟨g, 0, none⟩)) w = n := by
  unfold posAt
  simp only [h.cell]
  simp

theorem info_ints : (Try.prog.info? 39).map (fun i => (i.zero, i.size, i.bytes)) = some (some (.slice none 0 0), 1, 24) := by kernel_rfl

set_option maxHeartbeats 2000000 in
theorem groups_any (A : Option Addr) (c cnt : Nat) (b : List Int) (w : World) (hl : b.length ≤ 10000000) (hcn : cnt ≤ 4) (hc1 : 1 ≤ cnt) (hby : ∀ x ∈ b, 0 ≤ x ∧ x ≤ 255) (hA : Row w A (bcs b)) :
    Calls Try.prog 16 #[.slice A b.length c, .int .i64 cnt] w (GrPost b (grGo b cnt (b.length + 1) 0) w) := by
  have HA := Lib.hid hA
  have HY := Lib.hid hby
  clear hA hby
  obtain ⟨i0, hi, hz0, hz1, hz2⟩ := info_parts info_ints
  obtain ⟨j0, hj, hy0, hy1, hy2⟩ := info_parts info_int
  go_enter Try.func16, Try.ntmps16
  go_wp2_with fail
  go_loopw [6, 7] (fun v a wr => GrRel b cnt w v a wr) (fun _ a wr => b.length - posAt a wr)
  case atStart =>
    refine ⟨b.length + 1, 0, w.heap.size, [], rfl, by omega, by simp, by omega, by omega, by simp, by simp, ?_, ⟨World.ownsRow_nil _ _ _ _, by simp⟩, ?_⟩
    · exact Blk.new _ _ _
    · exact (Below.refl _ _).alloc (Nat.le_refl _) _
  case round =>
    obtain ⟨f, p, g, ps, rfl, hgN, hsz, hp, hf, hps, he, hB, hP, hb0⟩ := hrel
    have He := Lib.hid he
    have HP := Lib.hid hP
    have HS := Lib.hid hsz
    clear he hP hsz
    obtain ⟨q1, q2, q3⟩ := hB.rules
    have HM := Lib.hid (posAt_blk hB)
    by_cases hlt : p < b.length
    · have HW := Lib.hid (HA.out.block_lt (k := p) (by simpa [bcs] using hlt))
      obtain ⟨wo, hwo⟩ : ∃ wo : World, wo = wr := ⟨_, rfl⟩
      subst hwo
      have HI := Lib.hid (show GrIn b cnt p g w wo (.slice none 0 0) (.int .i64 0) wo from
        ⟨0, p, [], rfl, by omega, rfl, by omega, by omega, hp, rfl, hB, World.ownsRow_nil _ _ _ _, grownBy_refl _ _, hb0⟩)
      have HB := Lib.hid hB
      go_wp2_with fail
      clear hB q1 q2 hb0
      go_loopw [9, 18] (fun l i wr => GrIn b cnt p g w wo l i wr) (fun _ i _ => cnt - (intOf i).toNat)
      case atStart => exact HI.out
      case round =>
        clear HI
        obtain ⟨j, q, vs, rfl, hj', hvs, hpq, hpq1, hqb, hr, hB, hown, hg, hb0⟩ := hrel
        have HR := Lib.hid hr
        have HG := Lib.hid hg
        clear hr hg
        by_cases hjc : j < cnt
        · have hrow := HA.out.keepB hb0
          have hqd := num_bd (l := b.drop q) (fun x hx => HY.out x (List.mem_of_mem_drop hx))
          obtain ⟨v1, ok1, k1, e1⟩ : ∃ v1 ok1 k1, num (b.drop q) = (v1, ok1, k1) := ⟨_, _, _, rfl⟩
          rw [e1] at hqd
          have E1 := Lib.hid e1
          clear e1
          go_wp2_with fail
          refine (septet_any g A c q b wr (by omega) hqb HY.out hB hrow (fun a ha _ e => by have := HW.out a ha; omega)).mono ?_
          rintro e w1 ⟨n, code, q', rfl, hq'b, hyes, hno, hB1, hg1⟩
          rw [E1.out] at hyes hno
          dsimp only at hyes hno
          have hb1 := hb0.grown hg1 (by have := hb0.size; omega) (fun g' e => by injection e with e; omega)
          have hgg := grownBy_next HG.out hg1 (.inl rfl)
          have hown1 := own_grown hown hg1 (fun b' hb' e => by have := hown.lt b' hb'; injection e with e; omega)
          cases ok1
          · have hne := hno rfl
            have hcode : (code != 0) = true := by simpa using hne
            have Hr := Lib.hid (rdN_none (rdN_fail HR.out E1.out) (cnt - (j + 1)))
            clear hyes hno hne
            go_wp2_with fail
            go_ret2
            have e3 : j + 1 + (cnt - (j + 1)) = cnt := by omega
            have e4 := Hr.out
            rw [e3] at e4
            refine ⟨none, 0, [], p, rfl, ⟨.inl rfl, by simp, by simp⟩, hb1, by simp, .inl ⟨p, ?_, rfl, rfl⟩⟩
            rw [He.out, grGo_fail hlt hf e4]
          · obtain ⟨rfl, rfl, hq'⟩ := hyes rfl
            have Hq' := Lib.hid hq'
            have hk1 : p < q' := by
              have := hq'
              by_cases h0 : 0 < j
              · have := hpq1 h0; omega
              · have : q < b.length := by
                  have h2 := HR.out
                  have : j = 0 := by omega
                  subst this
                  have : p = q := by
                    have h3 : rdN b p 0 = some ([], p) := rfl
                    rw [h3] at h2
                    injection h2 with h2
                    injection h2
                  omega
                have := hqd.2.2.2.2 (by rw [drop_cons this]; exact List.cons_ne_nil _ _)
                omega
            clear hq' hyes hno hB hown hb0 hg1 hrow
            have hs1 := hb1.size
            have hs2 := hgg.size
            go_wp2_with (at_builtin; refine wpList_append_row _ rfl (.tmp 28) (.tmp 30) 39 rfl wo.heap.size 3 j0 (.int .i64 0) 1 8 Try.underlying39 hj hy0 hy1 hy2 rfl (by decide) u9 j (ics vs) rfl (hown1.alloc _) (some ⟨w1.heap.size, 0, none⟩) 1 1 [.int .i64 n] rfl rfl (Row.new _ _ _) (by simp [Value.oneCell']) (by unfold maxLen; omega) (by omega) (by simp; omega) ?_; intro v3 w3 hown3 hg3 hat3)
            go_roundw
            case rel =>
              refine ⟨j + 1, q', vs ++ [n], by go_num, by omega, by simp [hvs], by omega, fun _ => hk1, hq'b, ?_, (hB1.alloc _).grown hg3 (fun e => by have := hown1.lt _ e.symm; omega), by simpa [ics] using hown3, ?_, (hb1.alloc hs1 _).grown hg3 (by simp; omega) (fun g e => by have := hown1.lt g e; omega)⟩
              · rw [Hq'.out]
                exact rdN_step HR.out E1.out
              · exact grown_own (grownBy_next hgg (grownBy_alloc _ _ (some g)) (.inl rfl)) hg3 (fun b' hob => (hown1.lt b' hob).1)
            case measure => simp [intOf]; omega
        · have hje : j = cnt := by omega
          subst hje
          have hp1 := hpq1 (by omega)
          have HP1 := Lib.hid (HP.out.kept HG.out HB.out)
          obtain ⟨A9, c9, rfl, hr9, _⟩ := own_form hown
          have hs2 := HG.out.size
          have hs1 := hb0.size
          go_wp2_with (at_builtin; refine wpList_append_row _ rfl (.tmp 33) (.tmp 35) 43 rfl w.heap.size 39 i0 (.slice none 0 0) 1 24 Try.underlying43 hi hz0 hz1 hz2 rfl (by decide) u6 ps.length (ps.map (·.1)) rfl (HP1.out.1.alloc _) (some ⟨wr.heap.size, 0, none⟩) 1 1 [.slice A9 j c9] rfl rfl (Row.new _ _ _) (by simp [Value.oneCell']) (by unfold maxLen; omega) (by omega) (by simp; omega) ?_; intro v3 w3 hown3 hg3 hat3; have hB3 := (hB.alloc _).grown hg3 (fun e => own_blk_ne HP1.out.1 hB (by decide) e.symm); obtain ⟨t1, t2, t3⟩ := hB3.rules)
          have hb3 := (hb0.alloc hs1 _).grown hg3 (by simp; omega) (fun g e => by have := HP1.out.1.lt g e; omega)
          go_roundw
          case rel =>
            refine ⟨f - 1, q, w3.heap.size, ps ++ [(.slice A9 j c9, vs)], rfl, ?_, by simp, hqb, by omega, by simp; omega, ?_, Blk.new _ _ _, ⟨by simpa using hown3.alloc _, ?_⟩, hb3.alloc hb3.size _⟩
            · exact hb3.size
            · rw [He.out, grGo_step hlt hf HR.out]
              simp
            · intro x hx
              rcases List.mem_append.1 hx with hx | hx
              · obtain ⟨o1, o2⟩ := HP1.out.2 x hx
                refine ⟨(own_grown (o1.alloc _) hg3 (own_own_ne o1 HP1.out.1 (by decide))).alloc _, fun b' hb' => ?_⟩
                have := o2 b' hb'
                omega
              · rw [List.mem_singleton] at hx
                subst hx
                have h0 := own_base (base' := w.heap.size) ((own_grown (hown.alloc _) hg3 (own_own_ne hown HP1.out.1 (by decide))).alloc (.cells #[.int .i64 q] 3)) (by have := HS.out; omega)
                refine ⟨by simpa [hvs] using h0, fun b' hb' => ?_⟩
                have h1 := hown.lt b' hb'
                have h2 := hg3.size
                simp at h2
                omega
          case measure =>
            rw [HM.out, posAt_blk (Blk.new _ _ _)]
            omega
    · obtain ⟨Av, cv, rfl, hrow, hc⟩ := own_form HP.out.1
      go_wp2_with fail
      go_ret2
      refine ⟨Av, cv, ps, -1, rfl, HP.out.parts.1, hb0, by omega, .inr ⟨?_, rfl, ?_⟩⟩
      · rw [He.out, grGo_end (by omega)]
      · rw [He.out, grGo_end (by omega), List.append_nil]

end Go.Proofs.Ytionmlkefheocaa
