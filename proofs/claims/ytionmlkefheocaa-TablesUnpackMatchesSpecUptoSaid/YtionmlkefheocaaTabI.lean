/- Walks: tables of lines are unpacked. Nothing is claimed here. -/
import Derived.Test.YtionmlkefheocaaTabH
namespace Go.Proofs.Ytionmlkefheocaa
open Go.RowKit
set_option linter.unusedVariables false

def upGo : Nat → Nat → Int → Int → List Int → Option Nat × List Mark
  | 0, _, _, _, _ => (none, [])
  | f + 1, p, a, ln, b =>
    if b.isEmpty then (none, [])
    else if (num b).2.1 && (num (b.drop (num b).2.2)).2.1 then
      ((upGo f (p + (num b).2.2 + (num (b.drop (num b).2.2)).2.2) (a + (num b).1) (ln + unfoldI (num (b.drop (num b).2.2)).1) (b.drop ((num b).2.2 + (num (b.drop (num b).2.2)).2.2))).1,
       (a + (num b).1, ln + unfoldI (num (b.drop (num b).2.2)).1) :: (upGo f (p + (num b).2.2 + (num (b.drop (num b).2.2)).2.2) (a + (num b).1) (ln + unfoldI (num (b.drop (num b).2.2)).1) (b.drop ((num b).2.2 + (num (b.drop (num b).2.2)).2.2))).2)
    else (some p, [])

theorem numGo_bd : ∀ (l : List Int) (j : Nat) (n : Int), (∀ x ∈ l, 0 ≤ x ∧ x ≤ 255) → 0 ≤ n → n < 128 ^ j → j ≤ 3 →
    0 ≤ (numGo j n l).1 ∧ (numGo j n l).1 < 2097152 ∧ j ≤ (numGo j n l).2.2 ∧ (numGo j n l).2.2 ≤ j + l.length ∧ (numGo j n l).2.2 ≤ 3 ∧ (j < 3 → l ≠ [] → j + 1 ≤ (numGo j n l).2.2)
  | [], j, n, _, _, _, hj => by simp [numGo_nil]; omega
  | c :: r, j, n, hb, h0, h1, hj => by
    have hc := hb c (by simp)
    by_cases h3 : j = 3
    · subst h3; rw [numGo_three]; simp
    · have hj' : j = 0 ∨ j = 1 ∨ j = 2 := by omega
      by_cases hl : c < 128
      · rw [numGo_low (by omega) hl]
        rcases hj' with rfl | rfl | rfl <;> simp only [Int.reducePow, Int.pow_zero] at h1 ⊢ <;> simp <;> omega
      · rw [numGo_high (by omega) (by omega)]
        have ih := numGo_bd r (j + 1) (n + c % 128 * 128 ^ j) (fun x hx => hb x (by simp [hx])) (by rcases hj' with rfl | rfl | rfl <;> simp only [Int.reducePow, Int.pow_zero] <;> omega)
          (by rcases hj' with rfl | rfl | rfl <;> simp only [Int.reducePow, Int.pow_zero, Nat.reduceAdd] at h1 ⊢ <;> omega) (by omega)
        obtain ⟨i1, i2, i3, i4, i5, _⟩ := ih
        refine ⟨i1, i2, by omega, by simp; omega, i5, fun _ _ => i3⟩

theorem num_bd {l : List Int} (hb : ∀ x ∈ l, 0 ≤ x ∧ x ≤ 255) : 0 ≤ (num l).1 ∧ (num l).1 < 2097152 ∧ (num l).2.2 ≤ l.length ∧ (num l).2.2 ≤ 3 ∧ (l ≠ [] → 1 ≤ (num l).2.2) := by
  have h := numGo_bd l 0 0 hb (by omega) (by simp) (by omega)
  obtain ⟨h1, h2, h3, h4, h5, h6⟩ := h
  exact ⟨h1, h2, by rw [Nat.zero_add] at h4; exact h4, h5, fun hn => h6 (by omega) hn⟩
theorem unfold_bd {n : Int} (h0 : 0 ≤ n) (h1 : n < 2097152) : -1048576 ≤ unfoldI n ∧ unfoldI n ≤ 1048576 := by unfold unfoldI; split <;> omega

/-- what is unpacked of some bytes -/
def unpackL (b : List Int) : List Mark × (Int × Int) :=
  match upGo (b.length + 1) 0 0 0 b with
  | (some p, _) => ([], (16, (p : Int)))
  | (none, l) => if marksFault l = (0, 0) then (l, (0, 0)) else ([], ((marksFault l).1, -1))

def UnpackPost (r : List Mark × (Int × Int)) (w : World) (e : Ending) (w' : World) : Prop :=
  ∃ A c, e = .returned (.tuple #[.slice A r.1.length c, .agg #[.int .i64 r.2.1, .int .i64 r.2.2]]) ∧ Row w' A (r.1.flatMap mkc) ∧ Below w.heap.size w w'

def UnRel (b : List Int) (x : Value) (w : World) (v a s : Value) (wr : World) : Prop :=
  ∃ (f p : Nat) (at_ ln : Int) (d : List Mark), p ≤ b.length ∧ b.length < f + p ∧ a = .int .i64 at_ ∧ s = .int .i64 ln ∧ d.length ≤ p ∧ 0 ≤ at_ ∧ at_ ≤ 2097152 * d.length ∧ -(1048576 * d.length) ≤ ln ∧ ln ≤ 1048576 * d.length ∧
    upGo (b.length + 1) 0 0 0 b = ((upGo f p at_ ln (b.drop p)).1, d ++ (upGo f p at_ ln (b.drop p)).2) ∧ Blk wr w.heap.size 24 #[.int .i64 0, .int .i64 0] ∧
    Blk wr (w.heap.size + 1) 71 #[x, .int .i64 p] ∧ wr.ownsRow (w.heap.size + 2) 38 2 v d.length (d.flatMap mkc) ∧ Below w.heap.size w wr

theorem Row.new (w : World) (cs : Array Value) (t : TypeId) : Row (w.alloc (.cells cs t)) (some ⟨w.heap.size, 0, none⟩) cs.toList := by
  refine .inr ⟨w.heap.size, 0, rfl, by simp, fun j u hu => ?_⟩
  rw [(Blk.new w t cs).cell]
  simpa using hu

theorem Row.block_lt {w : World} {A : Option Addr} {xs : List Value} (h : Row w A xs) {k : Nat} (hk : k < xs.length) : ∀ a, A = some a → a.block < w.heap.size := by
  obtain ⟨b, off, e, hlt, _⟩ := h.at_ hk
  intro a ha
  rw [e] at ha
  injection ha with ha
  subst ha
  exact hlt

theorem info_mark : (Try.prog.info? 38).map (fun i => (i.zero, i.size, i.bytes)) = some (some (.agg #[.int .i64 0, .int .i64 0]), 2, 16) := by kernel_rfl

theorem number_at (g : Nat) (A : Option Addr) (c p q : Nat) (b : List Int) (v : Int) (ok : Bool) (k : Nat) (w : World) (hl : b.length ≤ 9223372036854775807) (hp : p ≤ b.length) (hby : ∀ x ∈ b, 0 ≤ x ∧ x ≤ 255)
    (hB : Blk w g 71 #[.slice A b.length c, .int .i64 p]) (hA : Row w A (bcs b)) (hAg : ∀ a, A = some a → a.block ≠ g) (h : Hid (num (b.drop p) = (v, ok, k))) (hq : Hid (q = p + k)) :
    Calls Try.prog 36 #[.pointer (some ⟨g, 0, none⟩)] w fun e w' => e = .returned (.tuple #[.int .i64 v, .bool ok]) ∧ Blk w' g 71 #[.slice A b.length c, .int .i64 q] ∧ w.grownBy w' (some g) := by
  have hc := number_any g A c p b w hl hp hby hB hA hAg
  rw [h.out] at hc
  have := hq.out
  subst this
  exact hc

theorem upGo_end (f p : Nat) (a ln : Int) : upGo f p a ln [] = (none, []) := by cases f <;> rfl
theorem upGo_step {f p q r : Nat} {a ln v1 v2 : Int} {ok1 ok2 : Bool} {k1 k2 : Nat} {b : List Int} (hp : p < b.length) (hf : b.length < f + p) (h1 : num (b.drop p) = (v1, ok1, k1)) (hq : q = p + k1) (h2 : num (b.drop q) = (v2, ok2, k2)) (hr : r = q + k2) :
    upGo f p a ln (b.drop p) = if ok1 && ok2 then ((upGo (f - 1) r (a + v1) (ln + unfoldI v2) (b.drop r)).1, (a + v1, ln + unfoldI v2) :: (upGo (f - 1) r (a + v1) (ln + unfoldI v2) (b.drop r)).2) else (some p, []) := by
  obtain ⟨g, rfl⟩ : ∃ g, f = g + 1 := ⟨f - 1, by omega⟩
  subst hq
  subst hr
  have e0 : (b.drop p).isEmpty = false := by
    rw [drop_cons hp]; rfl
  rw [upGo, e0]
  simp only [h1, h2, List.drop_drop, Nat.add_sub_cancel, Bool.false_eq_true, if_false, Nat.add_assoc]

def posOf (v : World) (g : Nat) : Nat := match v.cell? ⟨g, 1, none⟩ with | some (.int _ n) => n.toNat | _ => 0


theorem posOf_blk {w : World} {g : Nat} {t : TypeId} {x : Value} {n : Nat} (h : Blk w g t #[x, .int .i64 n]) : posOf w g = n := by
  unfold posOf
  rw [h.cell]
  simp

theorem unpackL_bad {b : List Int} {p : Nat} {l : List Mark} (h : upGo (b.length + 1) 0 0 0 b = (some p, l)) : unpackL b = ([], (16, (p : Int))) := by
  unfold unpackL; rw [h]
theorem unpackL_ok {b : List Int} {l : List Mark} (h : upGo (b.length + 1) 0 0 0 b = (none, l)) (hm : marksFault l = (0, 0)) : unpackL b = (l, (0, 0)) := by
  unfold unpackL; rw [h]; simp [hm]
theorem unpackL_not {b : List Int} {l : List Mark} {fc fi : Int} (h : upGo (b.length + 1) 0 0 0 b = (none, l)) (hm : marksFault l = (fc, fi)) (hfc : (fc == 0) = false) : unpackL b = ([], (fc, -1)) := by
  unfold unpackL; rw [h]
  have : ¬ fc = 0 := by simpa using hfc
  simp [hm, this]

set_option maxHeartbeats 2000000 in
theorem unpackLines_any (A : Option Addr) (c : Nat) (b : List Int) (w : World) (hl : b.length ≤ 10000000) (hby : ∀ x ∈ b, 0 ≤ x ∧ x ≤ 255) (hA : Row w A (bcs b)) :
    Calls Try.prog 14 #[.slice A b.length c] w (UnpackPost (unpackL b) w) := by
  have HA := Lib.hid hA
  have HY := Lib.hid hby
  clear hA hby
  obtain ⟨i0, hi, hz0, hz1, hz2⟩ := info_parts info_mark
  go_enter Try.func14, Try.ntmps14
  go_wp2_with fail
  go_loopw [5, 6, 7] (fun v a s wr => UnRel b (.slice A b.length c) w v a s wr) (fun _ _ _ wr => b.length - posOf wr (w.heap.size + 1))
  case atStart =>
    refine ⟨b.length + 1, 0, 0, 0, [], by omega, by omega, rfl, rfl, by simp, by simp, by simp, by simp, by simp, rfl, ?_, ?_, World.ownsRow_nil _ _ _ _, ?_⟩
    · exact (Blk.new _ _ _).alloc _
    · have := Blk.new (w.alloc (.cells #[.int .i64 0, .int .i64 0] 24)) 71 #[.slice A b.length c, .int .i64 0]
      simpa using this
    · exact ((Below.refl _ _).alloc (Nat.le_refl _) _).alloc (by simp) _
  case round =>
    obtain ⟨f, p, at_, ln, d, hp, hf, rfl, rfl, hd, a0, a1, l0, l1, he, hB, hR, hown, hb0⟩ := hrel
    have He := Lib.hid he
    clear he
    obtain ⟨q1, q2, q3⟩ := hB.rules
    obtain ⟨r1, r2, r3⟩ := hR.rules
    have hrow := HA.out.keepB hb0
    by_cases hlt : p < b.length
    · have HW := Lib.hid (HA.out.block_lt (k := p) (by simpa [bcs] using hlt))
      have hn1 := num_bd (l := b.drop p) (fun x hx => HY.out x (List.mem_of_mem_drop hx))
      obtain ⟨v1, ok1, k1, e1⟩ : ∃ v1 ok1 k1, num (b.drop p) = (v1, ok1, k1) := ⟨_, _, _, rfl⟩
      rw [e1] at hn1
      obtain ⟨x0, x1, x2, x3, x4⟩ := hn1
      simp only [List.length_drop] at x0 x1 x2 x3 x4
      have x5 : 1 ≤ k1 := x4 (fun e => by have := congrArg List.length e; simp at this; omega)
      obtain ⟨q, hq⟩ : ∃ q, q = p + k1 := ⟨_, rfl⟩
      have hqb : q ≤ b.length := by omega
      have hn2 := num_bd (l := b.drop q) (fun x hx => HY.out x (List.mem_of_mem_drop hx))
      obtain ⟨v2, ok2, k2, e2⟩ : ∃ v2 ok2 k2, num (b.drop q) = (v2, ok2, k2) := ⟨_, _, _, rfl⟩
      rw [e2] at hn2
      obtain ⟨y0, y1, y2, y3, y4⟩ := hn2
      simp only [List.length_drop] at y0 y1 y2 y3
      obtain ⟨r, hr⟩ : ∃ r, r = q + k2 := ⟨_, rfl⟩
      have Hstep := Lib.hid (upGo_step (a := at_) (ln := ln) hlt hf e1 hq e2 hr)
      have hrb : r ≤ b.length := by omega
      have hpr : p < r := by omega
      have E1 := Lib.hid e1
      have E2 := Lib.hid e2
      have HQ := Lib.hid hq
      have HR := Lib.hid hr
      clear e1 e2 hq hr x4 y4
      have hne : ∀ g, g ≤ w.heap.size + 1 → some g ≠ u5.ownBlock := fun g hg e => by have := hown.lt _ e.symm; omega
      have HN := Lib.hid hne
      clear hne
      have ub := unfold_bd y0 y1
      have Hpos := Lib.hid (posOf_blk hR)
      go_wp2_with fail
      refine (number_at (w.heap.size + 1) A c p q b v1 ok1 k1 _ (by omega) hp HY.out hR hrow (fun a ha => by have := HW.out a ha; omega) E1 HQ).mono ?_
      rintro e w1 ⟨rfl, hR1, hg1⟩
      have hb1 : Below w.heap.size w w1 := hb0.grown hg1 hb0.size (fun g e => by injection e with e; omega)
      have hown1 := hown.kept hg1 (.inr (fun e => HN.out _ (Nat.le_refl _) e.symm))
      have hB1 := hB.grown hg1 (fun e => by injection e with e; omega)
      have hrow1 := HA.out.keepB hb1
      clear hR hrow hb0 hown hB q1 q2 q3 r1 r2 r3 hg1
      go_wp2_with fail
      refine (number_at (w.heap.size + 1) A c q r b v2 ok2 k2 _ (by omega) hqb HY.out hR1 hrow1 (fun a ha => by have := HW.out a ha; omega) E2 HR).mono ?_
      rintro e w2 ⟨rfl, hR2, hg2⟩
      have hb2 : Below w.heap.size w w2 := hb1.grown hg2 hb1.size (fun g e => by injection e with e; omega)
      have hown2 := hown1.kept hg2 (.inr (fun e => HN.out _ (Nat.le_refl _) e.symm))
      have hB2 := hB1.grown hg2 (fun e => by injection e with e; omega)
      obtain ⟨q1, q2, q3⟩ := hB2.rules
      have hz2' := hR2.lt
      clear hR1 hrow1 hb1 hown1 hB1 hg2
      cases ok1
      · go_wp2_with (go_at_call 28; refine (fault_any _ _ _).mono ?_; rintro e w3 ⟨rfl, hb3⟩; have hB3 := hB2.belowS hb3; obtain ⟨t1, t2, t3⟩ := hB3.rules)
        refine ret_tmp_blk Try.results14 rfl ((hB3.set_ 0 _).set_ 1 _) _ Try.underlying24 rfl (by kernel_rfl) rfl _ rfl ?_
        rw [unpackL_bad (p := p) (l := d) (by rw [He.out, Hstep.out]; simp)]
        exact ⟨none, 0, rfl, .inl rfl, ((below_then hb2 hb3 hb2.size).setCell (Nat.le_refl _) _).setCell (Nat.le_refl _) _⟩
      · cases ok2
        · go_wp2_with (go_at_call 28; refine (fault_any _ _ _).mono ?_; rintro e w3 ⟨rfl, hb3⟩; have hB3 := hB2.belowS hb3; obtain ⟨t1, t2, t3⟩ := hB3.rules)
          refine ret_tmp_blk Try.results14 rfl ((hB3.set_ 0 _).set_ 1 _) _ Try.underlying24 rfl (by kernel_rfl) rfl _ rfl ?_
          rw [unpackL_bad (p := p) (l := d) (by rw [He.out, Hstep.out]; simp)]
          exact ⟨none, 0, rfl, .inl rfl, ((below_then hb2 hb3 hb2.size).setCell (Nat.le_refl _) _).setCell (Nat.le_refl _) _⟩
        · go_wp2_with (first | (go_at_call 37; refine (unfold_any _ _ y0 (by omega)).mono ?_; rintro e w' ⟨rfl, rfl⟩) | (at_builtin; refine wpList_append_row _ rfl (.tmp 53) (.tmp 57) 22 rfl (w.heap.size + 2) 38 i0 (.agg #[.int .i64 0, .int .i64 0]) 2 16 Try.underlying22 hi hz0 hz1 hz2 rfl (by decide) u5 d.length (d.flatMap mkc) rfl (hown2.alloc _) _ 1 1 [_, _] rfl rfl (Row.new _ _ _) (by simp [Value.oneCell']) (by unfold maxLen; omega) (by omega) (by simp; omega) ?_; intro v3 w3 hown3 hg3 hat3))
          have hR3 := (hR2.alloc _).grown hg3 (HN.out _ (Nat.le_refl _))
          have hB3 := (hB2.alloc _).grown hg3 (HN.out _ (by omega))
          have hb3 := (hb2.alloc hb2.size _).grown hg3 (by simp; omega) (fun g e => by have := hown2.lt g e; omega)
          go_roundw
          case rel =>
            refine ⟨f - 1, r, at_ + v1, ln + unfoldI v2, d ++ [(at_ + v1, ln + unfoldI v2)], hrb, by omega, rfl, rfl, by simp; omega, by omega, by simp; omega, by simp; omega, by simp; omega, ?_, hB3, hR3, ?_, hb3⟩
            · rw [He.out, Hstep.out]; simp
            · simpa [mkc] using hown3
          case measure => rw [posOf_blk hR3, Hpos.out]; omega
    · obtain ⟨Av, cv, rfl, hrv, hcv⟩ := own_form hown
      have hup : upGo (b.length + 1) 0 0 0 b = (none, d) := by rw [He.out, List.drop_of_length_le (by omega), upGo_end]; simp
      have HU := Lib.hid hup
      clear hup He
      rcases marksFault_ne d with hmf | hmf
      · have HM := Lib.hid hmf
        clear hmf
        go_wp2_with fail
        refine (check_at Av cv d 0 0 _ (by omega) hrv HM).mono ?_
        rintro e w1 ⟨rfl, hb1⟩
        have hB1 := hB.belowS hb1
        obtain ⟨s1, s2, s3⟩ := hB1.rules
        have ho1 := own_belowS hown hb1
        clear q1 q2 q3 r1 r2 r3 hrow
        go_wp2_with fail
        refine ret_tmp_blk Try.results14 rfl (((hB1.set_ 0 _).set_ 1 _).alloc _) _ Try.underlying24 rfl (by kernel_rfl) rfl _ rfl ?_
        rw [unpackL_ok HU.out HM.out]
        refine ⟨Av, cv, rfl, ?_, Below.alloc (((below_then hb0 hb1 hb0.size).setCell (Nat.le_refl _) _).setCell (Nat.le_refl _) _) (by simp; omega) _⟩
        exact Row.of_own ((ownsRow_setCell_below (ownsRow_setCell_below ho1 (a := ⟨w.heap.size, 0, none⟩) (by simp) _) (a := ⟨w.heap.size, 1, none⟩) (by simp) _).alloc _)
      · obtain ⟨fc, fi, hmm⟩ : ∃ fc fi, marksFault d = (fc, fi) := ⟨_, _, rfl⟩
        have hfc : (fc == 0) = false := by rw [hmm] at hmf; simpa using hmf
        have HM := Lib.hid hmm
        clear hmf hmm
        go_wp2_with fail
        refine (check_at Av cv d fc fi _ (by omega) hrv HM).mono ?_
        rintro e w1 ⟨rfl, hb1⟩
        have hB1 := hB.belowS hb1
        obtain ⟨s1, s2, s3⟩ := hB1.rules
        clear q1 q2 q3 r1 r2 r3 hrow
        go_wp2_with (go_at_call 28; refine (fault_any _ _ _).mono ?_; rintro e w2 ⟨rfl, hb2⟩; have hB2 := (hB1.alloc _).belowS hb2; obtain ⟨t1, t2, t3⟩ := hB2.rules)
        refine ret_tmp_blk Try.results14 rfl ((hB2.set_ 0 _).set_ 1 _) _ Try.underlying24 rfl (by kernel_rfl) rfl _ rfl ?_
        rw [unpackL_not HU.out HM.out hfc]
        exact ⟨none, 0, rfl, .inl rfl, ((below_then (Below.alloc (below_then hb0 hb1 hb0.size) (by omega) _) hb2 (by simp; omega)).setCell (Nat.le_refl _) _).setCell (Nat.le_refl _) _⟩

end Go.Proofs.Ytionmlkefheocaa
