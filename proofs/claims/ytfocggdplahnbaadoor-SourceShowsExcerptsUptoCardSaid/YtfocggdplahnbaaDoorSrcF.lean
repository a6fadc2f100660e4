/- source.find: the line of a number, and where it begins. Nothing is claimed here. -/
import Derived.Test.YtfocggdplahnbaaDoorSeqI
namespace Go.Proofs.YtfocggdplahnbaaDoor
open Go.RowKit Go.Shelf Go.Lib
attribute [local go_sem] Oper.semAt_some

/-- how many bytes some lines take, with their line feeds -/
def atOf : List (List UInt8) → Nat
  | [] => 0
  | p :: ps => p.length + 1 + atOf ps
theorem atOf_append (a b : List (List UInt8)) : atOf (a ++ b) = atOf a + atOf b := by
  induction a with
  | nil => simp [atOf]
  | cons p ps ih => simp [atOf, ih]; omega
theorem atOf_splitB (c : UInt8) : ∀ l : List UInt8, atOf (splitB c l) = l.length + 1
  | [] => rfl
  | x :: l => by
    have ih := atOf_splitB c l
    unfold splitB
    split
    · simp [atOf, ih]; omega
    · split
      · rename_i h; exact absurd h (splitB_ne c l)
      · rename_i h
        rw [h] at ih
        simp [atOf] at ih ⊢
        omega
theorem atOf_prefix {a b : List (List UInt8)} (h : a <+: b) : atOf a ≤ atOf b := by
  obtain ⟨t, rfl⟩ := h
  rw [atOf_append]
  omega
theorem len_le_atOf : ∀ a : List (List UInt8), a.length ≤ atOf a
  | [] => Nat.le_refl _
  | p :: ps => by have := len_le_atOf ps; simp [atOf]; omega

/-- a number less another, as the machine has it -/
def dn (line : Int) (k : Nat) : Int := wrap64 (line - k)
theorem dn_step (line : Int) (k : Nat) : wrap64 (dn line k - 1) = dn line (k + 1) := by
  unfold dn wrap64
  omega
theorem dn_zero (line : Int) (k : Nat) (h1 : -9223372036854775808 ≤ line) (h2 : line ≤ 9223372036854775807) (hk : k ≤ 1000000) : dn line k = 0 ↔ line = k := by
  unfold dn wrap64
  omega
theorem dn_self (line : Int) (h1 : -9223372036854775808 ≤ line) (h2 : line ≤ 9223372036854775807) : dn line 0 = line := by
  unfold dn wrap64
  omega

theorem Blk.kept {w W : World} {row : Option Nat} {g t : Nat} {cs : Array Value} (h : Blk w g t cs) (hg : w.grownBy W row) (hr : ∀ r, row = some r → ∃ o : Obj, w.heap[r]? = some o ∧ o.isCells = false) : Blk W g t cs :=
  (grownBy_keeps_cells hg hr h rfl).trans h

/-- between two lines -/
def FindI (B : Nat) (w : World) (line : Int) (pre : List (List UInt8)) (W : World) : Prop :=
  (Blk W B 3 #[.int .i64 (dn line pre.length)] ∧ Blk W (B + 1) 3 #[.int .i64 0] ∧ Blk W (B + 1 + 1) 9 #[.string ⟨#[]⟩] ∧ Blk W (B + 1 + 1 + 1) 4 #[.bool false] ∧ Blk W (B + 1 + 1 + 1 + 1) 3 #[.int .i64 (atOf pre)] ∧
    (∀ k : Nat, k < pre.length → line ≠ k + 1)) ∧ Below B w W
/-- the line was found -/
def FindX (B : Nat) (w : World) (line : Int) (c : Code) (pre : List (List UInt8)) (W : World) : Prop :=
  (c = .ret ∧ ∃ q x, pre = q ++ [x] ∧ line = q.length + 1 ∧ Blk W (B + 1) 3 #[.int .i64 (atOf q)] ∧ Blk W (B + 1 + 1) 9 #[.string ⟨x.toArray⟩] ∧ Blk W (B + 1 + 1 + 1) 4 #[.bool true]) ∧ Below B w W

theorem FindI.own (B C : Nat) (w : World) (line : Int) (hC : B ≤ C) : OwnFrom C (FindI B w line) := by
  rintro s W W' row ⟨⟨h1, h2, h3, h4, h5, h6⟩, hB⟩ hg hr
  have hr' : ∀ r, row = some r → ∃ o : Obj, W.heap[r]? = some o ∧ o.isCells = false := fun r e => (hr r e).2
  refine ⟨⟨h1.kept hg hr', h2.kept hg hr', h3.kept hg hr', h4.kept hg hr', h5.kept hg hr', h6⟩, ?_⟩
  exact hB.grown hg (Nat.le_trans (by have := h1.lt; omega) (Nat.le_refl _)) (fun k e => by have := (hr k e).1; omega)
theorem FindX.own (B C : Nat) (w : World) (line : Int) (c : Code) (hC : B ≤ C) : OwnFrom C (FindX B w line c) := by
  rintro s W W' row ⟨⟨rfl, q, x, h1, h2, h3, h4, h5⟩, hB⟩ hg hr
  have hr' : ∀ r, row = some r → ∃ o : Obj, W.heap[r]? = some o ∧ o.isCells = false := fun r e => (hr r e).2
  refine ⟨⟨rfl, q, x, h1, h2, h3.kept hg hr', h4.kept hg hr', h5.kept hg hr'⟩, ?_⟩
  exact hB.grown hg (Nat.le_trans (by have := h3.lt; omega) (Nat.le_refl _)) (fun k e => by have := (hr k e).1; omega)
theorem FindI.set (B : Nat) (w : World) (line : Int) (s : List (List UInt8)) (W : World) (v : Value) (h : FindI B w line s W) : FindI B w line s (W.setCell ⟨B + 1 + 1 + 1 + 1 + 1, 0, none⟩ v) := by
  obtain ⟨⟨h1, h2, h3, h4, h5, h6⟩, hB⟩ := h
  exact ⟨⟨h1.far (by simp; omega) _, h2.far (by simp) _, h3.far (by simp) _, h4.far (by simp) _, h5.far (by simp) _, h6⟩, hB.setCell (p := ⟨B + 1 + 1 + 1 + 1 + 1, 0, none⟩) (by simp; omega) _⟩

/-- what is found -/
def FindPost (l : List UInt8) (line : Int) (w : World) (e : Ending) (w' : World) : Prop :=
  (∀ (q t : List (List UInt8)) (x : List UInt8), splitB 10 l = q ++ x :: t → line = q.length + 1 → e = .returned (.tuple #[.int .i64 (atOf q), .string ⟨x.toArray⟩, .bool true])) ∧
  (line < 1 ∨ (splitB 10 l).length < line → e = .returned (.tuple #[.int .i64 0, .string ⟨#[]⟩, .bool false])) ∧ Below w.heap.size w w'

theorem find_world (w : World) (line : Int) (s : ByteArray) : ∃ W : World, W = ((((((((w.alloc (Obj.cells #[Value.int IntKind.i64 line] 3)).alloc (Obj.cells #[Value.int IntKind.i64 0] 3)).alloc
      (Obj.cells #[Value.string { data := #[] }] 9)).alloc (Obj.cells #[Value.bool false] 4)).alloc (Obj.cells #[Value.int IntKind.i64 0] 3)).alloc
      (Obj.cells #[Value.string s] 9)).alloc (Obj.cells #[Value.string { data := #[10] }] 9)).alloc (Obj.cells #[Value.int IntKind.i64 0] 3)) ∧
    Blk W w.heap.size 3 #[.int .i64 line] ∧ Blk W (w.heap.size + 1) 3 #[.int .i64 0] ∧ Blk W (w.heap.size + 1 + 1) 9 #[.string ⟨#[]⟩] ∧ Blk W (w.heap.size + 1 + 1 + 1) 4 #[.bool false] ∧
    Blk W (w.heap.size + 1 + 1 + 1 + 1) 3 #[.int .i64 0] ∧ Blk W (w.heap.size + 1 + 1 + 1 + 1 + 1) 9 #[.string s] ∧ Blk W (w.heap.size + 1 + 1 + 1 + 1 + 1 + 1) 9 #[.string ⟨#[10]⟩] ∧
    Blk W (w.heap.size + 1 + 1 + 1 + 1 + 1 + 2) 3 #[.int .i64 0] ∧ W.heap.size = w.heap.size + 8 ∧ Below w.heap.size w W := by
  refine ⟨_, rfl, ?_⟩
  have e1 : (w.alloc (Obj.cells #[Value.int IntKind.i64 line] 3)).heap.size = w.heap.size + 1 := by simp
  have f : ∀ (W : World) (k : Nat) (t : TypeId) (cs : Array Value), W.heap.size = k → Blk (W.alloc (.cells cs t)) k t cs := fun W k t cs h => by subst h; exact Blk.new W t cs
  refine ⟨(((((((f w _ _ _ rfl).alloc _).alloc _).alloc _).alloc _).alloc _).alloc _).alloc _, ((((((f _ _ _ _ (by simp)).alloc _).alloc _).alloc _).alloc _).alloc _).alloc _, (((((f _ _ _ _ (by simp)).alloc _).alloc _).alloc _).alloc _).alloc _,
    ((((f _ _ _ _ (by simp)).alloc _).alloc _).alloc _).alloc _, (((f _ _ _ _ (by simp)).alloc _).alloc _).alloc _, ((f _ _ _ _ (by simp)).alloc _).alloc _, (f _ _ _ _ (by simp)).alloc _, f _ _ _ _ (by simp), by simp, ?_⟩
  exact ((((((((Below.refl _ w).alloc (Nat.le_refl _) _).alloc (by simp) _).alloc (by simp; omega) _).alloc (by simp; omega) _).alloc (by simp; omega) _).alloc (by simp; omega) _).alloc (by simp; omega) _).alloc (by simp; omega) _

set_option maxRecDepth 100000 in
set_option maxHeartbeats 2000000 in
theorem find_any (l : List UInt8) (hl : l.length ≤ 16000) (line : Int) (g1 : -9223372036854775808 ≤ line) (g2 : line ≤ 9223372036854775807) (w : World) :
    Calls Tryd.prog 24 #[.string ⟨l.toArray⟩, .int .i64 line] w (FindPost l line w) := by
  refine (callsIn_wide (n := 3)).1 ?_
  refine callsIn_of_wp_marks Tryd.func24 rfl trivial ?_ rfl
  simp only [Tryd.ntmps24, List.size_toArray, List.length_cons, List.length_nil, Nat.reduceAdd, Nat.reduceSub, Array.replicate_succ, Array.replicate_zero, List.push_toArray, List.append_toArray, List.nil_append, List.cons_append]
  gi_wp2_with fail
  refine ⟨trivial, ?_⟩
  refine (callsIn_wide.2 (splitSeq_any _ _ _)).mono ?_
  rintro e w1 ⟨rfl, rfl⟩
  gi_wp2
  obtain ⟨WL, hWL, k1, k2, k3, k4, k5, k6, k7, k8, hsz, hB0⟩ := find_world w line ⟨l.toArray⟩
  rw [← hWL]
  clear hWL
  refine wp_range_w (F := Fence.wide) (n := 3) rfl (by omega) (gf := 52) (lb := #[.pointer (some ⟨w.heap.size + 1 + 1 + 1 + 1 + 1 + 1, 0, none⟩), .pointer (some ⟨w.heap.size + 1 + 1 + 1 + 1 + 1, 0, none⟩), .pointer (some ⟨w.heap.size + 1 + 1 + 1 + 1 + 1 + 2, 0, none⟩)]) rfl trivial
    (enters_of Tryd.func52 (by kernel_rfl) rfl) (splitSeq1_in (3 - 1) 10 l (by omega) (w.heap.size + 1 + 1 + 1 + 1 + 1) WL k6 k7 k8) (by omega) (fun _ => rfl)
    (FindI w.heap.size w line) (FindX w.heap.size w line) (FindI.own _ _ _ _ (by omega)) (fun c => FindX.own _ _ _ _ c (by omega)) (FindI.set w.heap.size w line)
    ⟨⟨by rw [List.length_nil, dn_self line g1 g2]; exact k1, k2, k3, k4, k5, by simp⟩, hB0⟩
    (fun x => { tmps := #[.string ⟨l.toArray⟩, .int .i64 line, undef, .pointer (some ⟨w.heap.size, 0, none⟩), .pointer (some ⟨w.heap.size + 1, 0, none⟩), .pointer (some ⟨w.heap.size + 1 + 1, 0, none⟩), .pointer (some ⟨w.heap.size + 1 + 1 + 1, 0, none⟩),
      .pointer (some ⟨w.heap.size + 1 + 1 + 1 + 1, 0, none⟩), .string ⟨x.toArray⟩, .string ⟨l.toArray⟩, .func (.func 52) #[] #[.pointer (some ⟨w.heap.size + 1 + 1 + 1 + 1 + 1 + 1, 0, none⟩), .pointer (some ⟨w.heap.size + 1 + 1 + 1 + 1 + 1, 0, none⟩),
      .pointer (some ⟨w.heap.size + 1 + 1 + 1 + 1 + 1 + 2, 0, none⟩)], .string ⟨x.toArray⟩, undef, undef, undef, undef, undef, undef, undef, undef, undef, undef, undef], defers := [] }) ?assign ?body ?done ?stop
  case assign =>
    intro ll x W K hK
    gi_wp2
    exact hK
  case body =>
    rintro ll pre x W ⟨⟨h1, h2, h3, h4, h5, h6⟩, hB⟩ hsp
    clear k1 k2 k3 k4 k5 k6 k7 k8
    have hat := atOf_prefix hsp
    rw [atOf_append, atOf_splitB] at hat
    have hpl := len_le_atOf pre
    simp only [atOf] at hat
    obtain ⟨a1, a2, a3⟩ := h1.rules
    obtain ⟨b1, b2, b3⟩ := h2.rules
    obtain ⟨c1, c2, c3⟩ := h3.rules
    obtain ⟨d1, d2, d3⟩ := h4.rules
    obtain ⟨e1, e2, e3⟩ := h5.rules
    have hz := dn_zero line (pre.length + 1) g1 g2 (by omega)
    have hst := dn_step line pre.length
    have H6 := Lib.hid h6
    clear h6
    by_cases hy : line = pre.length + 1
    · have hd : (wrap64 (dn line pre.length - 1) == 0) = true := by rw [hst, beq_iff_eq, hz]; omega
      have HY := Lib.hid hy
      clear hy hst hz
      gi_wp2
      exact ⟨((((KeepsOthers.setCell _ _ _).trans (KeepsOthers.setCell _ _ _)).trans (KeepsOthers.setCell _ _ _)).trans (KeepsOthers.setCell _ _ _)),
        ⟨rfl, pre, x, rfl, HY.out, (((h2.far (by simp <;> omega) _).set_ 0 _).far (by simp <;> omega) _).far (by simp <;> omega) _, (((h3.far (by simp <;> omega) _).far (by simp <;> omega) _).set_ 0 _).far (by simp <;> omega) _, (((h4.far (by simp <;> omega) _).far (by simp <;> omega) _).far (by simp <;> omega) _).set_ 0 _⟩,
        (((hB.setCell (p := ⟨_, 0, none⟩) (by simp <;> omega) _).setCell (p := ⟨_, 0, none⟩) (by simp <;> omega) _).setCell (p := ⟨_, 0, none⟩) (by simp <;> omega) _).setCell (p := ⟨_, 0, none⟩) (by simp <;> omega) _⟩
    · have hd : (wrap64 (dn line pre.length - 1) == 0) = false := by rw [hst, beq_eq_false_iff_ne, ne_eq, hz]; omega
      have HY := Lib.hid hy
      have HS := Lib.hid hst
      clear hy hst hz
      gi_wp2
      refine ⟨(KeepsOthers.setCell _ _ _).trans (KeepsOthers.setCell _ _ _), (KeptAt.setCell _ _ _ _ (by simp <;> omega)).trans (KeptAt.setCell _ _ _ _ (by simp <;> omega)), ⟨?_, (h2.far (by simp <;> omega) _).far (by simp <;> omega) _, (h3.far (by simp <;> omega) _).far (by simp <;> omega) _, (h4.far (by simp <;> omega) _).far (by simp <;> omega) _, ?_, ?_⟩,
        (hB.setCell (p := ⟨_, 0, none⟩) (by simp <;> omega) _).setCell (p := ⟨_, 0, none⟩) (by simp <;> omega) _⟩
      · rw [List.length_append, List.length_singleton, ← HS.out]
        exact (h1.set_ 0 _).far (by simp <;> omega) _
      · have h := (h5.far (p := ⟨w.heap.size, 0, none⟩) (by simp <;> omega) (.int .i64 (wrap64 (dn line pre.length - 1)))).set_ 0 (.int .i64 (atOf pre + (x.length + 1)))
        rw [atOf_append]
        simp only [atOf, Nat.add_zero, Int.natCast_add, Int.cast_ofNat_Int]
        exact h
      · intro k hk
        rw [List.length_append, List.length_singleton] at hk
        rcases Nat.lt_or_ge k pre.length with h | h
        · exact H6.out k h
        · have : k = pre.length := by omega
          subst this
          exact HY.out
  case done =>
    rintro D ys W hD rfl ⟨⟨h1, h2, h3, h4, h5, h6⟩, hB⟩ hK
    clear k1 k2 k3 k4 k5 k6 k7 k8 h1 h5
    obtain ⟨b1, b2, b3⟩ := h2.rules
    obtain ⟨c1, c2, c3⟩ := h3.rules
    obtain ⟨d1, d2, d3⟩ := h4.rules
    have H6 := Lib.hid h6
    clear h6
    gi_wp2
    have KO := ((KeepsOthers.setCell W ⟨w.heap.size + 1, 0, none⟩ (.int .i64 0)).trans (KeepsOthers.setCell _ ⟨w.heap.size + 1 + 1, 0, none⟩ (.string ⟨#[]⟩))).trans (KeepsOthers.setCell _ ⟨w.heap.size + 1 + 1 + 1, 0, none⟩ (.bool false))
    have hK' := KO.same D _ hK rfl
    have m2 := ((h2.set_ 0 (.int .i64 0)).far (p := ⟨w.heap.size + 1 + 1, 0, none⟩) (by simp <;> omega) (.string ⟨#[]⟩)).far (p := ⟨w.heap.size + 1 + 1 + 1, 0, none⟩) (by simp <;> omega) (.bool false)
    have m3 := ((h3.far (p := ⟨w.heap.size + 1, 0, none⟩) (by simp <;> omega) (.int .i64 0)).set_ 0 (.string ⟨#[]⟩)).far (p := ⟨w.heap.size + 1 + 1 + 1, 0, none⟩) (by simp <;> omega) (.bool false)
    have m4 := ((h4.far (p := ⟨w.heap.size + 1, 0, none⟩) (by simp <;> omega) (.int .i64 0)).far (p := ⟨w.heap.size + 1 + 1, 0, none⟩) (by simp <;> omega) (.string ⟨#[]⟩)).set_ 0 (.bool false)
    have mB := ((hB.setCell (p := ⟨w.heap.size + 1, 0, none⟩) (by simp <;> omega) (.int .i64 0)).setCell (p := ⟨w.heap.size + 1 + 1, 0, none⟩) (by simp <;> omega) (.string ⟨#[]⟩)).setCell (p := ⟨w.heap.size + 1 + 1 + 1, 0, none⟩) (by simp <;> omega) (.bool false)
    have hr : ∀ r, some D = some r → ∃ o : Obj, (((W.setCell ⟨w.heap.size + 1, 0, none⟩ (.int .i64 0)).setCell ⟨w.heap.size + 1 + 1, 0, none⟩ (.string ⟨#[]⟩)).setCell ⟨w.heap.size + 1 + 1 + 1, 0, none⟩ (.bool false)).heap[r]? = some o ∧ o.isCells = false := fun r e => by cases e; exact ⟨_, hK', rfl⟩
    have n2 := (m2.kept (grownBy_putObj' _ D (.deferred none)) hr).cell 0
    have n3 := (m3.kept (grownBy_putObj' _ D (.deferred none)) hr).cell 0
    have n4 := (m4.kept (grownBy_putObj' _ D (.deferred none)) hr).cell 0
    refine ⟨by simp, .inl ⟨_, _, rfl, run_takeDeferred hK', ?_⟩⟩
    refine ⟨.tuple #[.int .i64 0, .string ⟨#[]⟩, .bool false], by simp [results, Tryd.f24, go_sem, n2, n3, n4], ?_, fun _ => rfl, mB.trans (belowK_b (w := w) (Nat.le_refl _) _ D _ _ (by omega) hK' rfl rfl)⟩
    intro q t x hx hq
    refine absurd hq ?_
    have := H6.out q.length (by rw [hx]; simp)
    omega
  case stop =>
    rintro D c pre W hD hpre ⟨⟨rfl, q, x, h1, h2, h3, h4, h5⟩, hB⟩ hK
    clear k1 k2 k3 k4 k5 k6 k7 k8
    have H1 := Lib.hid h1
    have H2 := Lib.hid h2
    clear h1 h2
    gi_wp2
    have hr : ∀ r, some D = some r → ∃ o : Obj, W.heap[r]? = some o ∧ o.isCells = false := fun r e => by cases e; exact ⟨_, hK, rfl⟩
    have n2 := (h3.kept (grownBy_putObj' _ D (.deferred none)) hr).cell 0
    have n3 := (h4.kept (grownBy_putObj' _ D (.deferred none)) hr).cell 0
    have n4 := (h5.kept (grownBy_putObj' _ D (.deferred none)) hr).cell 0
    refine ⟨by simp, .inl ⟨_, _, rfl, run_takeDeferred hK, ?_⟩⟩
    refine ⟨.tuple #[.int .i64 (atOf q), .string ⟨x.toArray⟩, .bool true], by simp [results, Tryd.f24, go_sem, n2, n3, n4], ?_, ?_, hB.trans (belowK_b (w := w) (Nat.le_refl _) _ D _ _ (by omega) hK rfl rfl)⟩
    · intro q' t x' hx hq
      have e2 := H2.out
      obtain ⟨t', ht⟩ := hpre
      rw [H1.out, List.append_assoc, hx] at ht
      obtain ⟨e, e'⟩ := List.append_inj ht (by omega)
      injection e' with e' _
      rw [e, e']
    · intro h
      have e2 := H2.out
      have := hpre.length_le
      rw [H1.out, List.length_append, List.length_singleton] at this
      omega

end Go.Proofs.YtfocggdplahnbaaDoor
