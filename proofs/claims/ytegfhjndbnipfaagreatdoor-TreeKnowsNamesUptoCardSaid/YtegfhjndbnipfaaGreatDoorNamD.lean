/- Names: the program's dotted names, what it computes. Nothing is claimed here. -/
import Derived.RangeFuncKeeps
import Derived.Test.YtegfhjndbnipfaaGreatDoorNamC
namespace Go.Proofs.YtegfhjndbnipfaaGreatDoor
open Go.RowKit Go.Shelf Go.Lib
attribute [local go_sem] Oper.semAt_some

theorem Blk.kept {w W : World} {row : Option Nat} {g t : Nat} {cs : Array Value} (h : Blk w g t cs) (hg : w.grownBy W row) (hr : ∀ r, row = some r → ∃ o : Obj, w.heap[r]? = some o ∧ o.isCells = false) : Blk W g t cs :=
  (grownBy_keeps_cells hg hr h rfl).trans h
theorem keeps_below {W W' : World} (h : Below W.heap.size W W') : KeepsOthers W W' :=
  ⟨h.size, fun k o ho _ => by
    have hlt : k < W.heap.size := (Array.getElem?_eq_some_iff.1 ho).1
    exact (h.block k hlt).trans ho⟩
theorem keptAt_below {B : Nat} {W W' : World} (h : Below W.heap.size W W') (hB : B + 3 ≤ W.heap.size) : KeptAt B W W' :=
  ⟨h.size, fun k _ h2 => h.block k (by omega)⟩

/-- between two parts -/
def DotI (B : Nat) (w : World) (pre : List (List UInt8)) (W : World) : Prop := (Blk W B 4 #[.bool false] ∧ pre.all nameB = true) ∧ Below B w W ∧ B + 4 ≤ W.heap.size
/-- a part is no name -/
def DotX (B : Nat) (w : World) (c : Code) (pre : List (List UInt8)) (W : World) : Prop := (c = .ret ∧ Blk W B 4 #[.bool false] ∧ pre.all nameB = false) ∧ Below B w W
theorem DotI.own (B C : Nat) (w : World) (hC : B ≤ C) : OwnFrom C (DotI B w) := by
  rintro s W W' row ⟨⟨h1, h2⟩, hB, hS⟩ hg hr
  have hr' : ∀ r, row = some r → ∃ o : Obj, W.heap[r]? = some o ∧ o.isCells = false := fun r e => (hr r e).2
  refine ⟨⟨h1.kept hg hr', h2⟩, ?_, Nat.le_trans hS hg.size⟩
  exact hB.grown hg (by have := h1.lt; omega) (fun k e => by have := (hr k e).1; omega)
theorem DotX.own (B C : Nat) (w : World) (c : Code) (hC : B ≤ C) : OwnFrom C (DotX B w c) := by
  rintro s W W' row ⟨⟨rfl, h1, h2⟩, hB⟩ hg hr
  have hr' : ∀ r, row = some r → ∃ o : Obj, W.heap[r]? = some o ∧ o.isCells = false := fun r e => (hr r e).2
  refine ⟨⟨rfl, h1.kept hg hr', h2⟩, ?_⟩
  exact hB.grown hg (by have := h1.lt; omega) (fun k e => by have := (hr k e).1; omega)
theorem DotI.set (B : Nat) (w : World) (s : List (List UInt8)) (W : World) (v : Value) (h : DotI B w s W) : DotI B w s (W.setCell ⟨B + 1, 0, none⟩ v) := by
  obtain ⟨⟨h1, h2⟩, hB, hS⟩ := h
  exact ⟨⟨h1.far (by simp) _, h2⟩, hB.setCell (p := ⟨B + 1, 0, none⟩) (by simp) _, by simpa using hS⟩

theorem dot_world (w : World) (s : ByteArray) : ∃ W : World, W = ((((w.alloc (Obj.cells #[Value.bool false] 4)).alloc (Obj.cells #[Value.string s] 9)).alloc (Obj.cells #[Value.string { data := #[46] }] 9)).alloc (Obj.cells #[Value.int IntKind.i64 0] 3)) ∧
    Blk W w.heap.size 4 #[.bool false] ∧ Blk W (w.heap.size + 1) 9 #[.string s] ∧ Blk W (w.heap.size + 1 + 1) 9 #[.string ⟨#[46]⟩] ∧ Blk W (w.heap.size + 1 + 2) 3 #[.int .i64 0] ∧ W.heap.size = w.heap.size + 4 ∧ Below w.heap.size w W := by
  refine ⟨_, rfl, ?_⟩
  have f : ∀ (W : World) (k : Nat) (t : TypeId) (cs : Array Value), W.heap.size = k → Blk (W.alloc (.cells cs t)) k t cs := fun W k t cs h => by subst h; exact Blk.new W t cs
  refine ⟨(((f w _ _ _ rfl).alloc _).alloc _).alloc _, ((f _ _ _ _ (by simp)).alloc _).alloc _, (f _ _ _ _ (by simp)).alloc _, f _ _ _ _ (by simp), by simp, ?_⟩
  exact ((((Below.refl _ w).alloc (Nat.le_refl _) _).alloc (by simp) _).alloc (by simp; omega) _).alloc (by simp; omega) _

set_option maxRecDepth 100000 in
set_option maxHeartbeats 2000000 in
theorem tdotted_any (s : List UInt8) (hl : s.length ≤ 1048576) (w : World) (he : Env w) :
    Calls Tryz.prog 7 #[.string ⟨s.toArray⟩] w fun e w' => e = .returned (.bool (dottedB s)) ∧ Below w.heap.size w w' := by
  have HE := Lib.hid (show dottedB s = ((splitB 46 s).all nameB && decide (s.length ≤ 60)) from rfl)
  obtain ⟨rr, hrr⟩ : ∃ r, dottedB s = r := ⟨_, rfl⟩
  rw [hrr] at HE ⊢
  clear hrr
  refine (callsIn_wide (n := 3)).1 ?_
  refine callsIn_of_wp_marks Tryz.func7 rfl trivial ?_ rfl
  simp only [Tryz.ntmps7, List.size_toArray, List.length_cons, List.length_nil, Nat.reduceAdd, Nat.reduceSub, Array.replicate_succ, Array.replicate_zero, List.push_toArray, List.append_toArray, List.nil_append, List.cons_append]
  gi_wp2_with fail
  refine ⟨trivial, ?_⟩
  refine (callsIn_wide.2 (splitSeq_any _ _ _)).mono ?_
  rintro e w1 ⟨rfl, rfl⟩
  gi_wp2
  obtain ⟨WL, hWL, k1, k2, k3, k4, hsz, hB0⟩ := dot_world w ⟨s.toArray⟩
  rw [← hWL]
  clear hWL
  refine wp_range_w (F := Fence.wide) (n := 3) rfl (by omega) (gf := 45) (lb := #[.pointer (some ⟨w.heap.size + 1 + 1, 0, none⟩), .pointer (some ⟨w.heap.size + 1, 0, none⟩), .pointer (some ⟨w.heap.size + 1 + 2, 0, none⟩)]) rfl trivial
    (enters_of Tryz.func45 (by kernel_rfl) rfl) (splitSeq1_in (3 - 1) 46 s (by omega) (w.heap.size + 1) WL k2 k3 k4) (by omega) (fun _ => rfl)
    (DotI w.heap.size w) (DotX w.heap.size w) (DotI.own _ _ _ (by omega)) (fun c => DotX.own _ _ _ c (by omega)) (DotI.set w.heap.size w)
    ⟨⟨k1, rfl⟩, hB0, by omega⟩
    (fun x => { tmps := #[.string ⟨s.toArray⟩, undef, .pointer (some ⟨w.heap.size, 0, none⟩), .string ⟨x.toArray⟩, .string ⟨s.toArray⟩, .func (.func 45) #[] #[.pointer (some ⟨w.heap.size + 1 + 1, 0, none⟩), .pointer (some ⟨w.heap.size + 1, 0, none⟩), .pointer (some ⟨w.heap.size + 1 + 2, 0, none⟩)],
      .string ⟨x.toArray⟩, undef, undef, undef, undef, undef, undef], defers := [] }) ?assign ?body ?done ?stop
  case assign =>
    intro ll x W K hK
    gi_wp2
    exact hK
  case body =>
    rintro ll pre x W ⟨⟨h1, h2⟩, hB, hS⟩ hsp
    clear k1 k2 k3 k4
    have hxl : x.length ≤ s.length := by
      obtain ⟨t, ht⟩ := hsp
      exact splitB_le 46 s x (by rw [← ht]; simp)
    have heW := he.keepB hB
    gi_wp2_with fail
    refine ⟨by first | trivial | omega, ?_⟩
    refine (CallsIn.inRound ll (callsIn_wide.2 (tname_any x W (by omega) heW))).mono ?_
    rintro e W2 ⟨rfl, hb2⟩
    have hP2 := h1.belowS hb2
    have hB2 := below_then hB hb2 hB.size
    have hsz2 := hb2.size
    obtain ⟨a1, a2, a3⟩ := hP2.rules
    cases hn : nameB x
    · have HX : Hid ((pre ++ [x]).all nameB = false) := Lib.hid (by rw [List.all_append, List.all_cons, hn]; simp)
      gi_wp2
      exact ⟨(keeps_below hb2).trans (KeepsOthers.setCell _ _ _), ⟨rfl, hP2.set_ 0 (.bool false), HX.out⟩, hB2.setCell (p := ⟨w.heap.size, 0, none⟩) (Nat.le_refl _) _⟩
    · have HX : Hid ((pre ++ [x]).all nameB = true) := Lib.hid (by rw [List.all_append, List.all_cons, hn, h2]; rfl)
      gi_wp2
      exact ⟨keeps_below hb2, keptAt_below hb2 (by omega), ⟨hP2, HX.out⟩, hB2, by omega⟩
  case done =>
    rintro D ys W hD rfl ⟨⟨h1, h2⟩, hB, hS⟩ hK
    clear k1 k2 k3 k4
    have HA := Lib.hid h2
    clear h2
    obtain ⟨a1, a2, a3⟩ := h1.rules
    obtain ⟨d, hd⟩ : ∃ d, decide ((s.length : Int) ≤ 60) = d := ⟨_, rfl⟩
    have HD := Lib.hid hd
    gi_wp2
    have KO := KeepsOthers.setCell W ⟨w.heap.size, 0, none⟩ (.bool d)
    have hK' := KO.same D _ hK rfl
    have m1 := h1.set_ 0 (.bool d)
    have mB := hB.setCell (p := ⟨w.heap.size, 0, none⟩) (Nat.le_refl _) (.bool d)
    have hr : ∀ r, some D = some r → ∃ o : Obj, (W.setCell ⟨w.heap.size, 0, none⟩ (.bool d)).heap[r]? = some o ∧ o.isCells = false := fun r e => by cases e; exact ⟨_, hK', rfl⟩
    have n1 := (m1.kept (grownBy_putObj' _ D (.deferred none)) hr).cell 0
    refine ⟨by simp, .inl ⟨_, _, rfl, run_takeDeferred hK', ?_⟩⟩
    refine ⟨.bool d, by simp [results, Tryz.f7, go_sem, n1], ?_, mB.trans (belowK_b (w := w) (Nat.le_refl _) _ D _ _ (by omega) hK' rfl rfl)⟩
    rw [HE.out, HA.out, Bool.true_and, ← HD.out]
    congr 2
    rw [decide_eq_decide]
    omega
  case stop =>
    rintro D c pre W hD hpre ⟨⟨rfl, h1, h2⟩, hB⟩ hK
    clear k1 k2 k3 k4
    have HA := Lib.hid h2
    clear h2
    gi_wp2
    have hr : ∀ r, some D = some r → ∃ o : Obj, W.heap[r]? = some o ∧ o.isCells = false := fun r e => by cases e; exact ⟨_, hK, rfl⟩
    have n1 := (h1.kept (grownBy_putObj' _ D (.deferred none)) hr).cell 0
    refine ⟨by simp, .inl ⟨_, _, rfl, run_takeDeferred hK, ?_⟩⟩
    refine ⟨.bool false, by simp [results, Tryz.f7, go_sem, n1], ?_, hB.trans (belowK_b (w := w) (Nat.le_refl _) _ D _ _ (by omega) hK rfl rfl)⟩
    have hall : (splitB 46 s).all nameB = false := by
      obtain ⟨t, ht⟩ := hpre
      rw [← ht, List.all_append, HA.out, Bool.false_and]
    rw [HE.out, hall]
    rfl

end Go.Proofs.YtegfhjndbnipfaaGreatDoor
