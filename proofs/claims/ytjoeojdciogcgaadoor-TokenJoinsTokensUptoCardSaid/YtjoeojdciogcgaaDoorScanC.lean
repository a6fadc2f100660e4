/- The scanner's functions add and next: what they do. Nothing is claimed here. -/
import Derived.Deep.DeepMust
import Derived.Test.YtjoeojdciogcgaaDoorScanB
import Derived.Test.YtjoeojdciogcgaaDoorQTail
namespace Go.Proofs.YtjoeojdciogcgaaDoor
open Go.RowKit Go.Shelf Go.Lib Go.Maps Go.Sort
attribute [local go_sem] steady

theorem Row.new (w : World) (cs : Array Value) (t : TypeId) : Row (w.alloc (.cells cs t)) (some ⟨w.heap.size, 0, none⟩) cs.toList := by
  refine .inr ⟨w.heap.size, 0, rfl, by simp, fun j u hu => ?_⟩
  rw [Nat.zero_add, (Blk.new w t cs).cell j]
  simpa using hu

theorem below_iter (w : World) (s : ByteArray) (pos : Nat) : Below w.heap.size w (w.iter s pos) := by
  unfold World.iter
  exact (Below.refl _ _).alloc (Nat.le_refl _) _

theorem rcount_any (t : List UInt8) (w : World) (ht : t.length ≤ 16000) : Calls Tryd.prog 65 #[.string ⟨t.toArray⟩] w fun e w' => e = .returned (.int .i64 ((runeCountL t : Nat) : Int)) ∧ Below w.heap.size w w' := by
  refine (Tryd.utf8_RuneCountInString ⟨t.toArray⟩ w (by simp [ByteArray.size]; omega)).mono ?_
  rintro e w' ⟨rfl, pos, rfl⟩
  exact ⟨rfl, below_iter w _ _⟩

set_option maxRecDepth 100000 in
set_option maxHeartbeats 2000000 in
/-- next goes to the next line -/
theorem next_any {a w : World} {B g : Nat} {l : List UInt8} {at_ : Nat} {ind : List Nat} {op : List UInt8} {ts : List Tok} {vi vo vt : Value} {m : Nat} {vs : Value} (h : Sc w B g l at_ ind op ts vi vo vt m vs) (hl : l.length ≤ 16000) (ha : at_ < l.length) (hc : at0 l at_ = 10) (hb : Below B a w) :
    Calls Tryd.prog 39 #[.pointer (some ⟨g, 0, none⟩)] w fun e w' => e = .returned (.tuple #[]) ∧ Sc w' B g l (at_ + 1) ind op ts vi vo vt m vs ∧ Below B a w' := by
  have e1 := line_nl l at_ ha hc
  have e2 := bol_nl l at_ ha hc
  have hb1 := line_bound l at_
  have HE1 := Lib.hid e1
  have HE2 := Lib.hid e2
  obtain ⟨L, hL⟩ : ∃ L, lineAt l at_ = L := ⟨_, rfl⟩
  obtain ⟨bb, hbb⟩ : ∃ bb, bol l at_ = bb := ⟨_, rfl⟩
  have HL := Lib.hid hL
  have HBB := Lib.hid hbb
  unfold Sc scCells at h
  rw [hL, hbb] at h
  rw [hL] at hb1
  clear e1 e2 hL hbb hc
  obtain ⟨q1, q2, q3⟩ := h.blk.rules
  go_enter Tryd.func39, Tryd.ntmps39
  go_wp2
  go_end0
  refine ⟨rfl, ?_, ((hb.setCell (p := ⟨g, 1, none⟩) h.ge _).setCell (p := ⟨g, 2, none⟩) h.ge _).setCell (p := ⟨g, 3, none⟩) h.ge _⟩
  unfold Sc scCells
  rw [HE1.out, HE2.out, HL.out]
  exact ((h.set 1 (.int .i64 ((at_ : Int) + 1))).set 2 (.int .i64 (L + 1))).set 3 (.int .i64 ((at_ : Int) + 1))

theorem Blk.grows {w : World} {g t : Nat} {cs : Array Value} (h : Blk w g t cs) : ∀ (d : Nat) (os : Array Obj) (i : Nat), (grow (redrawn w d) os).cell? ⟨g, i, none⟩ = cs[i]? := fun d os i => (h.belowS (below_regrown w d os)).cell i

def AddPost (a : World) (B g : Nat) (l : List UInt8) (at_ : Nat) (ind : List Nat) (op : List UInt8) (ts : List Tok) (vi vo : Value) (m : Nat) (vs : Value) (e : Ending) (w' : World) : Prop :=
  ∃ vt', e = .returned (.tuple #[]) ∧ Sc w' B g l at_ ind op ts vi vo vt' m vs ∧ Below B a w'
set_option maxRecDepth 100000 in
set_option maxHeartbeats 4000000 in
/-- add appends a token -/
theorem add_any {a w : World} {B g : Nat} {l : List UInt8} {at_ : Nat} {ind : List Nat} {op : List UInt8} {ts : List Tok} {vi vo vt : Value} {m : Nat} {vs : Value} (h : Sc w B g l at_ ind op ts vi vo vt m vs) (hl : l.length ≤ 16000) (hts : ts.length ≤ 1000000) (hb : Below B a w)
    (k : Int) (t : List UInt8) (i : Nat) (hi : i ≤ l.length) (h1 : lineAt l at_ = lineAt l i) (h2 : bol l at_ = bol l i) :
    Calls Tryd.prog 38 #[.pointer (some ⟨g, 0, none⟩), .int .i64 k, .string ⟨t.toArray⟩, .int .i64 (i : Int)] w (AddPost a B g l at_ ind op (ts ++ [tokAt l k t i]) vi vo m vs) := by
  obtain ⟨i0, hi0, hz0, hz1, hz2⟩ := info_parts info_tok
  have hcb := col_bound l i
  have hln := line_text l i hi
  have hble := bol_le l i
  have hcol : colAt l i = ((runeCountL (tailNl (l.take i)) : Nat) : Int) + 1 := rfl
  obtain ⟨L, hL⟩ : ∃ L, lineAt l i = L := ⟨_, rfl⟩
  obtain ⟨bb, hbb⟩ : ∃ bb, bol l i = bb := ⟨_, rfl⟩
  obtain ⟨rc, hrc⟩ : ∃ rc, runeCountL (tailNl (l.take i)) = rc := ⟨_, rfl⟩
  rw [hrc] at hcol
  rw [hcol] at hcb
  have HT := Lib.hid (show tokc (tokAt l k t i) = [.int .i64 k, .string ⟨t.toArray⟩, .int .i64 L, .int .i64 ((rc : Int) + 1)] by unfold tokAt tokc; rw [hcol, hL])
  have HH := Lib.hid h
  unfold Sc scCells at h
  rw [h1, h2, hL, hbb] at h
  rw [hbb] at hln hble
  have hsb := run_sub l bb i hble hi (bb : Int) (i : Int) rfl rfl
  rw [hln] at hsb
  have hrcc : ∀ W : World, Calls Tryd.prog 65 #[.string ⟨(tailNl (l.take i)).toArray⟩] W fun e w' => e = .returned (.int .i64 (rc : Int)) ∧ Below W.heap.size W w' := fun W => by
    have := rcount_any (tailNl (l.take i)) W (by rw [← hln, List.length_take, List.length_drop]; omega)
    rwa [hrc] at this
  have HRC := Lib.hid hrcc
  generalize tailNl (l.take i) = tl at *
  have e1 : IntKind.i64.wrap ((rc : Int) + 1) = (rc : Int) + 1 := IntWalk.i64_in _ (by omega)
  have hlen : ((ts ++ [tokAt l k t i]).flatMap tokc) = ts.flatMap tokc ++ [.int .i64 k, .string ⟨t.toArray⟩, .int .i64 L, .int .i64 ((rc : Int) + 1)] := by rw [List.flatMap_append, List.flatMap_singleton, HT.out]
  have HLEN := Lib.hid hlen
  have HH1 := Lib.hid h1
  have HH2 := Lib.hid h2
  have HLL := Lib.hid hL
  have HBB := Lib.hid hbb
  have HX := Lib.hid h
  have hlt := h.blk.lt
  clear hln hcol hrc hL hbb h1 h2 hrcc hlen hcb hble
  obtain ⟨q1, q2, q3⟩ := h.blk.rules
  clear h
  have m1 : ts.length + 1 ≤ maxLen := by unfold maxLen; omega
  have m2 : (ts.length + 1) * 40 ≤ 140737488355328 := by omega
  go_enter Tryd.func38, Tryd.ntmps38
  go_wp2_with fail
  have G : ∀ (p : Held fun w' => Blk w' g 45 #[.string ⟨l.toArray⟩, .int .i64 (at_ : Int), .int .i64 L, .int .i64 (bb : Int), vi, vo, vt, .map (some m), vs]) (i : Nat), p.w.cell? ⟨g, i, none⟩ = #[.string ⟨l.toArray⟩, .int .i64 (at_ : Int), .int .i64 L, .int .i64 (bb : Int), vi, vo, vt, .map (some m), vs][i]? := fun p i => p.h.cell i
  refine wp_region_steady_tail 21 26 (by kernel_rfl) (by kernel_rfl) (fun w' => ∃ p : Held fun w' => Blk w' g 45 #[.string ⟨l.toArray⟩, .int .i64 (at_ : Int), .int .i64 L, .int .i64 (bb : Int), vi, vo, vt, .map (some m), vs], w' = p.w) (isHeld_mk HX.out.blk.drew) (fun c a d v w h => by cases d <;> exact h) ?_
  simp only [List.take_succ_cons, List.take_zero, List.drop_succ_cons, List.drop_zero]
  repeat (refine wpSteady_step (fun K hK => ?_)
          go_simp
          first
            | (refine ⟨_, fun _ => rfl, hK _ ?_⟩; clear hK K)
            | (refine hK _ ?_; clear hK K))
  refine wpSteady_nil ?_
  refine tailM_one ?_
  go_wp2_with fail
  refine (HRC.out _).mono ?_
  rintro e w1 ⟨rfl, hb1⟩
  have hR1 := (HX.out.drewN 1).belowS hb1
  have hb2 : RowKit.Below B a w1 := below_then hb.drew hb1 (Nat.le_trans HX.out.ge (Nat.le_of_lt hlt))
  have hs1 := hR1.blk.lt
  have hge := hR1.ge
  clear hb1 q1 q2 q3
  go_wp2_with fail
  refine thenC_mk (isHeld_mk hR1.blk) ?_
  refine tailM_one ?_
  go_wp2_with fail
  refine thenC_mk (isHeld_mk hR1.blk) ?_
  refine tailM_one ?_
  go_wp2_with fail
  refine thenC_mk (isHeld_mk hR1.blk) ?_
  refine tailM_one ?_
  go_wp2_with fail
  refine thenC_mk (isHeld_mk (hR1.alloc _).blk) ?_
  refine tailM_one ?_
  go_wp2_with (at_builtin
               refine wpList_append_row _ rfl (.tmp 12) (.tmp 32) 23 rfl B 32 i0 (.agg #[.int .i64 0, .string ByteArray.empty, .int .i64 0, .int .i64 0]) 4 40 Tryd.underlying23 hi0 hz0 hz1 hz2 rfl (by decide) vt ts.length (ts.flatMap tokc) rfl (hR1.ot.alloc _) (some ⟨w1.heap.size, 0, none⟩) 1 1 [.int .i64 k, .string ⟨t.toArray⟩, .int .i64 L, .int .i64 ((rc : Int) + 1)] rfl rfl (Row.new w1 #[.int .i64 k, .string ⟨t.toArray⟩, .int .i64 L, .int .i64 ((rc : Int) + 1)] 32) (by simp [Value.oneCell']) m1 m2 (by simp; omega) ?_
               intro v3 w3 hown3 hg3 hat3
               have hR3 := (hR1.alloc (.cells #[.int .i64 k, .string ⟨t.toArray⟩, .int .i64 L, .int .i64 ((rc : Int) + 1)] 32)).growT hg3 (ts' := ts ++ [tokAt l k t i]) (by rw [HLEN.out]; simpa using hown3)
               obtain ⟨A3, c3, rfl, _, _⟩ := own_form hown3)
  refine thenC_mk (isHeld_mk hR3.blk) ?_
  refine tailM_zero ?_
  have hb3 := (hb2.alloc (by omega) (.cells #[.int .i64 k, .string ⟨t.toArray⟩, .int .i64 L, .int .i64 ((rc : Int) + 1)] 32)).grown hg3 (by simp; omega) (fun g' e => (HX.out.ot.lt g' e).1)
  clear hg3 hown3 hat3 G
  obtain ⟨q1, q2, q3⟩ := hR3.blk.rules
  go_wp2_with fail
  go_end0
  refine ⟨.slice A3 (ts.length + 1) c3, rfl, ?_, hb3.setCell (p := ⟨g, 6, none⟩) hge _⟩
  unfold Sc scCells
  rw [HH1.out, HH2.out, HLL.out, HBB.out]
  have hlen3 : (ts ++ [tokAt l k t i]).length = ts.length + 1 := by simp
  exact hR3.set 6 _

end Go.Proofs.YtjoeojdciogcgaaDoor
