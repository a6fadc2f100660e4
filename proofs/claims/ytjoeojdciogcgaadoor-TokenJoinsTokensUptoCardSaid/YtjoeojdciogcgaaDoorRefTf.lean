/- The reference's Tokens: the tokens of a source, or its fault: the faults of the text. Nothing is claimed here. -/
import Derived.Test.YtjoeojdciogcgaaDoorRefY
import Derived.Test.YtjoeojdciogcgaaDoorRefBr
import Derived.Test.YtjoeojdciogcgaaDoorTokH
import Derived.Test.YtjoeojdciogcgaaDoorRefU
namespace Go.Proofs.YtjoeojdciogcgaaDoor
open Go.RowKit Go.Shelf Go.Lib Go.Maps
set_option linter.unusedVariables false

/-- the result's block r, the rows of the indentations and of the tokens -/
structure TkR (w : World) (B r : Nat) (ind : List Nat) (ts : List Tok) (vi vt : Value) : Prop where
  blk : Blk w r 25 #[.int .i64 0, .int .i64 0]
  ge : B ≤ r
  oi : w.ownsRow B 3 1 vi ind.length (intc ind.reverse)
  ot : w.ownsRow B 32 4 vt ts.length (ts.flatMap tokc)
section
variable {w w' : World} {B r : Nat} {ind : List Nat} {ts : List Tok} {vi vt : Value}
theorem TkR.belowS (h : TkR w B r ind ts vi vt) (hb : Below w.heap.size w w') : TkR w' B r ind ts vi vt := ⟨h.blk.belowS hb, h.ge, own_belowS h.oi hb, own_belowS h.ot hb⟩
theorem TkR.drewN (h : TkR w B r ind ts vi vt) (n : Nat) : TkR (w.drewN n) B r ind ts vi vt := h.belowS (below_drewN (Below.refl _ _) n)
theorem TkR.alloc (h : TkR w B r ind ts vi vt) (o : Obj) : TkR (w.alloc o) B r ind ts vi vt := h.belowS ((Below.refl _ _).alloc (Nat.le_refl _) _)
theorem TkR.growT (h : TkR w B r ind ts vi vt) {vt' : Value} {ts' : List Tok} (hg : w.grownBy w' vt.ownBlock) (ho : w'.ownsRow B 32 4 vt' ts'.length (ts'.flatMap tokc)) : TkR w' B r ind ts' vi vt' :=
  ⟨h.blk.grown hg (fun e => own_blk_ne h.ot h.blk (by decide) e.symm), h.ge, h.oi.kept hg (rows_ne h.oi h.ot (by decide)), ho⟩
theorem TkR.growI (h : TkR w B r ind ts vi vt) {vi' : Value} {ind' : List Nat} (hg : w.grownBy w' vi.ownBlock) (ho : w'.ownsRow B 3 1 vi' ind'.length (intc ind'.reverse)) : TkR w' B r ind' ts vi' vt :=
  ⟨h.blk.grown hg (fun e => own_blk_ne h.oi h.blk (by decide) e.symm), h.ge, ho, h.ot.kept hg (rows_ne h.ot h.oi (by decide))⟩
/-- the last indentation is taken away -/
theorem TkR.popI {c : Nat} (h : TkR w B r (c :: ind) ts vi vt) : ∃ gg cap, vi = .slice (some ⟨gg, 0, none⟩) (ind.length + 1) cap ∧ TkR w B r ind ts (.slice (some ⟨gg, 0, none⟩) ind.length cap) vt ∧ ind.length + 1 ≤ cap ∧ cap ≤ maxLen ∧ w.cell? ⟨gg, ind.length, none⟩ = some (.int .i64 (c : Int)) := by
  have h2 := h.oi
  rw [intc_rev] at h2
  obtain ⟨gg, cap, rfl, h3, h4, h5⟩ := own_pop (n := ind.length) (by rw [intc_len]; simp) h2
  refine ⟨gg, cap, rfl, ⟨h.blk, h.ge, h3, h.ot⟩, h4, h5, ?_⟩
  obtain ⟨b0, o0, e0, hb0, hc0⟩ := (Row.of_own h.oi).at_ (k := ind.length) (by rw [intc_rev, List.length_append, intc_len]; simp)
  injection e0 with e0
  injection e0 with e1 e2 e3
  subst e1 e2
  have hcc := hc0 ind.length (.int .i64 (c : Int)) (by rw [intc_rev, List.getElem?_append_right (by rw [intc_len]; simp), intc_len]; simp)
  rwa [Nat.zero_add] at hcc
end

/-- added's token lies in the row -/
def AtPost (a : World) (r : Nat) (ind : List Nat) (ts : List Tok) (vi : Value) (e : Ending) (w' : World) : Prop :=
  ∃ v', e = .returned v' ∧ TkR w' a.heap.size r ind ts vi v' ∧ Below a.heap.size a w'
/-- .. and the other blocks are as they were -/
def AtPostK (a w : World) (r : Nat) (ind : List Nat) (ts : List Tok) (vi : Value) (e : Ending) (w' : World) : Prop :=
  ∃ v', e = .returned v' ∧ TkR w' a.heap.size r ind ts vi v' ∧ Below a.heap.size a w' ∧ ∀ g t cs, t ≠ 32 → Blk w g t cs → Blk w' g t cs
theorem addT_any {cs : List (List UInt8)} (h : ∀ c ∈ cs, Chr c) {l : List UInt8} (hcl : cs.flatten = l) (hl : l.length ≤ 16000) {a w : World} {r : Nat} {ind : List Nat} {ts : List Tok} {vi vt : Value} (hR : TkR w a.heap.size r ind ts vi vt) (hb : Below a.heap.size a w) (hT : Tabs a)
    (hts : ts.length ≤ 1000000) {i : Nat} (hi : Beg cs i) (k : Int) (e : Nat) (he : i ≤ e) (hel : e ≤ l.length) (x : Int) (hx : x = (e : Int)) :
    Calls Tryd.prog 31 #[vt, .string ⟨l.toArray⟩, .int .i64 k, .int .i64 (i : Int), .int .i64 x] w (AtPostK a w r ind (ts ++ [tokAt l k ((l.drop i).take (e - i)) i]) vi) := by
  subst hx
  obtain ⟨j, hj, hij⟩ := hi
  refine (added_any cs h j hj l hcl i hij w hl (hT.keepB hb) a.heap.size vt ts hR.ot hb.size hts k e he hel).mono ?_
  rintro _ w' ⟨v', rfl, hown, w1, hb1, hg⟩
  exact ⟨v', rfl, (hR.belowS hb1).growT hg hown, (below_then hb hb1 hb.size).grown hg (Nat.le_trans hb.size hb1.size) (fun g e => ((hR.belowS hb1).ot.lt g e).1), fun g t cs ht hB => (hB.belowS hb1).grown hg (fun e => own_blk_ne (hR.belowS hb1).ot (hB.belowS hb1) (fun e => ht e.symm) e.symm)⟩
theorem addE_any {cs : List (List UInt8)} (h : ∀ c ∈ cs, Chr c) {l : List UInt8} (hcl : cs.flatten = l) (hl : l.length ≤ 16000) {a w : World} {r : Nat} {ind : List Nat} {ts : List Tok} {vi vt : Value} (hR : TkR w a.heap.size r ind ts vi vt) (hb : Below a.heap.size a w) (hT : Tabs a)
    (hts : ts.length ≤ 1000000) {i : Nat} (hi : Beg cs i) (k : Int) (hel : i ≤ l.length) :
    Calls Tryd.prog 31 #[vt, .string ⟨l.toArray⟩, .int .i64 k, .int .i64 (i : Int), .int .i64 (i : Int)] w (AtPost a r ind (ts ++ [tokAt l k [] i]) vi) := by
  have h := addT_any h hcl hl hR hb hT hts hi k i (Nat.le_refl _) hel (i : Int) rfl
  rw [show (l.drop i).take (i - i) = [] by rw [Nat.sub_self]; rfl] at h
  exact h.mono fun _ _ ⟨v, h1, h2, h3, _⟩ => ⟨v, h1, h2, h3⟩

/-- what holds between the rounds -/
def TRel (a : World) (r : Nat) (cs : List (List UInt8)) (l : List UInt8) (R : Except (Int × Int) (List Tok)) (vt vi vo vs vb vx : Value) (wr : World) : Prop :=
  ∃ (s : Scn) (f : Nat), TkR wr a.heap.size r s.ind s.toks vi vt ∧ Below a.heap.size a wr ∧ SInv l s ∧ Beg cs s.at_ ∧ OpOk s.op ∧ vo = opStr s.op ∧ vs = .bool (!s.fresh) ∧ vb = .int .i64 ((bol l s.at_ : Nat) : Int) ∧ vx = .int .i64 ((s.at_ : Nat) : Int) ∧ l.length < f + s.at_ ∧ scanF l f s = R
/-- what holds while dedents are added at the end -/
def CRelT (a : World) (r : Nat) (l : List UInt8) (i x : Nat) (ind0 : List Nat) (T : List Tok) (vi vt v : Value) (w' : World) : Prop :=
  ∃ (k : Nat), k ≤ ind0.length ∧ v = .int .i64 ((k : Int) + 1) ∧ TkR w' a.heap.size r (x :: ind0) (T ++ List.replicate k (tokAt l 3 [] i)) vi vt ∧ Below a.heap.size a w'
/-- what holds while indentations are closed -/
def IRelT (a : World) (r : Nat) (l : List UInt8) (i W : Nat) (T : List Tok) (D : List Nat × Nat) (vt vi : Value) (w' : World) : Prop :=
  ∃ (indc : List Nat) (j : Nat), TkR w' a.heap.size r indc (T ++ List.replicate j (tokAt l 3 [] i)) vi vt ∧ Below a.heap.size a w' ∧ W ∈ indc ∧ (∀ y ∈ indc, y ≤ 100000) ∧ indc.length + j ≤ 100000 ∧ D = ((dedent W indc).1, (dedent W indc).2 + j)
theorem take_contains (xs : List Nat) (k y W : Nat) (h : xs[k]? = some y) : (xs.take (k + 1)).contains W = ((xs.take k).contains W || (y == W)) := by
  rw [Bool.eq_iff_iff, List.take_add_one, h]
  simp only [List.contains_iff_mem, List.mem_append, Option.toList_some, List.mem_singleton, Bool.or_eq_true, beq_iff_eq]
  exact ⟨fun e => e.imp_right Eq.symm, fun e => e.imp_right Eq.symm⟩
def lenW : Value → Nat
  | .slice _ n _ => n
  | _ => 0
theorem beg_stepL {cs : List (List UInt8)} (h : ∀ c ∈ cs, Chr c) {l : List UInt8} (hcl : cs.flatten = l) {s s' : Scn} (hi : Beg cs s.at_) (hs : stepS l s = .more s') : Beg cs s'.at_ := by
  subst hcl
  exact beg_step h hi hs
theorem ScPost.errT {w w' : World} {R : Except (Int × Int) (List Tok)} {c i j : Int} (hR : R = .error (c, i)) (hj : j = i) (hb : Below w.heap.size w w') : ScPost w R (.returned (.tuple #[.slice none 0 0, .agg #[.int .i64 c, .int .i64 j]])) w' := by
  subst hR hj
  exact ⟨hb, rfl⟩
theorem ScPost.okT {w w' : World} {R : Except (Int × Int) (List Tok)} {ts : List Tok} {v : Value} (hR : R = .ok ts) (hb : Below w.heap.size w w') (ho : w'.ownsRow w.heap.size 32 4 v ts.length (ts.flatMap tokc)) : ScPost w R (.returned (.tuple #[v, .agg #[.int .i64 0, .int .i64 0]])) w' := by
  subst hR
  exact ⟨hb, v, rfl, ho⟩

end Go.Proofs.YtjoeojdciogcgaaDoor

namespace Go.Proofs.YtjoeojdciogcgaaDoor
open Go.RowKit Go.Shelf Go.Lib Go.Maps
set_option linter.unusedVariables false

set_option maxRecDepth 100000 in
set_option maxHeartbeats 4000000 in
theorem tokens_flt (l : List UInt8) (w : World) (hl : l.length ≤ 9223372036854775807) (hT : Tabs w) (c i : Int) (hs : sfault l = (c, i)) (hc : c ≠ 0) :
    Calls Tryd.prog 14 #[.string ⟨l.toArray⟩] w (ScPost w (.error (c, i))) := by
  have hb0 := (Below.refl w.heap.size w).alloc (Nat.le_refl _) (.cells #[.int .i64 0, .int .i64 0] 25)
  have hP := Blk.new w 25 #[.int .i64 0, .int .i64 0]
  have hT1 := hT.keepB hb0
  have HZ := Lib.hid hs
  have hcb : (c != 0) = true := by simpa using hc
  clear hs hc hT
  go_enter Tryd.func14, Tryd.ntmps14
  go_wp2_with fail
  refine (sourceFault_any l _ hl hT1).mono ?_
  rintro e w1 ⟨rfl, hb1⟩
  rw [HZ.out]
  have hP1 := hP.belowS hb1
  have hb := below_then hb0 hb1 (by simp)
  clear hP hb0 hb1 hT1
  obtain ⟨q1, q2, q3⟩ := hP1.rules
  unfold flt
  go_wp2_with fail
  go_region
  all_goals go_wp2_with fail
  have hbs := (hb.setCell (p := ⟨w.heap.size, 0, none⟩) (Nat.le_refl _) (.int .i64 c)).setCell (p := ⟨w.heap.size, 1, none⟩) (Nat.le_refl _) (.int .i64 i)
  all_goals exact ret_tmp_blk rfl rfl ((((hP1.set_ 0 (.int .i64 c)).set_ 1 (.int .i64 i)).alloc _).drew) _ Tryd.underlying25 rfl (by kernel_rfl) rfl _ rfl (ScPost.errT rfl rfl ((hbs.alloc hbs.size _).drew))

end Go.Proofs.YtjoeojdciogcgaaDoor
