/- The scanner's state in memory, and its small functions: what they compute. Nothing is claimed here. -/
import Derived.WalkLawsBesides
import Derived.OneCell
import Derived.Maps.OwnSet
import Derived.Maps.OwnOps
import Derived.Test.YtjoeojdciogcgaaDoorTokE
namespace Go.Proofs.YtjoeojdciogcgaaDoor
open Go.RowKit Go.Shelf Go.Lib Go.Maps

theorem law : Keyed Tryd.prog 9 := string_keyed Tryd.underlying9
theorem zeroInt (w : World) : (zeroValue 3).run Tryd.prog w = .ok (.int .i64 0) w := by kernel_rfl
theorem info_int : (Tryd.prog.info? 3).map (fun i => (i.zero, i.size, i.bytes)) = some (some (.int .i64 0), 1, 8) := by kernel_rfl
theorem info_byte : (Tryd.prog.info? 5).map (fun i => (i.zero, i.size, i.bytes)) = some (some (.int .u8 0), 1, 1) := by kernel_rfl
theorem info_tok : (Tryd.prog.info? 32).map (fun i => (i.zero, i.size, i.bytes)) = some (some (.agg #[.int .i64 0, .string ByteArray.empty, .int .i64 0, .int .i64 0]), 4, 40) := by kernel_rfl

def intc (l : List Nat) : List Value := l.map fun (n : Nat) => Value.int .i64 (n : Int)
def bytc (l : List UInt8) : List Value := l.map fun (c : UInt8) => Value.int .u8 (c.toNat : Int)
def tokc (t : Tok) : List Value := [.int .i64 t.kind, .string ⟨t.text.toArray⟩, .int .i64 t.line, .int .i64 t.col]
def strs (l : List (List UInt8)) : List Value := l.map (fun s => Value.string ⟨s.toArray⟩)
/-- the words as a map reads -/
def wordsF : List (List UInt8) → Nat → DataW Unit → DataW Unit
  | [], _, D => D
  | x :: l, k, D => wordsF l (k + 1) (D.put (.string x) (.lit (.int .i64 (k : Int))))
def wordsD : DataW Unit := wordsF kws 0 (.map [])

/-- the cells of a scanner -/
def scCells (l : List UInt8) (at_ : Nat) (vi vo vt : Value) (m : Nat) (vs : Value) : Array Value :=
  #[.string ⟨l.toArray⟩, .int .i64 (at_ : Int), .int .i64 (lineAt l at_), .int .i64 ((bol l at_ : Nat) : Int), vi, vo, vt, .map (some m), vs]
/-- a scanner of the call's own: the block g with its cells, its rows, its map -/
structure ScR (w : World) (B g : Nat) (cs : Array Value) (ind : List Nat) (op : List UInt8) (ts : List Tok) (vi vo vt : Value) (m : Nat) (vs : Value) : Prop where
  blk : Blk w g 45 cs
  ge : B ≤ g
  oi : w.ownsRow B 3 1 vi ind.length (intc ind.reverse)
  oo : w.ownsRow B 5 1 vo op.length (bytc op.reverse)
  ot : w.ownsRow B 32 4 vt ts.length (ts.flatMap tokc)
  om : w.ownsMap Tryd.prog 9 (plainElem Tryd.prog 3) m 38 wordsD
  os : w.ownsRow B 9 1 vs 43 (strs sgs)
/-- the same at an offset of a text -/
def Sc (w : World) (B g : Nat) (l : List UInt8) (at_ : Nat) (ind : List Nat) (op : List UInt8) (ts : List Tok) (vi vo vt : Value) (m : Nat) (vs : Value) : Prop :=
  ScR w B g (scCells l at_ vi vo vt m vs) ind op ts vi vo vt m vs

theorem row_kind {w : World} {B : Nat} {e : TypeId} {size : Nat} {v : Value} {n : Nat} {xs : List Value} (h : w.ownsRow B e size v n xs) : ∀ g, v.ownBlock = some g → ∃ c fz, w.heap[g]? = some (.cells c e fz) := by
  intro g hg
  rcases h.2 with ⟨rfl, _⟩ | ⟨g', cap, cur, rfl, _, hgg, _⟩
  · simp [Value.ownBlock] at hg
  · simp [Value.ownBlock] at hg
    subst hg
    exact ⟨cur, (0, 0), hgg⟩
/-- rows of two kinds lie apart -/
theorem rows_ne {w : World} {B1 B2 : Nat} {e1 e2 : TypeId} {s1 s2 : Nat} {v1 v2 : Value} {n1 n2 : Nat} {xs1 xs2 : List Value} (h1 : w.ownsRow B1 e1 s1 v1 n1 xs1) (h2 : w.ownsRow B2 e2 s2 v2 n2 xs2) (hne : e1 ≠ e2) : v1.ownBlock = none ∨ v1.ownBlock ≠ v2.ownBlock := by
  cases hv : v1.ownBlock with
  | none => exact .inl rfl
  | some g =>
    refine .inr fun e => ?_
    obtain ⟨c, fz, hc⟩ := row_kind h1 g hv
    obtain ⟨c', fz', hc'⟩ := row_kind h2 g e.symm
    rw [hc] at hc'
    injection hc' with hc'
    injection hc' with _ h3
    exact hne h3
theorem map_row_ne {w : World} {B : Nat} {e : TypeId} {s : Nat} {v : Value} {n k m : Nat} {xs : List Value} {kt : TypeId} {R : Value → Option (DataW Unit × List MemPlace)} {D : DataW Unit} (h : w.ownsMap Tryd.prog kt R m k D) (h2 : w.ownsRow B e s v n xs) : some m ≠ v.ownBlock := by
  intro hv
  obtain ⟨es, clock, hb, _⟩ := h
  obtain ⟨c, fz, hc⟩ := row_kind h2 m hv.symm
  rw [hb] at hc
  simp at hc
theorem map_blk_ne {w : World} {g t k m : Nat} {cs : Array Value} {kt : TypeId} {R : Value → Option (DataW Unit × List MemPlace)} {D : DataW Unit} (h : w.ownsMap Tryd.prog kt R m k D) (h2 : Blk w g t cs) : m ≠ g := by
  rintro rfl
  obtain ⟨es, clock, hb, _⟩ := h
  unfold Blk at h2
  rw [hb] at h2
  simp at h2

section
variable {w w' : World} {B g : Nat} {cs : Array Value} {l : List UInt8} {at_ : Nat} {ind : List Nat} {op : List UInt8} {ts : List Tok} {vi vo vt : Value} {m : Nat} {vs : Value}
theorem below_grown (hb : Below w.heap.size w w') : w.grownBy w' none := ⟨hb.os, hb.tape, hb.output, hb.size, fun i hi _ => hb.block i hi⟩
theorem ScR.belowS (h : ScR w B g cs ind op ts vi vo vt m vs) (hb : Below w.heap.size w w') : ScR w' B g cs ind op ts vi vo vt m vs :=
  ⟨h.blk.belowS hb, h.ge, own_belowS h.oi hb, own_belowS h.oo hb, own_belowS h.ot hb, h.om.kept (below_grown hb) (by simp), own_belowS h.os hb⟩
theorem Sc.belowS (h : Sc w B g l at_ ind op ts vi vo vt m vs) (hb : Below w.heap.size w w') : Sc w' B g l at_ ind op ts vi vo vt m vs := ScR.belowS h hb
theorem ScR.drewN (h : ScR w B g cs ind op ts vi vo vt m vs) (n : Nat) : ScR (w.drewN n) B g cs ind op ts vi vo vt m vs := h.belowS (below_drewN (Below.refl _ _) n)
theorem ScR.alloc (h : ScR w B g cs ind op ts vi vo vt m vs) (o : Obj) : ScR (w.alloc o) B g cs ind op ts vi vo vt m vs := h.belowS ((Below.refl _ _).alloc (Nat.le_refl _) _)
/-- a cell of the scanner is written -/
theorem ScR.set (h : ScR w B g cs ind op ts vi vo vt m vs) (i : Nat) (u : Value) : ScR (w.setCell ⟨g, i, none⟩ u) B g (cs.setIfInBounds i u) ind op ts vi vo vt m vs :=
  ⟨h.blk.set_ i u, h.ge, ownsRow_setCell_other h.oi (own_blk_ne h.oi h.blk (by decide)) u, ownsRow_setCell_other h.oo (own_blk_ne h.oo h.blk (by decide)) u, ownsRow_setCell_other h.ot (own_blk_ne h.ot h.blk (by decide)) u,
    h.om.setCell (a := ⟨g, i, none⟩) (map_blk_ne h.om h.blk) u, ownsRow_setCell_other h.os (own_blk_ne h.os h.blk (by decide)) u⟩
/-- the tokens have grown -/
theorem ScR.growT (h : ScR w B g cs ind op ts vi vo vt m vs) {vt' : Value} {ts' : List Tok} (hg : w.grownBy w' vt.ownBlock) (ho : w'.ownsRow B 32 4 vt' ts'.length (ts'.flatMap tokc)) : ScR w' B g cs ind op ts' vi vo vt' m vs :=
  ⟨h.blk.grown hg (fun e => own_blk_ne h.ot h.blk (by decide) e.symm), h.ge, h.oi.kept hg (rows_ne h.oi h.ot (by decide)), h.oo.kept hg (rows_ne h.oo h.ot (by decide)), ho, h.om.kept hg (map_row_ne h.om h.ot), h.os.kept hg (rows_ne h.os h.ot (by decide))⟩
/-- the indentations have grown -/
theorem ScR.growI (h : ScR w B g cs ind op ts vi vo vt m vs) {vi' : Value} {ind' : List Nat} (hg : w.grownBy w' vi.ownBlock) (ho : w'.ownsRow B 3 1 vi' ind'.length (intc ind'.reverse)) : ScR w' B g cs ind' op ts vi' vo vt m vs :=
  ⟨h.blk.grown hg (fun e => own_blk_ne h.oi h.blk (by decide) e.symm), h.ge, ho, h.oo.kept hg (rows_ne h.oo h.oi (by decide)), h.ot.kept hg (rows_ne h.ot h.oi (by decide)), h.om.kept hg (map_row_ne h.om h.oi), h.os.kept hg (rows_ne h.os h.oi (by decide))⟩
/-- the brackets have grown -/
theorem ScR.growO (h : ScR w B g cs ind op ts vi vo vt m vs) {vo' : Value} {op' : List UInt8} (hg : w.grownBy w' vo.ownBlock) (ho : w'.ownsRow B 5 1 vo' op'.length (bytc op'.reverse)) : ScR w' B g cs ind op' ts vi vo' vt m vs :=
  ⟨h.blk.grown hg (fun e => own_blk_ne h.oo h.blk (by decide) e.symm), h.ge, h.oi.kept hg (rows_ne h.oi h.oo (by decide)), ho, h.ot.kept hg (rows_ne h.ot h.oo (by decide)), h.om.kept hg (map_row_ne h.om h.oo), h.os.kept hg (rows_ne h.os h.oo (by decide))⟩
end

/-- what is thrown -/
def probV (c i : Int) : Value := .iface 47 (.agg #[.int .i64 c, .int .i64 i])

end Go.Proofs.YtjoeojdciogcgaaDoor
