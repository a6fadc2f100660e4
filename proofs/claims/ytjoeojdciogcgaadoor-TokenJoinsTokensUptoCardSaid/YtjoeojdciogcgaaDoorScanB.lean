/- The scanner's small functions: what they compute. Nothing is claimed here. -/
import Derived.WalkLawsBesides
import Derived.OneCell
import Derived.Maps.OwnSet
import Derived.Maps.OwnOps
import Derived.Test.YtjoeojdciogcgaaDoorTokE
namespace Go.Proofs.YtjoeojdciogcgaaDoor
open Go.RowKit Go.Shelf Go.Lib Go.Maps

theorem law : Keyed Tryd.prog 9 := string_keyed Tryd.underlying9
theorem zeroInt (w : World) : (zeroValue 3).run Tryd.prog w = .ok (.int .i64 0) w := by kernel_rfl
theorem info_int : (Tryd.prog.info? 3).map (fun i => (i.zero, i.size, i.bytes)) = some (some (.int .i64 0), 1, 8) := by kernel_rfl
theorem info_byte : (Tryd.prog.info? 5).map (fun i => (i.zero, i.size, i.bytes)) = some (some (.int .u8 0), 1, 1) := by kernel_rfl
theorem info_tok : (Tryd.prog.info? 32).map (fun i => (i.zero, i.size, i.bytes)) = some (some (.agg #[.int .i64 0, .string ByteArray.empty, .int .i64 0, .int .i64 0]), 4, 40) := by kernel_rfl

def intc (l : List Nat) : List Value := l.map fun (n : Nat) => Value.int .i64 (n : Int)
def bytc (l : List UInt8) : List Value := l.map fun (c : UInt8) => Value.int .u8 (c.toNat : Int)
def tokc (t : Tok) : List Value := [.int .i64 t.kind, .string ⟨t.text.toArray⟩, .int .i64 t.line, .int .i64 t.col]
def strs (l : List (List UInt8)) : List Value := l.map (fun s => Value.string ⟨s.toArray⟩)
/-- the words as a map reads -/
def wordsF : List (List UInt8) → Nat → DataW Unit → DataW Unit
  | [], _, D => D
  | x :: l, k, D => wordsF l (k + 1) (D.put (.string x) (.lit (.int .i64 (k : Int))))
def wordsD : DataW Unit := wordsF kws 0 (.map [])

/-- the cells of a scanner -/
def scCells (l : List UInt8) (at_ : Nat) (vi vo vt : Value) (m : Nat) (vs : Value) : Array Value :=
  #[.string ⟨l.toArray⟩, .int .i64 (at_ : Int), .int .i64 (lineAt l at_), .int .i64 ((bol l at_ : Nat) : Int), vi, vo, vt, .map (some m), vs]
/-- a scanner of the call's own: the block g with its cells, its rows, its map -/
structure ScR (w : World) (B g : Nat) (cs : Array Value) (ind : List Nat) (op : List UInt8) (ts : List Tok) (vi vo vt : Value) (m : Nat) (vs : Value) : Prop where
  blk : Blk w g 45 cs
  ge : B ≤ g
  oi : w.ownsRow B 3 1 vi ind.length (intc ind.reverse)
  oo : w.ownsRow B 5 1 vo op.length (bytc op.reverse)
  ot : w.ownsRow B 32 4 vt ts.length (ts.flatMap tokc)
  om : w.ownsMap Tryd.prog 9 (plainElem Tryd.prog 3) m 38 wordsD
  os : w.ownsRow B 9 1 vs 43 (strs sgs)
/-- the same at an offset of a text -/
def Sc (w : World) (B g : Nat) (l : List UInt8) (at_ : Nat) (ind : List Nat) (op : List UInt8) (ts : List Tok) (vi vo vt : Value) (m : Nat) (vs : Value) : Prop :=
  ScR w B g (scCells l at_ vi vo vt m vs) ind op ts vi vo vt m vs

theorem row_kind {w : World} {B : Nat} {e : TypeId} {size : Nat} {v : Value} {n : Nat} {xs : List Value} (h : w.ownsRow B e size v n xs) : ∀ g, v.ownBlock = some g → ∃ c fz, w.heap[g]? = some (.cells c e fz) := by
  intro g hg
  rcases h.2 with ⟨rfl, _⟩ | ⟨g', cap, cur, rfl, _, hgg, _⟩
  · simp [Value.ownBlock] at hg
  · simp [Value.ownBlock] at hg
    subst hg
    exact ⟨cur, (0, 0), hgg⟩
/-- rows of two kinds lie apart -/
theorem rows_ne {w : World} {B1 B2 : Nat} {e1 e2 : TypeId} {s1 s2 : Nat} {v1 v2 : Value} {n1 n2 : Nat} {xs1 xs2 : List Value} (h1 : w.ownsRow B1 e1 s1 v1 n1 xs1) (h2 : w.ownsRow B2 e2 s2 v2 n2 xs2) (hne : e1 ≠ e2) : v1.ownBlock = none ∨ v1.ownBlock ≠ v2.ownBlock := by
  cases hv : v1.ownBlock with
  | none => exact .inl rfl
  | some g =>
    refine .inr fun e => ?_
    obtain ⟨c, fz, hc⟩ := row_kind h1 g hv
    obtain ⟨c', fz', hc'⟩ := row_kind h2 g e.symm
    rw [hc] at hc'
    injection hc' with hc'
    injection hc' with _ h3
    exact hne h3
theorem map_row_ne {w : World} {B : Nat} {e : TypeId} {s : Nat} {v : Value} {n k m : Nat} {xs : List Value} {kt : TypeId} {R : Value → Option (DataW Unit × List MemPlace)} {D : DataW Unit} (h : w.ownsMap Tryd.prog kt R m k D) (h2 : w.ownsRow B e s v n xs) : some m ≠ v.ownBlock := by
  intro hv
  obtain ⟨es, clock, hb, _⟩ := h
  obtain ⟨c, fz, hc⟩ := row_kind h2 m hv.symm
  rw [hb] at hc
  simp at hc
theorem map_blk_ne {w : World} {g t k m : Nat} {cs : Array Value} {kt : TypeId} {R : Value → Option (DataW Unit × List MemPlace)} {D : DataW Unit} (h : w.ownsMap Tryd.prog kt R m k D) (h2 : Blk w g t cs) : m ≠ g := by
  rintro rfl
  obtain ⟨es, clock, hb, _⟩ := h
  unfold Blk at h2
  rw [hb] at h2
  simp at h2

section
variable {w w' : World} {B g : Nat} {cs : Array Value} {l : List UInt8} {at_ : Nat} {ind : List Nat} {op : List UInt8} {ts : List Tok} {vi vo vt : Value} {m : Nat} {vs : Value}
theorem below_grown (hb : Below w.heap.size w w') : w.grownBy w' none := ⟨hb.os, hb.tape, hb.output, hb.size, fun i hi _ => hb.block i hi⟩
theorem ScR.belowS (h : ScR w B g cs ind op ts vi vo vt m vs) (hb : Below w.heap.size w w') : ScR w' B g cs ind op ts vi vo vt m vs :=
  ⟨h.blk.belowS hb, h.ge, own_belowS h.oi hb, own_belowS h.oo hb, own_belowS h.ot hb, h.om.kept (below_grown hb) (by simp), own_belowS h.os hb⟩
theorem Sc.belowS (h : Sc w B g l at_ ind op ts vi vo vt m vs) (hb : Below w.heap.size w w') : Sc w' B g l at_ ind op ts vi vo vt m vs := ScR.belowS h hb
theorem ScR.drewN (h : ScR w B g cs ind op ts vi vo vt m vs) (n : Nat) : ScR (w.drewN n) B g cs ind op ts vi vo vt m vs := h.belowS (below_drewN (Below.refl _ _) n)
theorem ScR.alloc (h : ScR w B g cs ind op ts vi vo vt m vs) (o : Obj) : ScR (w.alloc o) B g cs ind op ts vi vo vt m vs := h.belowS ((Below.refl _ _).alloc (Nat.le_refl _) _)
/-- a cell of the scanner is written -/
theorem ScR.set (h : ScR w B g cs ind op ts vi vo vt m vs) (i : Nat) (u : Value) : ScR (w.setCell ⟨g, i, none⟩ u) B g (cs.setIfInBounds i u) ind op ts vi vo vt m vs :=
  ⟨h.blk.set_ i u, h.ge, ownsRow_setCell_other h.oi (own_blk_ne h.oi h.blk (by decide)) u, ownsRow_setCell_other h.oo (own_blk_ne h.oo h.blk (by decide)) u, ownsRow_setCell_other h.ot (own_blk_ne h.ot h.blk (by decide)) u,
    h.om.setCell (a := ⟨g, i, none⟩) (map_blk_ne h.om h.blk) u, ownsRow_setCell_other h.os (own_blk_ne h.os h.blk (by decide)) u⟩
/-- the tokens have grown -/
theorem ScR.growT (h : ScR w B g cs ind op ts vi vo vt m vs) {vt' : Value} {ts' : List Tok} (hg : w.grownBy w' vt.ownBlock) (ho : w'.ownsRow B 32 4 vt' ts'.length (ts'.flatMap tokc)) : ScR w' B g cs ind op ts' vi vo vt' m vs :=
  ⟨h.blk.grown hg (fun e => own_blk_ne h.ot h.blk (by decide) e.symm), h.ge, h.oi.kept hg (rows_ne h.oi h.ot (by decide)), h.oo.kept hg (rows_ne h.oo h.ot (by decide)), ho, h.om.kept hg (map_row_ne h.om h.ot), h.os.kept hg (rows_ne h.os h.ot (by decide))⟩
/-- the indentations have grown -/
theorem ScR.growI (h : ScR w B g cs ind op ts vi vo vt m vs) {vi' : Value} {ind' : List Nat} (hg : w.grownBy w' vi.ownBlock) (ho : w'.ownsRow B 3 1 vi' ind'.length (intc ind'.reverse)) : ScR w' B g cs ind' op ts vi' vo vt m vs :=
  ⟨h.blk.grown hg (fun e => own_blk_ne h.oi h.blk (by decide) e.symm), h.ge, ho, h.oo.kept hg (rows_ne h.oo h.oi (by decide)), h.ot.kept hg (rows_ne h.ot h.oi (by decide)), h.om.kept hg (map_row_ne h.om h.oi), h.os.kept hg (rows_ne h.os h.oi (by decide))⟩
/-- the brackets have grown -/
theorem ScR.growO (h : ScR w B g cs ind op ts vi vo vt m vs) {vo' : Value} {op' : List UInt8} (hg : w.grownBy w' vo.ownBlock) (ho : w'.ownsRow B 5 1 vo' op'.length (bytc op'.reverse)) : ScR w' B g cs ind op' ts vi vo' vt m vs :=
  ⟨h.blk.grown hg (fun e => own_blk_ne h.oo h.blk (by decide) e.symm), h.ge, h.oi.kept hg (rows_ne h.oi h.oo (by decide)), ho, h.ot.kept hg (rows_ne h.ot h.oo (by decide)), h.om.kept hg (map_row_ne h.om h.oo), h.os.kept hg (rows_ne h.os h.oo (by decide))⟩
end

/-- what is thrown -/
def probV (c i : Int) : Value := .iface 47 (.agg #[.int .i64 c, .int .i64 i])

end Go.Proofs.YtjoeojdciogcgaaDoor

namespace Go.Proofs.YtjoeojdciogcgaaDoor
open Go.RowKit Go.Shelf Go.Lib Go.Maps

/-- fail throws its fault -/
theorem fail_any (p : Value) (c i : Int) (w : World) : Calls Tryd.prog 37 #[p, .int .i64 c, .int .i64 i] w fun e w' => e = .panicked [{ v := probV c i, recovered := false }] ∧ w = w' := by
  go_enter Tryd.func37, Tryd.ntmps37
  go_wp2
  exact ⟨rfl, rfl, rfl⟩

theorem isLet_n (c : UInt8) : isLet c = decide ((97 ≤ (c.toNat : Int) ∧ (c.toNat : Int) ≤ 122) ∨ (65 ≤ (c.toNat : Int) ∧ (c.toNat : Int) ≤ 90) ∨ (c.toNat : Int) = 95) := by
  rw [Bool.eq_iff_iff]
  unfold isLet
  simp only [Bool.or_eq_true, Bool.and_eq_true, decide_eq_true_eq, beq_iff_eq, UInt8.le_iff_toNat_le, ← UInt8.toNat_inj]
  simp
  omega
theorem isDig_n (c : UInt8) : isDig c = decide (48 ≤ (c.toNat : Int) ∧ (c.toNat : Int) ≤ 57) := by
  rw [Bool.eq_iff_iff]
  unfold isDig
  simp only [Bool.and_eq_true, decide_eq_true_eq, UInt8.le_iff_toNat_le]
  simp
  omega
theorem isBin_n (c : UInt8) : isBin c = decide ((c.toNat : Int) = 48 ∨ (c.toNat : Int) = 49) := by
  rw [Bool.eq_iff_iff]
  unfold isBin
  simp only [Bool.or_eq_true, decide_eq_true_eq, beq_iff_eq, ← UInt8.toNat_inj]
  simp
  omega
theorem isHex_n (c : UInt8) : isHex c = decide ((48 ≤ (c.toNat : Int) ∧ (c.toNat : Int) ≤ 57) ∨ (97 ≤ (c.toNat : Int) ∧ (c.toNat : Int) ≤ 102)) := by
  rw [Bool.eq_iff_iff]
  unfold isHex
  rw [Bool.or_eq_true, isDig_n]
  simp only [Bool.and_eq_true, decide_eq_true_eq, UInt8.le_iff_toNat_le]
  simp
  omega
theorem inLn_n (c : UInt8) : inLn c = ((c.toNat : Int) != 10) := by
  rw [Bool.eq_iff_iff]
  unfold inLn
  rw [bne_iff_ne, bne_iff_ne, ne_eq, ne_eq, ← UInt8.toNat_inj]
  simp
  omega

set_option maxHeartbeats 1000000 in
theorem letter_any (c : UInt8) (w : World) : Calls Tryd.prog 43 #[.int .u8 (c.toNat : Int)] w fun e w' => e = .returned (.bool (isLet c)) ∧ w = w' := by
  have HE := Lib.hid (isLet_n c)
  generalize isLet c = r at *
  generalize (c.toNat : Int) = n at *
  go_enter Tryd.func43, Tryd.ntmps43
  go_wp2
  all_goals
    go_ret
    refine ⟨ret_bool ?_, rfl⟩
    rw [HE.out, Bool.eq_iff_iff]
    simp only [Bool.or_eq_true, Bool.and_eq_true, decide_eq_true_eq, beq_iff_eq, true_iff] <;> first | omega | (simp <;> omega)
theorem digit_any (c : UInt8) (w : World) : Calls Tryd.prog 45 #[.int .u8 (c.toNat : Int)] w fun e w' => e = .returned (.bool (isDig c)) ∧ w = w' := by
  have HE := Lib.hid (isDig_n c)
  generalize isDig c = r at *
  generalize (c.toNat : Int) = n at *
  go_enter Tryd.func45, Tryd.ntmps45
  go_wp2
  all_goals
    go_ret
    refine ⟨ret_bool ?_, rfl⟩
    rw [HE.out, Bool.eq_iff_iff]
    simp only [Bool.or_eq_true, Bool.and_eq_true, decide_eq_true_eq, beq_iff_eq, true_iff] <;> first | omega | (simp <;> omega)
theorem number1_any (c : UInt8) (w : World) : Calls Tryd.prog 69 #[.int .u8 (c.toNat : Int)] w fun e w' => e = .returned (.bool (isBin c)) ∧ w = w' := by
  have HE := Lib.hid (isBin_n c)
  generalize isBin c = r at *
  generalize (c.toNat : Int) = n at *
  go_enter Tryd.func69, Tryd.ntmps69
  go_wp2
  all_goals
    go_ret
    refine ⟨ret_bool ?_, rfl⟩
    rw [HE.out, Bool.eq_iff_iff]
    simp only [Bool.or_eq_true, Bool.and_eq_true, decide_eq_true_eq, beq_iff_eq, true_iff] <;> first | omega | (simp <;> omega)
theorem inLine_any (p : Value) (c : UInt8) (w : World) : Calls Tryd.prog 64 #[p, .int .u8 (c.toNat : Int)] w fun e w' => e = .returned (.bool (inLn c)) ∧ w = w' := by
  have HE := Lib.hid (inLn_n c)
  generalize inLn c = r at *
  generalize (c.toNat : Int) = n at *
  go_enter Tryd.func64, Tryd.ntmps64
  go_wp2
  go_ret
  exact ⟨ret_bool HE.out.symm, rfl⟩
theorem name1_any (c : UInt8) (w : World) : Calls Tryd.prog 68 #[.int .u8 (c.toNat : Int)] w fun e w' => e = .returned (.bool (isWrd c)) ∧ w = w' := by
  have HE := Lib.hid (show isWrd c = (isLet c || isDig c) from rfl)
  have h1 := letter_any c
  have h2 := digit_any c
  have H1 := Lib.hid h1
  have H2 := Lib.hid h2
  clear h1 h2
  generalize isWrd c = r at *
  generalize isLet c = r1 at *
  generalize isDig c = r2 at *
  generalize (c.toNat : Int) = n at *
  go_enter Tryd.func68, Tryd.ntmps68
  go_wp2_with fail
  refine (H1.out _).mono ?_
  rintro e w1 ⟨rfl, rfl⟩
  cases r1
  · go_wp2_with fail
    refine (H2.out _).mono ?_
    rintro e w1 ⟨rfl, rfl⟩
    go_wp2_with fail
    go_ret
    exact ⟨ret_bool (by rw [HE.out, Bool.false_or]), rfl⟩
  · go_wp2_with fail
    go_ret
    exact ⟨ret_bool (by rw [HE.out, Bool.true_or]), rfl⟩
theorem number2_any (c : UInt8) (w : World) : Calls Tryd.prog 70 #[.int .u8 (c.toNat : Int)] w fun e w' => e = .returned (.bool (isHex c)) ∧ w = w' := by
  have HE := Lib.hid (isHex_n c)
  have HD := Lib.hid (isDig_n c)
  have h2 := digit_any c
  have H2 := Lib.hid h2
  clear h2
  generalize isHex c = r at *
  generalize isDig c = r2 at *
  generalize (c.toNat : Int) = n at *
  go_enter Tryd.func70, Tryd.ntmps70
  go_wp2_with fail
  refine (H2.out _).mono ?_
  rintro e w1 ⟨rfl, rfl⟩
  cases r2
  · have hd := HD.out
    have hd' : ¬ (48 ≤ n ∧ n ≤ 57) := of_decide_eq_false hd.symm
    have HDD := Lib.hid hd'
    clear hd hd'
    go_wp2_with fail
    all_goals
      go_ret
      refine ⟨ret_bool ?_, rfl⟩
      have hd := HDD.out
      rw [HE.out, Bool.eq_iff_iff]
      simp only [Bool.or_eq_true, Bool.and_eq_true, decide_eq_true_eq, beq_iff_eq, true_iff] <;> first | omega | (simp <;> omega)
  · have hd := HD.out
    have hd' : (48 ≤ n ∧ n ≤ 57) := of_decide_eq_true hd.symm
    have HDD := Lib.hid hd'
    clear hd hd'
    go_wp2_with fail
    go_ret
    refine ⟨ret_bool ?_, rfl⟩
    have hd := HDD.out
    rw [HE.out, decide_eq_true (by omega)]

/-- a byte of a string is read -/
theorem run_idx (l : List UInt8) (k : Nat) (h : k < l.length) (x : Int) (hx : x = (k : Int)) (W : World) : (Instr.index 9 (.string ⟨l.toArray⟩) (.int .i64 x)).run Tryd.prog W = .ok (.int .u8 ((at0 l k).toNat : Int)) W := by
  subst hx
  rw [run_index_string W 9 ⟨l.toArray⟩ .i64 _ Tryd.underlying9, dif_pos ⟨by omega, by simpa [ByteArray.size] using h⟩, at0_lt l k h]
  rfl
/-- a part of a string is taken -/
theorem run_sub (l : List UInt8) (i j : Nat) (h1 : i ≤ j) (h2 : j ≤ l.length) (x y : Int) (hx : x = (i : Int)) (hy : y = (j : Int)) (W : World) :
    (Instr.slice 9 (.string ⟨l.toArray⟩) (some (.int .i64 x)) (some (.int .i64 y)) none).run Tryd.prog W = .ok (.string ⟨((l.drop i).take (j - i)).toArray⟩) W := by
  subst hx hy
  rw [run_slice_string W 9 ⟨l.toArray⟩ .i64 .i64 _ _ Tryd.underlying9 (by omega) (by omega) (by simp [ByteArray.size]; omega), Int.toNat_natCast, Int.toNat_natCast, extract_sub]
theorem run_tail (l : List UInt8) (i : Nat) (h2 : i ≤ l.length) (x : Int) (hx : x = (i : Int)) (W : World) :
    (Instr.slice 9 (.string ⟨l.toArray⟩) (some (.int .i64 x)) none none).run Tryd.prog W = .ok (.string ⟨(l.drop i).toArray⟩) W := by
  subst hx
  rw [run_slice_string_from_if W 9 ⟨l.toArray⟩ .i64 _ Tryd.underlying9, if_pos ⟨by omega, by simp [ByteArray.size]; omega⟩, Int.toNat_natCast, extract_from _ _ _ (by simp [ByteArray.size])]

/-- peek reads a byte -/
theorem peek_any {w : World} {B g : Nat} {l : List UInt8} {at_ : Nat} {ind : List Nat} {op : List UInt8} {ts : List Tok} {vi vo vt : Value} {m : Nat} {vs : Value} (h : Sc w B g l at_ ind op ts vi vo vt m vs) (n : Nat) (hl : l.length ≤ 16000) (ha : at_ ≤ l.length) (hn : n ≤ 2) :
    Calls Tryd.prog 36 #[.pointer (some ⟨g, 0, none⟩), .int .i64 (n : Int)] w fun e w' => e = .returned (.int .u8 ((at0 l (at_ + n)).toNat : Int)) ∧ ∃ k, w' = w.drewN k := by
  obtain ⟨q1, q2, q3⟩ := h.blk.rules
  unfold scCells at q1
  have e1 : IntKind.i64.wrap ((at_ : Int) + (n : Int)) = (at_ : Int) + (n : Int) := IntWalk.i64_in _ (by omega)
  by_cases hlt : at_ + n < l.length
  · have d2 : decide ((at_ : Int) + (n : Int) < (l.length : Int)) = true := decide_eq_true (by omega)
    have hix := run_idx l (at_ + n) hlt ((at_ : Int) + (n : Int)) (by omega)
    clear h
    go_enter Tryd.func36, Tryd.ntmps36
    go_wp2_with fail
    go_quiet (fail)
    go_wp2_with fail
    go_quiet (fail)
    go_wp2_with fail
    go_ret
    exact ⟨rfl, _, World.drewN_drewN _ _ _⟩
  · have hb := at0_ge l (at_ + n) (by omega)
    have HB := Lib.hid hb
    have d2 : decide ((at_ : Int) + (n : Int) < (l.length : Int)) = false := decide_eq_false (by omega)
    clear hb h
    go_enter Tryd.func36, Tryd.ntmps36
    go_wp2_with fail
    go_quiet (fail)
    go_wp2_with fail
    go_ret
    exact ⟨by rw [HB.out]; rfl, _, rfl⟩

end Go.Proofs.YtjoeojdciogcgaaDoor
