/- The scanner's function sign: the token or the fault. Nothing is claimed here. -/
import Derived.WalkSmall
import Derived.RangeFuncBox
import Derived.Test.YtjoeojdciogcgaaDoorScanG
namespace Go.Proofs.YtjoeojdciogcgaaDoor
open Go.RowKit Go.Shelf Go.Lib Go.Maps Go.Sort
set_option linter.unusedVariables false
attribute [local go_sem] steady

/-- the first one of some texts that satisfies a test -/
def IdxPost (p : List UInt8 → Bool) (xs : List (List UInt8)) (w : World) (e : Ending) (w' : World) : Prop :=
  (∃ n, w' = w.drewN n) ∧ ((xs.find? p = none ∧ e = .returned (.int .i64 (-1))) ∨ ∃ k : Nat, ∃ t, xs[k]? = some t ∧ xs.find? p = some t ∧ e = .returned (.int .i64 (k : Int)))
theorem find_at {p : List UInt8 → Bool} : ∀ (xs : List (List UInt8)) (k : Nat) (t : List UInt8), (∀ j, j < k → ∀ x, xs[j]? = some x → p x = false) → xs[k]? = some t → p t = true → xs.find? p = some t
  | [], k, t, _, h, _ => by simp at h
  | x :: xs, 0, t, _, h, ht => by
    simp at h
    subst h
    simp [List.find?, ht]
  | x :: xs, k + 1, t, h0, h, ht => by
    have hx : p x = false := h0 0 (by omega) x rfl
    rw [List.find?_cons, hx]
    exact find_at xs k t (fun j hj y hy => h0 (j + 1) (by omega) y (by simpa using hy)) (by simpa using h) ht
theorem find_no {p : List UInt8 → Bool} (xs : List (List UInt8)) (h : ∀ j, j < xs.length → ∀ x, xs[j]? = some x → p x = false) : xs.find? p = none := by
  rw [List.find?_eq_none]
  intro x hx
  obtain ⟨j, hj, rfl⟩ := List.getElem_of_mem hx
  rw [h j hj _ (List.getElem?_eq_getElem hj)]
  simp

set_option maxRecDepth 100000 in
set_option maxHeartbeats 1000000 in
/-- IndexFunc on texts -/
theorem indexF_any {w : World} {A : Option Addr} {c : Nat} {xs : List (List UInt8)} (hr : Row w A (strs xs)) (hx : xs.length ≤ 1000000) (cap : Value) (p : List UInt8 → Bool)
    (hc : ∀ (x : List UInt8) (n : Nat), Calls Tryd.prog 72 #[.string ⟨x.toArray⟩, cap] (w.drewN n) fun e w' => e = .returned (.bool (p x)) ∧ ∃ k, w' = w.drewN k) :
    Calls Tryd.prog 71 #[.slice A xs.length c, .func (.func 72) #[] #[cap]] w (IdxPost p xs w) := by
  have HC := Lib.hid hc
  have HR := Lib.hid hr
  clear hc hr
  go_enter Tryd.func71, Tryd.ntmps71
  go_wp2_with fail
  go_loopw [8] (fun i wr => ∃ k n : Nat, k ≤ xs.length ∧ (∀ j, j < k → ∀ x, xs[j]? = some x → p x = false) ∧ i = .int .i64 (k : Int) ∧ wr = w.drewN n) (fun i _ => xs.length - (RowKit.intOf i).toNat)
  case atStart => exact ⟨0, 0, Nat.zero_le _, fun j hj => by omega, rfl, rfl⟩
  case round =>
    obtain ⟨k, n, hk, hno, rfl, rfl⟩ := hrel
    have HNO := Lib.hid hno
    clear hno
    by_cases hlt : k < xs.length
    · obtain ⟨b, off, rfl, hb, hcell⟩ := HR.out.at_ (k := k) (by simpa [strs] using hlt)
      obtain ⟨x, hx0⟩ : ∃ x, xs[k]? = some x := ⟨_, List.getElem?_eq_getElem hlt⟩
      have hcx : (w.drewN n).cell? ⟨b, off + k, none⟩ = some (.string ⟨x.toArray⟩) := hcell k _ (by simp [strs, hx0])
      have HX := Lib.hid hx0
      clear hcell hx0
      cases hp : p x
      · have HP := Lib.hid hp
        clear hp
        go_wp2_with fail
        refine (HC.out x n).mono ?_
        rintro e w1 ⟨rfl, n1, rfl⟩
        rw [HP.out]
        go_wp2_with fail
        go_roundw
        case rel =>
          refine ⟨k + 1, n1, by omega, fun j hj y hy => ?_, by go_num, rfl⟩
          rcases Nat.lt_or_ge j k with h | h
          · exact HNO.out j h y hy
          · obtain rfl : j = k := by omega
            rw [HX.out] at hy
            injection hy with hy
            rw [← hy]
            exact HP.out
        case measure => simp [RowKit.intOf]; omega
      · have HP := Lib.hid hp
        clear hp
        go_wp2_with fail
        refine (HC.out x n).mono ?_
        rintro e w1 ⟨rfl, n1, rfl⟩
        rw [HP.out]
        go_wp2_with fail
        go_ret
        exact ⟨⟨n1, rfl⟩, .inr ⟨k, x, HX.out, find_at xs k x HNO.out HX.out HP.out, rfl⟩⟩
    · have HF := Lib.hid (find_no xs (fun j hj => HNO.out j (by omega)))
      go_wp2_with fail
      go_ret
      exact ⟨⟨n, rfl⟩, .inl ⟨HF.out, rfl⟩⟩

set_option maxRecDepth 100000 in
set_option maxHeartbeats 4000000 in
/-- add appends a token; a block of another kind stays -/
theorem add_box {a w : World} {B g : Nat} {l : List UInt8} {at_ : Nat} {ind : List Nat} {op : List UInt8} {ts : List Tok} {vi vo vt : Value} {m : Nat} {vs : Value} (h : Sc w B g l at_ ind op ts vi vo vt m vs) (hl : l.length ≤ 16000) (hts : ts.length ≤ 1000000) (hb : Below B a w)
    (k : Int) (t : List UInt8) (i : Nat) (hi : i ≤ l.length) (h1 : lineAt l at_ = lineAt l i) (h2 : bol l at_ = bol l i) {bx : Nat} {pc : Array Value} (hB : Blk w bx 40 pc) :
    Calls Tryd.prog 38 #[.pointer (some ⟨g, 0, none⟩), .int .i64 k, .string ⟨t.toArray⟩, .int .i64 (i : Int)] w fun e w' => AddPost a B g l at_ ind op (ts ++ [tokAt l k t i]) vi vo m vs e w' ∧ Blk w' bx 40 pc := by
  have HB0 := Lib.hid hB
  clear hB
  obtain ⟨i0, hi0, hz0, hz1, hz2⟩ := info_parts info_tok
  have hcb := col_bound l i
  have hln := line_text l i hi
  have hble := bol_le l i
  have hcol : colAt l i = ((runeCountL (tailNl (l.take i)) : Nat) : Int) + 1 := rfl
  obtain ⟨L, hL⟩ : ∃ L, lineAt l i = L := ⟨_, rfl⟩
  obtain ⟨bb, hbb⟩ : ∃ bb, bol l i = bb := ⟨_, rfl⟩
  obtain ⟨rc, hrc⟩ : ∃ rc, runeCountL (tailNl (l.take i)) = rc := ⟨_, rfl⟩
  rw [hrc] at hcol
  rw [hcol] at hcb
  have HT := Lib.hid (show tokc (tokAt l k t i) = [.int .i64 k, .string ⟨t.toArray⟩, .int .i64 L, .int .i64 ((rc : Int) + 1)] by unfold tokAt tokc; rw [hcol, hL])
  have HH := Lib.hid h
  unfold Sc scCells at h
  rw [h1, h2, hL, hbb] at h
  rw [hbb] at hln hble
  have hsb := run_sub l bb i hble hi (bb : Int) (i : Int) rfl rfl
  rw [hln] at hsb
  have hrcc : ∀ W : World, Calls Tryd.prog 65 #[.string ⟨(tailNl (l.take i)).toArray⟩] W fun e w' => e = .returned (.int .i64 (rc : Int)) ∧ Below W.heap.size W w' := fun W => by
    have := rcount_any (tailNl (l.take i)) W (by rw [← hln, List.length_take, List.length_drop]; omega)
    rwa [hrc] at this
  have HRC := Lib.hid hrcc
  generalize tailNl (l.take i) = tl at *
  have e1 : IntKind.i64.wrap ((rc : Int) + 1) = (rc : Int) + 1 := IntWalk.i64_in _ (by omega)
  have hlen : ((ts ++ [tokAt l k t i]).flatMap tokc) = ts.flatMap tokc ++ [.int .i64 k, .string ⟨t.toArray⟩, .int .i64 L, .int .i64 ((rc : Int) + 1)] := by rw [List.flatMap_append, List.flatMap_singleton, HT.out]
  have HLEN := Lib.hid hlen
  have HH1 := Lib.hid h1
  have HH2 := Lib.hid h2
  have HLL := Lib.hid hL
  have HBB := Lib.hid hbb
  have HX := Lib.hid h
  have hlt := h.blk.lt
  clear hln hcol hrc hL hbb h1 h2 hrcc hlen hcb hble
  obtain ⟨q1, q2, q3⟩ := h.blk.rules
  clear h
  have m1 : ts.length + 1 ≤ maxLen := by unfold maxLen; omega
  have m2 : (ts.length + 1) * 40 ≤ 140737488355328 := by omega
  go_enter Tryd.func38, Tryd.ntmps38
  go_wp2_with fail
  have G : ∀ (p : Held fun w' => Blk w' g 45 #[.string ⟨l.toArray⟩, .int .i64 (at_ : Int), .int .i64 L, .int .i64 (bb : Int), vi, vo, vt, .map (some m), vs]) (i : Nat), p.w.cell? ⟨g, i, none⟩ = #[.string ⟨l.toArray⟩, .int .i64 (at_ : Int), .int .i64 L, .int .i64 (bb : Int), vi, vo, vt, .map (some m), vs][i]? := fun p i => p.h.cell i
  refine wp_region_steady_tail 21 26 (by kernel_rfl) (by kernel_rfl) (fun w' => ∃ p : Held fun w' => Blk w' g 45 #[.string ⟨l.toArray⟩, .int .i64 (at_ : Int), .int .i64 L, .int .i64 (bb : Int), vi, vo, vt, .map (some m), vs], w' = p.w) (isHeld_mk HX.out.blk.drew) (fun c a d v w h => by cases d <;> exact h) ?_
  simp only [List.take_succ_cons, List.take_zero, List.drop_succ_cons, List.drop_zero]
  repeat (refine wpSteady_step (fun K hK => ?_)
          go_simp
          first
            | (refine ⟨_, fun _ => rfl, hK _ ?_⟩; clear hK K)
            | (refine hK _ ?_; clear hK K))
  refine wpSteady_nil ?_
  refine tailM_one ?_
  go_wp2_with fail
  refine (HRC.out _).mono ?_
  rintro e w1 ⟨rfl, hb1⟩
  have hR1 := (HX.out.drewN 1).belowS hb1
  have HB1 := Lib.hid (HB0.out.drew.belowS hb1)
  have hb2 : RowKit.Below B a w1 := below_then hb.drew hb1 (Nat.le_trans HX.out.ge (Nat.le_of_lt hlt))
  have hs1 := hR1.blk.lt
  have hge := hR1.ge
  clear hb1 q1 q2 q3
  go_wp2_with fail
  refine thenC_mk (isHeld_mk hR1.blk) ?_
  refine tailM_one ?_
  go_wp2_with fail
  refine thenC_mk (isHeld_mk hR1.blk) ?_
  refine tailM_one ?_
  go_wp2_with fail
  refine thenC_mk (isHeld_mk hR1.blk) ?_
  refine tailM_one ?_
  go_wp2_with fail
  refine thenC_mk (isHeld_mk (hR1.alloc _).blk) ?_
  refine tailM_one ?_
  go_wp2_with (at_builtin
               refine wpList_append_row _ rfl (.tmp 12) (.tmp 32) 23 rfl B 32 i0 (.agg #[.int .i64 0, .string ByteArray.empty, .int .i64 0, .int .i64 0]) 4 40 Tryd.underlying23 hi0 hz0 hz1 hz2 rfl (by decide) vt ts.length (ts.flatMap tokc) rfl (hR1.ot.alloc _) (some ⟨w1.heap.size, 0, none⟩) 1 1 [.int .i64 k, .string ⟨t.toArray⟩, .int .i64 L, .int .i64 ((rc : Int) + 1)] rfl rfl (Row.new w1 #[.int .i64 k, .string ⟨t.toArray⟩, .int .i64 L, .int .i64 ((rc : Int) + 1)] 32) (by simp [Value.oneCell']) m1 m2 (by simp; omega) ?_
               intro v3 w3 hown3 hg3 hat3
               have hR3 := (hR1.alloc (.cells #[.int .i64 k, .string ⟨t.toArray⟩, .int .i64 L, .int .i64 ((rc : Int) + 1)] 32)).growT hg3 (ts' := ts ++ [tokAt l k t i]) (by rw [HLEN.out]; simpa using hown3)
               obtain ⟨A3, c3, rfl, _, _⟩ := own_form hown3)
  refine thenC_mk (isHeld_mk hR3.blk) ?_
  refine tailM_zero ?_
  have hb3 := (hb2.alloc (by omega) (.cells #[.int .i64 k, .string ⟨t.toArray⟩, .int .i64 L, .int .i64 ((rc : Int) + 1)] 32)).grown hg3 (by simp; omega) (fun g' e => (HX.out.ot.lt g' e).1)
  have HB3 := Lib.hid ((HB1.out.alloc (.cells #[.int .i64 k, .string ⟨t.toArray⟩, .int .i64 L, .int .i64 ((rc : Int) + 1)] 32)).grown hg3 (fun e => own_blk_ne (hR1.ot.alloc (.cells #[.int .i64 k, .string ⟨t.toArray⟩, .int .i64 L, .int .i64 ((rc : Int) + 1)] 32)) (HB1.out.alloc _) (by decide) e.symm))
  have hbg := HB3.out.ne_ hR3.blk (by decide)
  clear hg3 hown3 hat3 G
  obtain ⟨q1, q2, q3⟩ := hR3.blk.rules
  go_wp2_with fail
  go_end0
  refine ⟨⟨.slice A3 (ts.length + 1) c3, rfl, ?_, hb3.setCell (p := ⟨g, 6, none⟩) hge _⟩, HB3.out.far (p := ⟨g, 6, none⟩) hbg _⟩
  unfold Sc scCells
  rw [HH1.out, HH2.out, HLL.out, HBB.out]
  have hlen3 : (ts ++ [tokAt l k t i]).length = ts.length + 1 := by simp
  exact hR3.set 6 _


section
variable {w : World} {B g : Nat} {l : List UInt8} {at_ : Nat} {ind : List Nat} {op : List UInt8} {ts : List Tok} {vi vo vt : Value} {m : Nat} {vs : Value}
theorem quiet_leftN {P : Program} {f : FuncId} {args : Array Value} {w : World} {n : Nat} {v : Value}
    (h : Calls P f args (w.drewN n) fun e w' => e = .returned v ∧ w.drewN n = w') : Calls P f args (w.drewN n) fun e w'' => e = .returned v ∧ ∃ m, w'' = w.drewN m :=
  h.mono fun _ _ ⟨he, hm⟩ => ⟨he, n, hm.symm⟩
set_option maxHeartbeats 1000000 in
/-- does a text stand at the offset? -/
theorem sign1_any {bx : Nat} (h : Sc w B g l at_ ind op ts vi vo vt m vs) (hB : Blk w bx 40 #[.pointer (some ⟨g, 0, none⟩)]) (ha : at_ ≤ l.length) (hl : l.length ≤ 16000) (x : List UInt8) (n : Nat) :
    Calls Tryd.prog 72 #[.string ⟨x.toArray⟩, .pointer (some ⟨bx, 0, none⟩)] (w.drewN n) fun e w' => e = .returned (.bool (x.isPrefixOf (l.drop at_))) ∧ ∃ k, w' = w.drewN k := by
  have h0 := ScR.drewN h n
  unfold scCells at h0
  obtain ⟨q1, q2, q3⟩ := h0.blk.rules
  obtain ⟨r1, r2, r3⟩ := (hB.drewN n).rules
  have htail := run_tail l at_ ha (at_ : Int) rfl
  have hpre : ∀ W : World, Calls Tryd.prog 50 #[.string ⟨(l.drop at_).toArray⟩, .string ⟨x.toArray⟩] W fun e w' => e = .returned (.bool (x.isPrefixOf (l.drop at_))) ∧ W = w' := fun W => (Tryd.strings_HasPrefix ⟨(l.drop at_).toArray⟩ ⟨x.toArray⟩ W).mono fun _ _ h => ⟨h.1, h.2.symm⟩
  have HPRE := Lib.hid hpre
  clear hpre h h0
  obtain ⟨wo, hwo⟩ : ∃ wo, wo = w.drewN n := ⟨_, rfl⟩
  rw [← hwo] at q1 q2 q3 r1 r2 r3 ⊢
  have HWO := Lib.hid hwo
  clear hwo
  go_enter Tryd.func72, Tryd.ntmps72
  go_wp2_with fail
  go_quiet ((go_at_call 50; exact quiet_left (HPRE.out _)))
  go_wp2_with fail
  go_ret
  rw [HWO.out]
  exact ⟨rfl, n + nq, by simp [World.drewN, Nat.add_assoc]⟩

def SignPost (a : World) (B g : Nat) (l : List UInt8) (at_ : Nat) (ind : List Nat) (op : List UInt8) (ts : List Tok) (vi : Value) (m : Nat) (vs : Value) (r : Lex) (e : Ending) (w' : World) : Prop :=
  match r with
  | .error _ => e = .panicked [{ v := probV 1 (at_ : Int), recovered := false }] ∧ Below B a w'
  | .ok (_, n) => match bracket op ((l.drop at_).take n) with
    | none => e = .panicked [{ v := probV 1 (at_ : Int), recovered := false }] ∧ Below B a w'
    | some op' => ∃ vo' vt', e = .returned (.tuple #[]) ∧ Sc w' B g l (at_ + n) ind op' (ts ++ [tokAt l 8 ((l.drop at_).take n) at_]) vi vo' vt' m vs ∧ Below B a w'
theorem SignPost.err {a : World} {r : Lex} {e : Ending} {w' : World} {x : Int × Nat} (hr : r = .error x) (he : e = .panicked [{ v := probV 1 (at_ : Int), recovered := false }]) (hb : Below B a w') : SignPost a B g l at_ ind op ts vi m vs r e w' := by
  subst hr
  exact ⟨he, hb⟩
theorem SignPost.bad {a : World} {r : Lex} {e : Ending} {w' : World} {k : Int} {n : Nat} (hr : r = .ok (k, n)) (ho : bracket op ((l.drop at_).take n) = none) (he : e = .panicked [{ v := probV 1 (at_ : Int), recovered := false }]) (hb : Below B a w') : SignPost a B g l at_ ind op ts vi m vs r e w' := by
  subst hr
  simp only [SignPost, ho]
  exact ⟨he, hb⟩
theorem SignPost.ok {a : World} {r : Lex} {e : Ending} {w' : World} {k : Int} {n : Nat} {op' : List UInt8} {vo' vt' : Value} (hr : r = .ok (k, n)) (ho : bracket op ((l.drop at_).take n) = some op') (he : e = .returned (.tuple #[]))
    (hs : Sc w' B g l (at_ + n) ind op' (ts ++ [tokAt l 8 ((l.drop at_).take n) at_]) vi vo' vt' m vs) (hb : Below B a w') : SignPost a B g l at_ ind op ts vi m vs r e w' := by
  subst hr
  simp only [SignPost, ho]
  exact ⟨vo', vt', he, hs, hb⟩
theorem sgs_len : sgs.length = 43 := rfl

theorem bytc_rev (c : UInt8) (op : List UInt8) : bytc (c :: op).reverse = bytc op.reverse ++ [.int .u8 (c.toNat : Int)] := by simp [bytc]
theorem bytc_len (op : List UInt8) : (bytc op).length = op.length := by simp [bytc]
/-- the last of a row is taken away -/
theorem own_pop {w : World} {base size n : Nat} {e : TypeId} {v : Value} {xs last : List Value} (hx : xs.length = n * size) (h : w.ownsRow base e size v (n + 1) (xs ++ last)) :
    ∃ gg cap, v = .slice (some ⟨gg, 0, none⟩) (n + 1) cap ∧ w.ownsRow base e size (.slice (some ⟨gg, 0, none⟩) n cap) n xs ∧ n + 1 ≤ cap ∧ cap ≤ maxLen := by
  obtain ⟨gg, cap, rfl⟩ := ownsRow_succ h
  refine ⟨gg, cap, rfl, ownsRow_pop hx h, ?_⟩
  rcases h.2 with ⟨h0, _⟩ | ⟨g', cap', cur, hv, _, _, hn, hc, _⟩
  · cases h0
  · cases hv
    exact ⟨hn, hc⟩
/-- the last bracket is taken away -/
theorem ScR.popO {cs : Array Value} {c : UInt8} (h : ScR w B g cs ind (c :: op) ts vi vo vt m vs) : ∃ gg cap, vo = .slice (some ⟨gg, 0, none⟩) (op.length + 1) cap ∧ ScR w B g cs ind op ts vi (.slice (some ⟨gg, 0, none⟩) op.length cap) vt m vs ∧ op.length + 1 ≤ cap ∧ cap ≤ maxLen := by
  have h2 := h.oo
  rw [bytc_rev] at h2
  obtain ⟨gg, cap, rfl, h3, h4, h5⟩ := own_pop (n := op.length) (by rw [bytc_len]; simp) h2
  exact ⟨gg, cap, rfl, ⟨h.blk, h.ge, h.oi, h3, h.ot, h.om, h.os⟩, h4, h5⟩
/-- a sign that stands at an offset -/
theorem sgn_line {l t : List UInt8} {j : Nat} (hq : ∀ c ∈ t, c ≠ 10) (h : t.isPrefixOf (l.drop j) = true) (hj : j ≤ l.length) :
    j + t.length ≤ l.length ∧ lineAt l (j + t.length) = lineAt l j ∧ bol l (j + t.length) = bol l j ∧ (l.drop j).take t.length = t := by
  have h1 := (List.isPrefixOf_iff_prefix.1 h)
  have h2 := h1.length_le
  rw [List.length_drop] at h2
  have h3 : j + t.length ≤ l.length := by omega
  have h4 := same_line l j t.length h3 fun i hi => by
    rw [← at0_drop, at0_lt _ _ (by rw [List.length_drop]; omega), ← h1.getElem hi]
    exact hq _ (List.getElem_mem hi)
  exact ⟨h3, h4.1, h4.2, (List.prefix_iff_eq_take.1 h1).symm⟩
theorem ib_open (c : UInt8) : Lib.indexByte [40, 91, 123] c = if c = 40 then 0 else if c = 91 then 1 else if c = 123 then 2 else -1 := by
  unfold Lib.indexByte Lib.indexByte Lib.indexByte Lib.indexByte
  by_cases h1 : c = 40
  · subst h1; rfl
  · by_cases h2 : c = 91
    · subst h2; rfl
    · by_cases h3 : c = 123
      · subst h3; rfl
      · have e1 : ((40 : UInt8) == c) = false := by rw [beq_eq_false_iff_ne]; exact fun e => h1 e.symm
        have e2 : ((91 : UInt8) == c) = false := by rw [beq_eq_false_iff_ne]; exact fun e => h2 e.symm
        have e3 : ((123 : UInt8) == c) = false := by rw [beq_eq_false_iff_ne]; exact fun e => h3 e.symm
        simp [h1, h2, h3, e1, e2, e3]
theorem ib_calls (c : UInt8) (W : World) : Calls Tryd.prog 42 #[.string ⟨#[40, 91, 123]⟩, .int .u8 (c.toNat : Int)] W fun e w' => e = .returned (.int .i64 (if c = 40 then 0 else if c = 91 then 1 else if c = 123 then 2 else -1)) ∧ W = w' :=
  (Tryd.strings_IndexByte ⟨#[40, 91, 123]⟩ (c.toNat : Int) W).mono fun _ _ h => ⟨by rw [h.1, Int.toNat_natCast, show c.toNat.toUInt8 = c from by simp, ← ib_open c], h.2.symm⟩
theorem ib_close (c : UInt8) (j : Int) (h : Lib.indexByte [41, 93, 125] c = j) (W : World) : Calls Tryd.prog 42 #[.string ⟨#[41, 93, 125]⟩, .int .u8 (c.toNat : Int)] W fun e w' => e = .returned (.int .i64 j) ∧ W = w' :=
  (Tryd.strings_IndexByte ⟨#[41, 93, 125]⟩ (c.toNat : Int) W).mono fun _ _ h' => ⟨by rw [h'.1, Int.toNat_natCast, show c.toNat.toUInt8 = c from by simp, ← h], h'.2.symm⟩
set_option maxRecDepth 100000 in
set_option maxHeartbeats 4000000 in
/-- sign scans a sign -/
theorem sign_any {a : World} (h : Sc w B g l at_ ind op ts vi vo vt m vs) (hl : l.length ≤ 16000) (ha : at_ ≤ l.length) (hb : Below B a w) (hts : ts.length ≤ 1000000) (hop : op.length ≤ 1000000) :
    Calls Tryd.prog 47 #[.pointer (some ⟨g, 0, none⟩)] w (SignPost a B g l at_ ind op ts vi m vs (lexSign (l.drop at_))) := by
  obtain ⟨A, cv, rfl, hrow, _⟩ := own_form h.os
  have HH := Lib.hid h
  have h0 := h
  unfold Sc scCells at h0
  obtain ⟨q1, q2, q3⟩ := h0.blk.rules
  have HROW := Lib.hid hrow
  clear h h0 hrow
  go_enter Tryd.func47, Tryd.ntmps47
  go_wp2_with fail
  have HS1 := Lib.hid (ScR.alloc HH.out (.cells #[.pointer (some ⟨g, 0, none⟩)] 40))
  have HB1 := Lib.hid (Blk.new w 40 #[.pointer (some ⟨g, 0, none⟩)])
  have hb1 := hb.alloc (Nat.le_of_lt (Nat.lt_of_le_of_lt HH.out.ge q3)) (.cells #[.pointer (some ⟨g, 0, none⟩)] 40)
  have hr1 := HROW.out.keepB ((Below.refl _ w).alloc (Nat.le_refl _) (.cells #[.pointer (some ⟨g, 0, none⟩)] 40))
  refine (indexF_any (xs := sgs) hr1 (by decide) (.pointer (some ⟨w.heap.size, 0, none⟩)) (fun x => x.isPrefixOf (l.drop at_)) (fun x n => sign1_any HS1.out HB1.out ha hl x n)).mono ?_
  rintro e w2 ⟨⟨n2, rfl⟩, hcase⟩
  have HS2 := Lib.hid (HS1.out.drewN n2)
  have HBx := Lib.hid (HB1.out.drewN n2)
  have hb2 := below_drewN hb1 n2
  generalize (w.alloc (.cells #[.pointer (some ⟨g, 0, none⟩)] 40)).drewN n2 = w2 at HS2 HBx hb2 ⊢
  clear q1 q2 q3 HS1 HB1 hb1 hr1 hb HH HROW
  have hs2 := HS2.out
  unfold Sc scCells at hs2
  obtain ⟨q1, q2, q3⟩ := hs2.blk.rules
  obtain ⟨r1, r2, r3⟩ := HBx.out.rules
  clear hs2
  rcases hcase with ⟨hno, rfl⟩ | ⟨k, t, hk, hsome, rfl⟩
  · have HR := Lib.hid (show lexSign (l.drop at_) = .error (1, 0) by unfold lexSign; rw [hno])
    clear hno
    go_wp2_with fail
    go_still_tail 5, (by kernel_rfl)
    repeat still_step
    go_wp2_with fail
    refine (fail_any _ _ _ _).mono ?_
    rintro e w3 ⟨rfl, rfl⟩
    go_wp2_with fail
    exact ⟨rfl, SignPost.err HR.out rfl hb2.drew⟩
  · have HR := Lib.hid (show lexSign (l.drop at_) = .ok (8, t.length) by unfold lexSign; rw [hsome])
    have hkl : k < 43 := by
      have := (List.getElem?_eq_some_iff.1 hk).1
      simpa [sgs_len] using this
    obtain ⟨ba, off, rfl, hba, hcell⟩ := (Row.of_own HS2.out.os).at_ (k := k) (by simpa [strs, sgs_len] using hkl)
    have hcx : w2.cell? ⟨ba, off + k, none⟩ = some (.string ⟨t.toArray⟩) := hcell k _ (by simp [strs, hk])
    have hmem : t ∈ sgs := List.mem_of_getElem? hk
    have hsl := sgn_line (fun c hc => ((sgs_facts t hmem).2 c hc).2.2) (by simpa using List.find?_some hsome) ha
    have HLN := Lib.hid (And.intro hsl.2.1 hsl.2.2.1)
    have HTT := Lib.hid hsl.2.2.2
    have HLE := Lib.hid hsl.1
    clear hcell hsome hsl hmem hk
    by_cases h40 : t = [40]
    · subst h40
      have HBR : Hid (bracket op ((l.drop at_).take ([40] : List UInt8).length) = some (40 :: op)) := Lib.hid (by rw [HTT.out]; rfl)
      have hX := HS2.out
      unfold Sc scCells at hX
      obtain ⟨L, hL⟩ : ∃ L, lineAt l at_ = L := ⟨_, rfl⟩
      obtain ⟨bb, hbb⟩ : ∃ bb, bol l at_ = bb := ⟨_, rfl⟩
      rw [hL, hbb] at hX q1
      have HL := Lib.hid hL
      have HBB := Lib.hid hbb
      have HX := Lib.hid hX
      clear hX hL hbb
      go_wp2_with fail
      obtain ⟨i0, hi0, hz0, hz1, hz2⟩ := info_parts info_byte
      have m1 : op.length + 1 ≤ maxLen := by unfold maxLen; omega
      have m2 : (op.length + 1) * 1 ≤ 140737488355328 := by omega
      have G1 : ∀ (p : Held fun w' => Blk w' g 45 #[.string ⟨l.toArray⟩, .int .i64 (at_ : Int), .int .i64 L, .int .i64 (bb : Int), vi, vo, vt, .map (some m), .slice (some ⟨ba, off, none⟩) 43 cv] ∧ Blk w' w.heap.size 40 #[.pointer (some ⟨g, 0, none⟩)]) (i : Nat), p.w.cell? ⟨g, i, none⟩ = #[.string ⟨l.toArray⟩, .int .i64 (at_ : Int), .int .i64 L, .int .i64 (bb : Int), vi, vo, vt, .map (some m), .slice (some ⟨ba, off, none⟩) 43 cv][i]? := fun p i => p.h.1.cell i
      have G2 : ∀ (p : Held fun w' => Blk w' g 45 #[.string ⟨l.toArray⟩, .int .i64 (at_ : Int), .int .i64 L, .int .i64 (bb : Int), vi, vo, vt, .map (some m), .slice (some ⟨ba, off, none⟩) 43 cv] ∧ Blk w' w.heap.size 40 #[.pointer (some ⟨g, 0, none⟩)]) (i : Nat), p.w.cell? ⟨w.heap.size, i, none⟩ = #[.pointer (some ⟨g, 0, none⟩)][i]? := fun p i => p.h.2.cell i
      refine wp_region_steady_tail 7 9 (by kernel_rfl) (by kernel_rfl) (fun w' => ∃ p : Held fun w' => Blk w' g 45 #[.string ⟨l.toArray⟩, .int .i64 (at_ : Int), .int .i64 L, .int .i64 (bb : Int), vi, vo, vt, .map (some m), .slice (some ⟨ba, off, none⟩) 43 cv] ∧ Blk w' w.heap.size 40 #[.pointer (some ⟨g, 0, none⟩)], w' = p.w) (isHeld_mk ⟨HX.out.blk.drew, HBx.out.drew⟩) (fun c a d v w h => by cases d <;> exact h) ?_
      simp only [List.take_succ_cons, List.take_zero, List.drop_succ_cons, List.drop_zero]
      repeat (refine wpSteady_step (fun K hK => ?_)
              go_simp
              first
                | (refine ⟨_, fun _ => rfl, hK _ ?_⟩; clear hK K)
                | (refine hK _ ?_; clear hK K))
      refine wpSteady_nil ?_
      have HXd : Hid (ScR w2.drew B g #[.string ⟨l.toArray⟩, .int .i64 (at_ : Int), .int .i64 L, .int .i64 (bb : Int), vi, vo, vt, .map (some m), .slice (some ⟨ba, off, none⟩) 43 cv] ind op ts vi vo vt m (.slice (some ⟨ba, off, none⟩) 43 cv)) := Lib.hid (HX.out.drewN 1)
      have HBd : Hid (Blk w2.drew w.heap.size 40 #[.pointer (some ⟨g, 0, none⟩)]) := Lib.hid HBx.out.drew
      have hbd := hb2.drew
      have hgd : g < w2.drew.heap.size := q3
      generalize w2.drew = wd at HXd HBd hbd hgd ⊢
      have hged := HXd.out.ge
      refine tailM_one ?_
      go_wp2_with fail
      refine thenC_mk (isHeld_mk ⟨(HXd.out.alloc _).blk, HBd.out.alloc _⟩) ?_
      refine tailM_one ?_
      go_wp2_with (at_builtin
                   refine wpList_append_row _ rfl (.tmp 35) (.tmp 38) 43 rfl B 5 i0 (.int .u8 0) 1 1 Tryd.underlying43 hi0 hz0 hz1 hz2 rfl (by decide) vo op.length (bytc op.reverse) rfl (HXd.out.oo.alloc _) (some ⟨wd.heap.size, 0, none⟩) 1 1 [.int .u8 40] rfl rfl (Row.new wd #[.int .u8 40] 5) (by simp [Value.oneCell']) m1 m2 (by simp; omega) ?_
                   intro v3 w3 hown3 hg3 hat3
                   have hR3 := (HXd.out.alloc (.cells #[.int .u8 40] 5)).growO hg3 (op' := 40 :: op) (by rw [bytc_rev]; exact hown3)
                   obtain ⟨A3, c3, rfl, _, _⟩ := own_form hown3)
      have HB3 := Lib.hid ((HBd.out.alloc (.cells #[.int .u8 40] 5)).grown hg3 (fun e => own_blk_ne (HXd.out.oo.alloc (.cells #[.int .u8 40] 5)) (HBd.out.alloc _) (by decide) e.symm))
      refine thenC_mk (isHeld_mk ⟨hR3.blk, HB3.out⟩) ?_
      refine tailM_zero ?_
      have hb3 := (hbd.alloc (by omega) (.cells #[.int .u8 40] 5)).grown hg3 (by simp; omega) (fun g' e => (HXd.out.oo.lt g' e).1)
      have hbg := HB3.out.ne_ hR3.blk (by decide)
      clear hg3 hown3 hat3 G1 G2 q1 q2 q3 r1 r2 r3
      obtain ⟨q1, q2, q3⟩ := hR3.blk.rules
      go_wp2_with fail
      have HS6 : Hid (Sc (w3.setCell ⟨g, 5, none⟩ (.slice A3 (op.length + 1) c3)) B g l at_ ind (40 :: op) ts vi (.slice A3 (op.length + 1) c3) vt m (.slice (some ⟨ba, off, none⟩) 43 cv)) := Lib.hid (by
        unfold Sc scCells
        rw [HL.out, HBB.out]
        exact hR3.set 5 _)
      have HB6 := Lib.hid (HB3.out.far (p := ⟨g, 5, none⟩) hbg (.slice A3 (op.length + 1) c3))
      have hb6 := hb3.setCell (p := ⟨g, 5, none⟩) hged (.slice A3 (op.length + 1) c3)
      generalize w3.setCell ⟨g, 5, none⟩ (.slice A3 (op.length + 1) c3) = w6 at HS6 HB6 hb6 ⊢
      have hs6 := HS6.out
      unfold Sc scCells at hs6
      clear q1 q2 q3 hR3
      obtain ⟨q1, q2, q3⟩ := hs6.blk.rules
      obtain ⟨r1, r2, r3⟩ := HB6.out.rules
      clear hs6
      -- the token is added, and the offset moved
      go_still_tail 6, (by kernel_rfl)
      repeat still_step
      go_wp2_with fail
      refine (add_box (ScR.drewN HS6.out 1) hl hts (below_drewN hb6 1) 8 _ at_ ha rfl rfl HB6.out.drew).mono ?_
      rintro e w4 ⟨⟨vt4, rfl, hs4, hb4⟩, hB4⟩
      have HS4 := Lib.hid hs4
      unfold Sc scCells at hs4
      have hge4 := hs4.ge
      clear q1 q2 q3 r1 r2 r3
      obtain ⟨q1, q2, q3⟩ := hs4.blk.rules
      obtain ⟨r1, r2, r3⟩ := hB4.rules
      have hle4 := HLE.out
      clear hs4 hB4
      go_wp2_with fail
      go_end0
      refine SignPost.ok (vo' := .slice A3 (op.length + 1) c3) (vt' := vt4) HR.out HBR.out rfl ?_ (hb4.setCell (p := ⟨g, 1, none⟩) hge4 _)
      have hs5 := HS4.out
      unfold Sc scCells at hs5 ⊢
      rw [HLN.out.1, HLN.out.2, HTT.out]
      exact hs5.set 1 _
    · have d40 : (t == [40]) = false := by simpa using h40
      by_cases h91 : t = [91]
      · subst h91
        have HBR : Hid (bracket op ((l.drop at_).take ([91] : List UInt8).length) = some (91 :: op)) := Lib.hid (by rw [HTT.out]; rfl)
        have hX := HS2.out
        unfold Sc scCells at hX
        obtain ⟨L, hL⟩ : ∃ L, lineAt l at_ = L := ⟨_, rfl⟩
        obtain ⟨bb, hbb⟩ : ∃ bb, bol l at_ = bb := ⟨_, rfl⟩
        rw [hL, hbb] at hX q1
        have HL := Lib.hid hL
        have HBB := Lib.hid hbb
        have HX := Lib.hid hX
        clear hX hL hbb
        go_wp2_with fail
        obtain ⟨i0, hi0, hz0, hz1, hz2⟩ := info_parts info_byte
        have m1 : op.length + 1 ≤ maxLen := by unfold maxLen; omega
        have m2 : (op.length + 1) * 1 ≤ 140737488355328 := by omega
        have G1 : ∀ (p : Held fun w' => Blk w' g 45 #[.string ⟨l.toArray⟩, .int .i64 (at_ : Int), .int .i64 L, .int .i64 (bb : Int), vi, vo, vt, .map (some m), .slice (some ⟨ba, off, none⟩) 43 cv] ∧ Blk w' w.heap.size 40 #[.pointer (some ⟨g, 0, none⟩)]) (i : Nat), p.w.cell? ⟨g, i, none⟩ = #[.string ⟨l.toArray⟩, .int .i64 (at_ : Int), .int .i64 L, .int .i64 (bb : Int), vi, vo, vt, .map (some m), .slice (some ⟨ba, off, none⟩) 43 cv][i]? := fun p i => p.h.1.cell i
        have G2 : ∀ (p : Held fun w' => Blk w' g 45 #[.string ⟨l.toArray⟩, .int .i64 (at_ : Int), .int .i64 L, .int .i64 (bb : Int), vi, vo, vt, .map (some m), .slice (some ⟨ba, off, none⟩) 43 cv] ∧ Blk w' w.heap.size 40 #[.pointer (some ⟨g, 0, none⟩)]) (i : Nat), p.w.cell? ⟨w.heap.size, i, none⟩ = #[.pointer (some ⟨g, 0, none⟩)][i]? := fun p i => p.h.2.cell i
        refine wp_region_steady_tail 7 9 (by kernel_rfl) (by kernel_rfl) (fun w' => ∃ p : Held fun w' => Blk w' g 45 #[.string ⟨l.toArray⟩, .int .i64 (at_ : Int), .int .i64 L, .int .i64 (bb : Int), vi, vo, vt, .map (some m), .slice (some ⟨ba, off, none⟩) 43 cv] ∧ Blk w' w.heap.size 40 #[.pointer (some ⟨g, 0, none⟩)], w' = p.w) (isHeld_mk ⟨HX.out.blk.drew, HBx.out.drew⟩) (fun c a d v w h => by cases d <;> exact h) ?_
        simp only [List.take_succ_cons, List.take_zero, List.drop_succ_cons, List.drop_zero]
        repeat (refine wpSteady_step (fun K hK => ?_)
                go_simp
                first
                  | (refine ⟨_, fun _ => rfl, hK _ ?_⟩; clear hK K)
                  | (refine hK _ ?_; clear hK K))
        refine wpSteady_nil ?_
        have HXd : Hid (ScR w2.drew B g #[.string ⟨l.toArray⟩, .int .i64 (at_ : Int), .int .i64 L, .int .i64 (bb : Int), vi, vo, vt, .map (some m), .slice (some ⟨ba, off, none⟩) 43 cv] ind op ts vi vo vt m (.slice (some ⟨ba, off, none⟩) 43 cv)) := Lib.hid (HX.out.drewN 1)
        have HBd : Hid (Blk w2.drew w.heap.size 40 #[.pointer (some ⟨g, 0, none⟩)]) := Lib.hid HBx.out.drew
        have hbd := hb2.drew
        have hgd : g < w2.drew.heap.size := q3
        generalize w2.drew = wd at HXd HBd hbd hgd ⊢
        have hged := HXd.out.ge
        refine tailM_one ?_
        go_wp2_with fail
        refine thenC_mk (isHeld_mk ⟨(HXd.out.alloc _).blk, HBd.out.alloc _⟩) ?_
        refine tailM_one ?_
        go_wp2_with (at_builtin
                     refine wpList_append_row _ rfl (.tmp 35) (.tmp 38) 43 rfl B 5 i0 (.int .u8 0) 1 1 Tryd.underlying43 hi0 hz0 hz1 hz2 rfl (by decide) vo op.length (bytc op.reverse) rfl (HXd.out.oo.alloc _) (some ⟨wd.heap.size, 0, none⟩) 1 1 [.int .u8 91] rfl rfl (Row.new wd #[.int .u8 91] 5) (by simp [Value.oneCell']) m1 m2 (by simp; omega) ?_
                     intro v3 w3 hown3 hg3 hat3
                     have hR3 := (HXd.out.alloc (.cells #[.int .u8 91] 5)).growO hg3 (op' := 91 :: op) (by rw [bytc_rev]; exact hown3)
                     obtain ⟨A3, c3, rfl, _, _⟩ := own_form hown3)
        have HB3 := Lib.hid ((HBd.out.alloc (.cells #[.int .u8 91] 5)).grown hg3 (fun e => own_blk_ne (HXd.out.oo.alloc (.cells #[.int .u8 91] 5)) (HBd.out.alloc _) (by decide) e.symm))
        refine thenC_mk (isHeld_mk ⟨hR3.blk, HB3.out⟩) ?_
        refine tailM_zero ?_
        have hb3 := (hbd.alloc (by omega) (.cells #[.int .u8 91] 5)).grown hg3 (by simp; omega) (fun g' e => (HXd.out.oo.lt g' e).1)
        have hbg := HB3.out.ne_ hR3.blk (by decide)
        clear hg3 hown3 hat3 G1 G2 q1 q2 q3 r1 r2 r3
        obtain ⟨q1, q2, q3⟩ := hR3.blk.rules
        go_wp2_with fail
        have HS6 : Hid (Sc (w3.setCell ⟨g, 5, none⟩ (.slice A3 (op.length + 1) c3)) B g l at_ ind (91 :: op) ts vi (.slice A3 (op.length + 1) c3) vt m (.slice (some ⟨ba, off, none⟩) 43 cv)) := Lib.hid (by
          unfold Sc scCells
          rw [HL.out, HBB.out]
          exact hR3.set 5 _)
        have HB6 := Lib.hid (HB3.out.far (p := ⟨g, 5, none⟩) hbg (.slice A3 (op.length + 1) c3))
        have hb6 := hb3.setCell (p := ⟨g, 5, none⟩) hged (.slice A3 (op.length + 1) c3)
        generalize w3.setCell ⟨g, 5, none⟩ (.slice A3 (op.length + 1) c3) = w6 at HS6 HB6 hb6 ⊢
        have hs6 := HS6.out
        unfold Sc scCells at hs6
        clear q1 q2 q3 hR3
        obtain ⟨q1, q2, q3⟩ := hs6.blk.rules
        obtain ⟨r1, r2, r3⟩ := HB6.out.rules
        clear hs6
        -- the token is added, and the offset moved
        go_still_tail 6, (by kernel_rfl)
        repeat still_step
        go_wp2_with fail
        refine (add_box (ScR.drewN HS6.out 1) hl hts (below_drewN hb6 1) 8 _ at_ ha rfl rfl HB6.out.drew).mono ?_
        rintro e w4 ⟨⟨vt4, rfl, hs4, hb4⟩, hB4⟩
        have HS4 := Lib.hid hs4
        unfold Sc scCells at hs4
        have hge4 := hs4.ge
        clear q1 q2 q3 r1 r2 r3
        obtain ⟨q1, q2, q3⟩ := hs4.blk.rules
        obtain ⟨r1, r2, r3⟩ := hB4.rules
        have hle4 := HLE.out
        clear hs4 hB4
        go_wp2_with fail
        go_end0
        refine SignPost.ok (vo' := .slice A3 (op.length + 1) c3) (vt' := vt4) HR.out HBR.out rfl ?_ (hb4.setCell (p := ⟨g, 1, none⟩) hge4 _)
        have hs5 := HS4.out
        unfold Sc scCells at hs5 ⊢
        rw [HLN.out.1, HLN.out.2, HTT.out]
        exact hs5.set 1 _
      · have d91 : (t == [91]) = false := by simpa using h91
        by_cases h123 : t = [123]
        · subst h123
          have HBR : Hid (bracket op ((l.drop at_).take ([123] : List UInt8).length) = some (123 :: op)) := Lib.hid (by rw [HTT.out]; rfl)
          have hX := HS2.out
          unfold Sc scCells at hX
          obtain ⟨L, hL⟩ : ∃ L, lineAt l at_ = L := ⟨_, rfl⟩
          obtain ⟨bb, hbb⟩ : ∃ bb, bol l at_ = bb := ⟨_, rfl⟩
          rw [hL, hbb] at hX q1
          have HL := Lib.hid hL
          have HBB := Lib.hid hbb
          have HX := Lib.hid hX
          clear hX hL hbb
          go_wp2_with fail
          obtain ⟨i0, hi0, hz0, hz1, hz2⟩ := info_parts info_byte
          have m1 : op.length + 1 ≤ maxLen := by unfold maxLen; omega
          have m2 : (op.length + 1) * 1 ≤ 140737488355328 := by omega
          have G1 : ∀ (p : Held fun w' => Blk w' g 45 #[.string ⟨l.toArray⟩, .int .i64 (at_ : Int), .int .i64 L, .int .i64 (bb : Int), vi, vo, vt, .map (some m), .slice (some ⟨ba, off, none⟩) 43 cv] ∧ Blk w' w.heap.size 40 #[.pointer (some ⟨g, 0, none⟩)]) (i : Nat), p.w.cell? ⟨g, i, none⟩ = #[.string ⟨l.toArray⟩, .int .i64 (at_ : Int), .int .i64 L, .int .i64 (bb : Int), vi, vo, vt, .map (some m), .slice (some ⟨ba, off, none⟩) 43 cv][i]? := fun p i => p.h.1.cell i
          have G2 : ∀ (p : Held fun w' => Blk w' g 45 #[.string ⟨l.toArray⟩, .int .i64 (at_ : Int), .int .i64 L, .int .i64 (bb : Int), vi, vo, vt, .map (some m), .slice (some ⟨ba, off, none⟩) 43 cv] ∧ Blk w' w.heap.size 40 #[.pointer (some ⟨g, 0, none⟩)]) (i : Nat), p.w.cell? ⟨w.heap.size, i, none⟩ = #[.pointer (some ⟨g, 0, none⟩)][i]? := fun p i => p.h.2.cell i
          refine wp_region_steady_tail 7 9 (by kernel_rfl) (by kernel_rfl) (fun w' => ∃ p : Held fun w' => Blk w' g 45 #[.string ⟨l.toArray⟩, .int .i64 (at_ : Int), .int .i64 L, .int .i64 (bb : Int), vi, vo, vt, .map (some m), .slice (some ⟨ba, off, none⟩) 43 cv] ∧ Blk w' w.heap.size 40 #[.pointer (some ⟨g, 0, none⟩)], w' = p.w) (isHeld_mk ⟨HX.out.blk.drew, HBx.out.drew⟩) (fun c a d v w h => by cases d <;> exact h) ?_
          simp only [List.take_succ_cons, List.take_zero, List.drop_succ_cons, List.drop_zero]
          repeat (refine wpSteady_step (fun K hK => ?_)
                  go_simp
                  first
                    | (refine ⟨_, fun _ => rfl, hK _ ?_⟩; clear hK K)
                    | (refine hK _ ?_; clear hK K))
          refine wpSteady_nil ?_
          have HXd : Hid (ScR w2.drew B g #[.string ⟨l.toArray⟩, .int .i64 (at_ : Int), .int .i64 L, .int .i64 (bb : Int), vi, vo, vt, .map (some m), .slice (some ⟨ba, off, none⟩) 43 cv] ind op ts vi vo vt m (.slice (some ⟨ba, off, none⟩) 43 cv)) := Lib.hid (HX.out.drewN 1)
          have HBd : Hid (Blk w2.drew w.heap.size 40 #[.pointer (some ⟨g, 0, none⟩)]) := Lib.hid HBx.out.drew
          have hbd := hb2.drew
          have hgd : g < w2.drew.heap.size := q3
          generalize w2.drew = wd at HXd HBd hbd hgd ⊢
          have hged := HXd.out.ge
          refine tailM_one ?_
          go_wp2_with fail
          refine thenC_mk (isHeld_mk ⟨(HXd.out.alloc _).blk, HBd.out.alloc _⟩) ?_
          refine tailM_one ?_
          go_wp2_with (at_builtin
                       refine wpList_append_row _ rfl (.tmp 35) (.tmp 38) 43 rfl B 5 i0 (.int .u8 0) 1 1 Tryd.underlying43 hi0 hz0 hz1 hz2 rfl (by decide) vo op.length (bytc op.reverse) rfl (HXd.out.oo.alloc _) (some ⟨wd.heap.size, 0, none⟩) 1 1 [.int .u8 123] rfl rfl (Row.new wd #[.int .u8 123] 5) (by simp [Value.oneCell']) m1 m2 (by simp; omega) ?_
                       intro v3 w3 hown3 hg3 hat3
                       have hR3 := (HXd.out.alloc (.cells #[.int .u8 123] 5)).growO hg3 (op' := 123 :: op) (by rw [bytc_rev]; exact hown3)
                       obtain ⟨A3, c3, rfl, _, _⟩ := own_form hown3)
          have HB3 := Lib.hid ((HBd.out.alloc (.cells #[.int .u8 123] 5)).grown hg3 (fun e => own_blk_ne (HXd.out.oo.alloc (.cells #[.int .u8 123] 5)) (HBd.out.alloc _) (by decide) e.symm))
          refine thenC_mk (isHeld_mk ⟨hR3.blk, HB3.out⟩) ?_
          refine tailM_zero ?_
          have hb3 := (hbd.alloc (by omega) (.cells #[.int .u8 123] 5)).grown hg3 (by simp; omega) (fun g' e => (HXd.out.oo.lt g' e).1)
          have hbg := HB3.out.ne_ hR3.blk (by decide)
          clear hg3 hown3 hat3 G1 G2 q1 q2 q3 r1 r2 r3
          obtain ⟨q1, q2, q3⟩ := hR3.blk.rules
          go_wp2_with fail
          have HS6 : Hid (Sc (w3.setCell ⟨g, 5, none⟩ (.slice A3 (op.length + 1) c3)) B g l at_ ind (123 :: op) ts vi (.slice A3 (op.length + 1) c3) vt m (.slice (some ⟨ba, off, none⟩) 43 cv)) := Lib.hid (by
            unfold Sc scCells
            rw [HL.out, HBB.out]
            exact hR3.set 5 _)
          have HB6 := Lib.hid (HB3.out.far (p := ⟨g, 5, none⟩) hbg (.slice A3 (op.length + 1) c3))
          have hb6 := hb3.setCell (p := ⟨g, 5, none⟩) hged (.slice A3 (op.length + 1) c3)
          generalize w3.setCell ⟨g, 5, none⟩ (.slice A3 (op.length + 1) c3) = w6 at HS6 HB6 hb6 ⊢
          have hs6 := HS6.out
          unfold Sc scCells at hs6
          clear q1 q2 q3 hR3
          obtain ⟨q1, q2, q3⟩ := hs6.blk.rules
          obtain ⟨r1, r2, r3⟩ := HB6.out.rules
          clear hs6
          -- the token is added, and the offset moved
          go_still_tail 6, (by kernel_rfl)
          repeat still_step
          go_wp2_with fail
          refine (add_box (ScR.drewN HS6.out 1) hl hts (below_drewN hb6 1) 8 _ at_ ha rfl rfl HB6.out.drew).mono ?_
          rintro e w4 ⟨⟨vt4, rfl, hs4, hb4⟩, hB4⟩
          have HS4 := Lib.hid hs4
          unfold Sc scCells at hs4
          have hge4 := hs4.ge
          clear q1 q2 q3 r1 r2 r3
          obtain ⟨q1, q2, q3⟩ := hs4.blk.rules
          obtain ⟨r1, r2, r3⟩ := hB4.rules
          have hle4 := HLE.out
          clear hs4 hB4
          go_wp2_with fail
          go_end0
          refine SignPost.ok (vo' := .slice A3 (op.length + 1) c3) (vt' := vt4) HR.out HBR.out rfl ?_ (hb4.setCell (p := ⟨g, 1, none⟩) hge4 _)
          have hs5 := HS4.out
          unfold Sc scCells at hs5 ⊢
          rw [HLN.out.1, HLN.out.2, HTT.out]
          exact hs5.set 1 _
        · have d123 : (t == [123]) = false := by simpa using h123
          by_cases h41 : t = [41]
          · subst h41
            cases op with
            | nil =>
              have HBR : Hid (bracket [] ((l.drop at_).take ([41] : List UInt8).length) = none) := Lib.hid (by rw [HTT.out]; rfl)
              obtain ⟨Ao, co, rfl, _, _⟩ := own_form HS2.out.oo
              go_wp2_with fail
              go_quiet (fail)
              have HSq : Hid (Sc (w2.drewN nq) B g l at_ ind [] ts vi (.slice Ao ([] : List UInt8).length co) vt m (.slice (some ⟨ba, off, none⟩) 43 cv)) := Lib.hid (ScR.drewN HS2.out nq)
              have HBq := Lib.hid (HBx.out.drewN nq)
              have hbq := below_drewN hb2 nq
              generalize w2.drewN nq = wq at HSq HBq hbq ⊢
              clear q1 q2 q3 r1 r2 r3
              have hsq := HSq.out
              unfold Sc scCells at hsq
              obtain ⟨q1, q2, q3⟩ := hsq.blk.rules
              obtain ⟨r1, r2, r3⟩ := HBq.out.rules
              clear hsq
              go_wp2_with fail
              go_still_tail 5, (by kernel_rfl)
              repeat still_step
              go_wp2_with fail
              refine (fail_any _ _ _ _).mono ?_
              rintro e w3 ⟨rfl, rfl⟩
              go_wp2_with fail
              exact ⟨rfl, SignPost.bad HR.out HBR.out rfl hbq.drew⟩
            | cons c op =>
              obtain ⟨gg, cap, rfl, hpop, hle1, hle2⟩ := ScR.popO HS2.out
              obtain ⟨b0, o0, e0, hb0, hc0⟩ := (Row.of_own HS2.out.oo).at_ (k := op.length) (by rw [bytc_rev, List.length_append, bytc_len]; simp)
              injection e0 with e0
              injection e0 with e1 e2 e3
              subst e1 e2
              have hcc : w2.cell? ⟨gg, 0 + op.length, none⟩ = some (.int .u8 (c.toNat : Int)) := hc0 op.length _ (by rw [bytc_rev, List.getElem?_append_right (by rw [bytc_len]; simp), bytc_len]; simp)
              have hopl : op.length + 1 ≤ 1000000 := by simpa using hop
              have HPOP := Lib.hid hpop
              rw [Nat.zero_add] at hcc
              have n1 : IntKind.i64.wrap ((op.length : Int) + 1 - 1) = (op.length : Int) := by rw [show (op.length : Int) + 1 - 1 = (op.length : Int) by omega]; exact IntWalk.i64_in _ (by omega)
              have n2 : IntKind.i64.wrap (op.length : Int) = (op.length : Int) := IntWalk.i64_in _ (by omega)
              have hq0 : ((op.length : Int) + 1 == 0) = false := by rw [beq_eq_false_iff_ne]; omega
              have HI2 := Lib.hid (ib_close 41 0 rfl)
              have HOP := Lib.hid hop
              have HCC := Lib.hid hcc
              clear hpop hc0 hop e3 hcc
              by_cases hc : c = 40
              · subst hc
                have HI1 : Hid (∀ W : World, Calls Tryd.prog 42 #[.string ⟨#[40, 91, 123]⟩, .int .u8 40] W fun e w' => e = .returned (.int .i64 0) ∧ W = w') := Lib.hid (fun W => ib_calls 40 W)
                have HBR : Hid (bracket (40 :: op) ((l.drop at_).take ([41] : List UInt8).length) = some op) := Lib.hid (by rw [HTT.out]; rfl)
                have hcc := HCC.out
                go_wp2_with fail
                go_quiet ((go_at_call 42; (first | exact quiet_left (HI1.out _) | exact quiet_left (HI2.out _))))
                have HSq : Hid (Sc (w2.drewN nq) B g l at_ ind (40 :: op) ts vi (.slice (some ⟨gg, 0, none⟩) (op.length + 1) cap) vt m (.slice (some ⟨ba, off, none⟩) 43 cv)) := Lib.hid (ScR.drewN HS2.out nq)
                have HBq := Lib.hid (HBx.out.drewN nq)
                have hbq := below_drewN hb2 nq
                generalize w2.drewN nq = wq at HSq HBq hbq ⊢
                clear q1 q2 q3 r1 r2 r3
                have hsq := HSq.out
                unfold Sc scCells at hsq
                obtain ⟨q1, q2, q3⟩ := hsq.blk.rules
                obtain ⟨r1, r2, r3⟩ := HBq.out.rules
                clear hsq
                have HPq : Hid (ScR wq B g (scCells l at_ vi (.slice (some ⟨gg, 0, none⟩) (op.length + 1) cap) vt m (.slice (some ⟨ba, off, none⟩) 43 cv)) ind op ts vi (.slice (some ⟨gg, 0, none⟩) op.length cap) vt m (.slice (some ⟨ba, off, none⟩) 43 cv)) := Lib.hid (by
                  obtain ⟨gg2, cap2, e2, hp2, _⟩ := ScR.popO HSq.out
                  injection e2 with e2 _ e3
                  injection e2 with e2
                  injection e2 with e2
                  subst e2 e3
                  exact hp2)
                have hX := HPq.out
                unfold scCells at hX
                obtain ⟨L, hL⟩ : ∃ L, lineAt l at_ = L := ⟨_, rfl⟩
                obtain ⟨bb, hbb⟩ : ∃ bb, bol l at_ = bb := ⟨_, rfl⟩
                rw [hL, hbb] at hX q1
                have HL := Lib.hid hL
                have HBB := Lib.hid hbb
                have HX := Lib.hid hX
                clear hX hL hbb
                go_wp2_with fail
                have hcap1 : (op.length : Int) ≤ (cap : Int) := by omega
                have hcap0 : (0 : Int) ≤ (op.length : Int) := by omega
                have G1 : ∀ (p : Held fun w' => Blk w' g 45 #[.string ⟨l.toArray⟩, .int .i64 (at_ : Int), .int .i64 L, .int .i64 (bb : Int), vi, .slice (some ⟨gg, 0, none⟩) (op.length + 1) cap, vt, .map (some m), .slice (some ⟨ba, off, none⟩) 43 cv] ∧ Blk w' w.heap.size 40 #[.pointer (some ⟨g, 0, none⟩)]) (i : Nat), p.w.cell? ⟨g, i, none⟩ = #[.string ⟨l.toArray⟩, .int .i64 (at_ : Int), .int .i64 L, .int .i64 (bb : Int), vi, .slice (some ⟨gg, 0, none⟩) (op.length + 1) cap, vt, .map (some m), .slice (some ⟨ba, off, none⟩) 43 cv][i]? := fun p i => p.h.1.cell i
                have G2 : ∀ (p : Held fun w' => Blk w' g 45 #[.string ⟨l.toArray⟩, .int .i64 (at_ : Int), .int .i64 L, .int .i64 (bb : Int), vi, .slice (some ⟨gg, 0, none⟩) (op.length + 1) cap, vt, .map (some m), .slice (some ⟨ba, off, none⟩) 43 cv] ∧ Blk w' w.heap.size 40 #[.pointer (some ⟨g, 0, none⟩)]) (i : Nat), p.w.cell? ⟨w.heap.size, i, none⟩ = #[.pointer (some ⟨g, 0, none⟩)][i]? := fun p i => p.h.2.cell i
                refine wp_region_steady_tail 8 8 (by kernel_rfl) (by kernel_rfl) (fun w' => ∃ p : Held fun w' => Blk w' g 45 #[.string ⟨l.toArray⟩, .int .i64 (at_ : Int), .int .i64 L, .int .i64 (bb : Int), vi, .slice (some ⟨gg, 0, none⟩) (op.length + 1) cap, vt, .map (some m), .slice (some ⟨ba, off, none⟩) 43 cv] ∧ Blk w' w.heap.size 40 #[.pointer (some ⟨g, 0, none⟩)], w' = p.w) (isHeld_mk ⟨HX.out.blk.drew, HBq.out.drew⟩) (fun c a d v w h => by cases d <;> exact h) ?_
                simp only [List.take_succ_cons, List.take_zero, List.drop_succ_cons, List.drop_zero]
                repeat (refine wpSteady_step (fun K hK => ?_)
                        go_simp
                        first
                          | (refine ⟨_, fun _ => rfl, hK _ ?_⟩; clear hK K)
                          | (refine hK _ ?_; clear hK K))
                refine wpSteady_nil ?_
                refine tailM_zero ?_
                have HXd : Hid (ScR wq.drew B g #[.string ⟨l.toArray⟩, .int .i64 (at_ : Int), .int .i64 L, .int .i64 (bb : Int), vi, .slice (some ⟨gg, 0, none⟩) (op.length + 1) cap, vt, .map (some m), .slice (some ⟨ba, off, none⟩) 43 cv] ind op ts vi (.slice (some ⟨gg, 0, none⟩) op.length cap) vt m (.slice (some ⟨ba, off, none⟩) 43 cv)) := Lib.hid (HX.out.drewN 1)
                have HBd : Hid (Blk wq.drew w.heap.size 40 #[.pointer (some ⟨g, 0, none⟩)]) := Lib.hid HBq.out.drew
                have hbd := hbq.drew
                generalize wq.drew = wd at HXd HBd hbd ⊢
                have hged := HXd.out.ge
                have hbg := HBd.out.ne_ HXd.out.blk (by decide)
                clear G1 G2 q1 q2 q3 r1 r2 r3
                obtain ⟨q1, q2, q3⟩ := HXd.out.blk.rules
                go_wp2_with fail
                have HS6 : Hid (Sc (wd.setCell ⟨g, 5, none⟩ (.slice (some ⟨gg, 0, none⟩) op.length cap)) B g l at_ ind op ts vi (.slice (some ⟨gg, 0, none⟩) op.length cap) vt m (.slice (some ⟨ba, off, none⟩) 43 cv)) := Lib.hid (by
                  unfold Sc scCells
                  rw [HL.out, HBB.out]
                  exact HXd.out.set 5 _)
                have HB6 := Lib.hid (HBd.out.far (p := ⟨g, 5, none⟩) hbg (.slice (some ⟨gg, 0, none⟩) op.length cap))
                have hb6 := hbd.setCell (p := ⟨g, 5, none⟩) hged (.slice (some ⟨gg, 0, none⟩) op.length cap)
                generalize wd.setCell ⟨g, 5, none⟩ (.slice (some ⟨gg, 0, none⟩) op.length cap) = w6 at HS6 HB6 hb6 ⊢
                have hs6 := HS6.out
                unfold Sc scCells at hs6
                clear q1 q2 q3
                obtain ⟨q1, q2, q3⟩ := hs6.blk.rules
                obtain ⟨r1, r2, r3⟩ := HB6.out.rules
                clear hs6
                -- the token is added, and the offset moved
                go_still_tail 6, (by kernel_rfl)
                repeat still_step
                go_wp2_with fail
                refine (add_box (ScR.drewN HS6.out 1) hl hts (below_drewN hb6 1) 8 _ at_ ha rfl rfl HB6.out.drew).mono ?_
                rintro e w4 ⟨⟨vt4, rfl, hs4, hb4⟩, hB4⟩
                have HS4 := Lib.hid hs4
                unfold Sc scCells at hs4
                have hge4 := hs4.ge
                clear q1 q2 q3 r1 r2 r3
                obtain ⟨q1, q2, q3⟩ := hs4.blk.rules
                obtain ⟨r1, r2, r3⟩ := hB4.rules
                have hle4 := HLE.out
                clear hs4 hB4
                go_wp2_with fail
                go_end0
                refine SignPost.ok (vo' := .slice (some ⟨gg, 0, none⟩) op.length cap) (vt' := vt4) HR.out HBR.out rfl ?_ (hb4.setCell (p := ⟨g, 1, none⟩) hge4 _)
                have hs5 := HS4.out
                unfold Sc scCells at hs5 ⊢
                rw [HLN.out.1, HLN.out.2, HTT.out]
                exact hs5.set 1 _
              · have hv : ((if c = 40 then (0 : Int) else if c = 91 then 1 else if c = 123 then 2 else -1) != 0) = true := by
                  by_cases c1 : c = 40
                  · subst c1; first | contradiction | decide
                  · by_cases c2 : c = 91
                    · subst c2; first | contradiction | decide
                    · by_cases c3 : c = 123
                      · subst c3; first | contradiction | decide
                      · rw [if_neg c1, if_neg c2, if_neg c3]; decide
                have HI1 := Lib.hid (fun W => (ib_calls c W))
                have HBR : Hid (bracket (c :: op) ((l.drop at_).take ([41] : List UInt8).length) = none) := Lib.hid (by
                  rw [HTT.out]
                  have : (some c = some (40 : UInt8)) ↔ False := by simpa using hc
                  simp [bracket, this])
                have hcc := HCC.out
                generalize (if c = 40 then (0 : Int) else if c = 91 then 1 else if c = 123 then 2 else -1) = v at HI1 hv
                clear hc
                go_wp2_with fail
                go_quiet ((go_at_call 42; (first | exact quiet_left (HI1.out _) | exact quiet_left (HI2.out _))))
                have HSq : Hid (Sc (w2.drewN nq) B g l at_ ind (c :: op) ts vi (.slice (some ⟨gg, 0, none⟩) (op.length + 1) cap) vt m (.slice (some ⟨ba, off, none⟩) 43 cv)) := Lib.hid (ScR.drewN HS2.out nq)
                have HBq := Lib.hid (HBx.out.drewN nq)
                have hbq := below_drewN hb2 nq
                generalize w2.drewN nq = wq at HSq HBq hbq ⊢
                clear q1 q2 q3 r1 r2 r3
                have hsq := HSq.out
                unfold Sc scCells at hsq
                obtain ⟨q1, q2, q3⟩ := hsq.blk.rules
                obtain ⟨r1, r2, r3⟩ := HBq.out.rules
                clear hsq
                go_wp2_with fail
                go_still_tail 5, (by kernel_rfl)
                repeat still_step
                go_wp2_with fail
                refine (fail_any _ _ _ _).mono ?_
                rintro e w3 ⟨rfl, rfl⟩
                go_wp2_with fail
                exact ⟨rfl, SignPost.bad HR.out HBR.out rfl hbq.drew⟩
          · have d41 : (t == [41]) = false := by simpa using h41
            by_cases h93 : t = [93]
            · subst h93
              cases op with
              | nil =>
                have HBR : Hid (bracket [] ((l.drop at_).take ([93] : List UInt8).length) = none) := Lib.hid (by rw [HTT.out]; rfl)
                obtain ⟨Ao, co, rfl, _, _⟩ := own_form HS2.out.oo
                go_wp2_with fail
                go_quiet (fail)
                have HSq : Hid (Sc (w2.drewN nq) B g l at_ ind [] ts vi (.slice Ao ([] : List UInt8).length co) vt m (.slice (some ⟨ba, off, none⟩) 43 cv)) := Lib.hid (ScR.drewN HS2.out nq)
                have HBq := Lib.hid (HBx.out.drewN nq)
                have hbq := below_drewN hb2 nq
                generalize w2.drewN nq = wq at HSq HBq hbq ⊢
                clear q1 q2 q3 r1 r2 r3
                have hsq := HSq.out
                unfold Sc scCells at hsq
                obtain ⟨q1, q2, q3⟩ := hsq.blk.rules
                obtain ⟨r1, r2, r3⟩ := HBq.out.rules
                clear hsq
                go_wp2_with fail
                go_still_tail 5, (by kernel_rfl)
                repeat still_step
                go_wp2_with fail
                refine (fail_any _ _ _ _).mono ?_
                rintro e w3 ⟨rfl, rfl⟩
                go_wp2_with fail
                exact ⟨rfl, SignPost.bad HR.out HBR.out rfl hbq.drew⟩
              | cons c op =>
                obtain ⟨gg, cap, rfl, hpop, hle1, hle2⟩ := ScR.popO HS2.out
                obtain ⟨b0, o0, e0, hb0, hc0⟩ := (Row.of_own HS2.out.oo).at_ (k := op.length) (by rw [bytc_rev, List.length_append, bytc_len]; simp)
                injection e0 with e0
                injection e0 with e1 e2 e3
                subst e1 e2
                have hcc : w2.cell? ⟨gg, 0 + op.length, none⟩ = some (.int .u8 (c.toNat : Int)) := hc0 op.length _ (by rw [bytc_rev, List.getElem?_append_right (by rw [bytc_len]; simp), bytc_len]; simp)
                have hopl : op.length + 1 ≤ 1000000 := by simpa using hop
                have HPOP := Lib.hid hpop
                rw [Nat.zero_add] at hcc
                have n1 : IntKind.i64.wrap ((op.length : Int) + 1 - 1) = (op.length : Int) := by rw [show (op.length : Int) + 1 - 1 = (op.length : Int) by omega]; exact IntWalk.i64_in _ (by omega)
                have n2 : IntKind.i64.wrap (op.length : Int) = (op.length : Int) := IntWalk.i64_in _ (by omega)
                have hq0 : ((op.length : Int) + 1 == 0) = false := by rw [beq_eq_false_iff_ne]; omega
                have HI2 := Lib.hid (ib_close 93 1 rfl)
                have HOP := Lib.hid hop
                have HCC := Lib.hid hcc
                clear hpop hc0 hop e3 hcc
                by_cases hc : c = 91
                · subst hc
                  have HI1 : Hid (∀ W : World, Calls Tryd.prog 42 #[.string ⟨#[40, 91, 123]⟩, .int .u8 91] W fun e w' => e = .returned (.int .i64 1) ∧ W = w') := Lib.hid (fun W => ib_calls 91 W)
                  have HBR : Hid (bracket (91 :: op) ((l.drop at_).take ([93] : List UInt8).length) = some op) := Lib.hid (by rw [HTT.out]; rfl)
                  have hcc := HCC.out
                  go_wp2_with fail
                  go_quiet ((go_at_call 42; (first | exact quiet_left (HI1.out _) | exact quiet_left (HI2.out _))))
                  have HSq : Hid (Sc (w2.drewN nq) B g l at_ ind (91 :: op) ts vi (.slice (some ⟨gg, 0, none⟩) (op.length + 1) cap) vt m (.slice (some ⟨ba, off, none⟩) 43 cv)) := Lib.hid (ScR.drewN HS2.out nq)
                  have HBq := Lib.hid (HBx.out.drewN nq)
                  have hbq := below_drewN hb2 nq
                  generalize w2.drewN nq = wq at HSq HBq hbq ⊢
                  clear q1 q2 q3 r1 r2 r3
                  have hsq := HSq.out
                  unfold Sc scCells at hsq
                  obtain ⟨q1, q2, q3⟩ := hsq.blk.rules
                  obtain ⟨r1, r2, r3⟩ := HBq.out.rules
                  clear hsq
                  have HPq : Hid (ScR wq B g (scCells l at_ vi (.slice (some ⟨gg, 0, none⟩) (op.length + 1) cap) vt m (.slice (some ⟨ba, off, none⟩) 43 cv)) ind op ts vi (.slice (some ⟨gg, 0, none⟩) op.length cap) vt m (.slice (some ⟨ba, off, none⟩) 43 cv)) := Lib.hid (by
                    obtain ⟨gg2, cap2, e2, hp2, _⟩ := ScR.popO HSq.out
                    injection e2 with e2 _ e3
                    injection e2 with e2
                    injection e2 with e2
                    subst e2 e3
                    exact hp2)
                  have hX := HPq.out
                  unfold scCells at hX
                  obtain ⟨L, hL⟩ : ∃ L, lineAt l at_ = L := ⟨_, rfl⟩
                  obtain ⟨bb, hbb⟩ : ∃ bb, bol l at_ = bb := ⟨_, rfl⟩
                  rw [hL, hbb] at hX q1
                  have HL := Lib.hid hL
                  have HBB := Lib.hid hbb
                  have HX := Lib.hid hX
                  clear hX hL hbb
                  go_wp2_with fail
                  have hcap1 : (op.length : Int) ≤ (cap : Int) := by omega
                  have hcap0 : (0 : Int) ≤ (op.length : Int) := by omega
                  have G1 : ∀ (p : Held fun w' => Blk w' g 45 #[.string ⟨l.toArray⟩, .int .i64 (at_ : Int), .int .i64 L, .int .i64 (bb : Int), vi, .slice (some ⟨gg, 0, none⟩) (op.length + 1) cap, vt, .map (some m), .slice (some ⟨ba, off, none⟩) 43 cv] ∧ Blk w' w.heap.size 40 #[.pointer (some ⟨g, 0, none⟩)]) (i : Nat), p.w.cell? ⟨g, i, none⟩ = #[.string ⟨l.toArray⟩, .int .i64 (at_ : Int), .int .i64 L, .int .i64 (bb : Int), vi, .slice (some ⟨gg, 0, none⟩) (op.length + 1) cap, vt, .map (some m), .slice (some ⟨ba, off, none⟩) 43 cv][i]? := fun p i => p.h.1.cell i
                  have G2 : ∀ (p : Held fun w' => Blk w' g 45 #[.string ⟨l.toArray⟩, .int .i64 (at_ : Int), .int .i64 L, .int .i64 (bb : Int), vi, .slice (some ⟨gg, 0, none⟩) (op.length + 1) cap, vt, .map (some m), .slice (some ⟨ba, off, none⟩) 43 cv] ∧ Blk w' w.heap.size 40 #[.pointer (some ⟨g, 0, none⟩)]) (i : Nat), p.w.cell? ⟨w.heap.size, i, none⟩ = #[.pointer (some ⟨g, 0, none⟩)][i]? := fun p i => p.h.2.cell i
                  refine wp_region_steady_tail 8 8 (by kernel_rfl) (by kernel_rfl) (fun w' => ∃ p : Held fun w' => Blk w' g 45 #[.string ⟨l.toArray⟩, .int .i64 (at_ : Int), .int .i64 L, .int .i64 (bb : Int), vi, .slice (some ⟨gg, 0, none⟩) (op.length + 1) cap, vt, .map (some m), .slice (some ⟨ba, off, none⟩) 43 cv] ∧ Blk w' w.heap.size 40 #[.pointer (some ⟨g, 0, none⟩)], w' = p.w) (isHeld_mk ⟨HX.out.blk.drew, HBq.out.drew⟩) (fun c a d v w h => by cases d <;> exact h) ?_
                  simp only [List.take_succ_cons, List.take_zero, List.drop_succ_cons, List.drop_zero]
                  repeat (refine wpSteady_step (fun K hK => ?_)
                          go_simp
                          first
                            | (refine ⟨_, fun _ => rfl, hK _ ?_⟩; clear hK K)
                            | (refine hK _ ?_; clear hK K))
                  refine wpSteady_nil ?_
                  refine tailM_zero ?_
                  have HXd : Hid (ScR wq.drew B g #[.string ⟨l.toArray⟩, .int .i64 (at_ : Int), .int .i64 L, .int .i64 (bb : Int), vi, .slice (some ⟨gg, 0, none⟩) (op.length + 1) cap, vt, .map (some m), .slice (some ⟨ba, off, none⟩) 43 cv] ind op ts vi (.slice (some ⟨gg, 0, none⟩) op.length cap) vt m (.slice (some ⟨ba, off, none⟩) 43 cv)) := Lib.hid (HX.out.drewN 1)
                  have HBd : Hid (Blk wq.drew w.heap.size 40 #[.pointer (some ⟨g, 0, none⟩)]) := Lib.hid HBq.out.drew
                  have hbd := hbq.drew
                  generalize wq.drew = wd at HXd HBd hbd ⊢
                  have hged := HXd.out.ge
                  have hbg := HBd.out.ne_ HXd.out.blk (by decide)
                  clear G1 G2 q1 q2 q3 r1 r2 r3
                  obtain ⟨q1, q2, q3⟩ := HXd.out.blk.rules
                  go_wp2_with fail
                  have HS6 : Hid (Sc (wd.setCell ⟨g, 5, none⟩ (.slice (some ⟨gg, 0, none⟩) op.length cap)) B g l at_ ind op ts vi (.slice (some ⟨gg, 0, none⟩) op.length cap) vt m (.slice (some ⟨ba, off, none⟩) 43 cv)) := Lib.hid (by
                    unfold Sc scCells
                    rw [HL.out, HBB.out]
                    exact HXd.out.set 5 _)
                  have HB6 := Lib.hid (HBd.out.far (p := ⟨g, 5, none⟩) hbg (.slice (some ⟨gg, 0, none⟩) op.length cap))
                  have hb6 := hbd.setCell (p := ⟨g, 5, none⟩) hged (.slice (some ⟨gg, 0, none⟩) op.length cap)
                  generalize wd.setCell ⟨g, 5, none⟩ (.slice (some ⟨gg, 0, none⟩) op.length cap) = w6 at HS6 HB6 hb6 ⊢
                  have hs6 := HS6.out
                  unfold Sc scCells at hs6
                  clear q1 q2 q3
                  obtain ⟨q1, q2, q3⟩ := hs6.blk.rules
                  obtain ⟨r1, r2, r3⟩ := HB6.out.rules
                  clear hs6
                  -- the token is added, and the offset moved
                  go_still_tail 6, (by kernel_rfl)
                  repeat still_step
                  go_wp2_with fail
                  refine (add_box (ScR.drewN HS6.out 1) hl hts (below_drewN hb6 1) 8 _ at_ ha rfl rfl HB6.out.drew).mono ?_
                  rintro e w4 ⟨⟨vt4, rfl, hs4, hb4⟩, hB4⟩
                  have HS4 := Lib.hid hs4
                  unfold Sc scCells at hs4
                  have hge4 := hs4.ge
                  clear q1 q2 q3 r1 r2 r3
                  obtain ⟨q1, q2, q3⟩ := hs4.blk.rules
                  obtain ⟨r1, r2, r3⟩ := hB4.rules
                  have hle4 := HLE.out
                  clear hs4 hB4
                  go_wp2_with fail
                  go_end0
                  refine SignPost.ok (vo' := .slice (some ⟨gg, 0, none⟩) op.length cap) (vt' := vt4) HR.out HBR.out rfl ?_ (hb4.setCell (p := ⟨g, 1, none⟩) hge4 _)
                  have hs5 := HS4.out
                  unfold Sc scCells at hs5 ⊢
                  rw [HLN.out.1, HLN.out.2, HTT.out]
                  exact hs5.set 1 _
                · have hv : ((if c = 40 then (0 : Int) else if c = 91 then 1 else if c = 123 then 2 else -1) != 1) = true := by
                    by_cases c1 : c = 40
                    · subst c1; first | contradiction | decide
                    · by_cases c2 : c = 91
                      · subst c2; first | contradiction | decide
                      · by_cases c3 : c = 123
                        · subst c3; first | contradiction | decide
                        · rw [if_neg c1, if_neg c2, if_neg c3]; decide
                  have HI1 := Lib.hid (fun W => (ib_calls c W))
                  have HBR : Hid (bracket (c :: op) ((l.drop at_).take ([93] : List UInt8).length) = none) := Lib.hid (by
                    rw [HTT.out]
                    have : (some c = some (91 : UInt8)) ↔ False := by simpa using hc
                    simp [bracket, this])
                  have hcc := HCC.out
                  generalize (if c = 40 then (0 : Int) else if c = 91 then 1 else if c = 123 then 2 else -1) = v at HI1 hv
                  clear hc
                  go_wp2_with fail
                  go_quiet ((go_at_call 42; (first | exact quiet_left (HI1.out _) | exact quiet_left (HI2.out _))))
                  have HSq : Hid (Sc (w2.drewN nq) B g l at_ ind (c :: op) ts vi (.slice (some ⟨gg, 0, none⟩) (op.length + 1) cap) vt m (.slice (some ⟨ba, off, none⟩) 43 cv)) := Lib.hid (ScR.drewN HS2.out nq)
                  have HBq := Lib.hid (HBx.out.drewN nq)
                  have hbq := below_drewN hb2 nq
                  generalize w2.drewN nq = wq at HSq HBq hbq ⊢
                  clear q1 q2 q3 r1 r2 r3
                  have hsq := HSq.out
                  unfold Sc scCells at hsq
                  obtain ⟨q1, q2, q3⟩ := hsq.blk.rules
                  obtain ⟨r1, r2, r3⟩ := HBq.out.rules
                  clear hsq
                  go_wp2_with fail
                  go_still_tail 5, (by kernel_rfl)
                  repeat still_step
                  go_wp2_with fail
                  refine (fail_any _ _ _ _).mono ?_
                  rintro e w3 ⟨rfl, rfl⟩
                  go_wp2_with fail
                  exact ⟨rfl, SignPost.bad HR.out HBR.out rfl hbq.drew⟩
            · have d93 : (t == [93]) = false := by simpa using h93
              by_cases h125 : t = [125]
              · subst h125
                cases op with
                | nil =>
                  have HBR : Hid (bracket [] ((l.drop at_).take ([125] : List UInt8).length) = none) := Lib.hid (by rw [HTT.out]; rfl)
                  obtain ⟨Ao, co, rfl, _, _⟩ := own_form HS2.out.oo
                  go_wp2_with fail
                  go_quiet (fail)
                  have HSq : Hid (Sc (w2.drewN nq) B g l at_ ind [] ts vi (.slice Ao ([] : List UInt8).length co) vt m (.slice (some ⟨ba, off, none⟩) 43 cv)) := Lib.hid (ScR.drewN HS2.out nq)
                  have HBq := Lib.hid (HBx.out.drewN nq)
                  have hbq := below_drewN hb2 nq
                  generalize w2.drewN nq = wq at HSq HBq hbq ⊢
                  clear q1 q2 q3 r1 r2 r3
                  have hsq := HSq.out
                  unfold Sc scCells at hsq
                  obtain ⟨q1, q2, q3⟩ := hsq.blk.rules
                  obtain ⟨r1, r2, r3⟩ := HBq.out.rules
                  clear hsq
                  go_wp2_with fail
                  go_still_tail 5, (by kernel_rfl)
                  repeat still_step
                  go_wp2_with fail
                  refine (fail_any _ _ _ _).mono ?_
                  rintro e w3 ⟨rfl, rfl⟩
                  go_wp2_with fail
                  exact ⟨rfl, SignPost.bad HR.out HBR.out rfl hbq.drew⟩
                | cons c op =>
                  obtain ⟨gg, cap, rfl, hpop, hle1, hle2⟩ := ScR.popO HS2.out
                  obtain ⟨b0, o0, e0, hb0, hc0⟩ := (Row.of_own HS2.out.oo).at_ (k := op.length) (by rw [bytc_rev, List.length_append, bytc_len]; simp)
                  injection e0 with e0
                  injection e0 with e1 e2 e3
                  subst e1 e2
                  have hcc : w2.cell? ⟨gg, 0 + op.length, none⟩ = some (.int .u8 (c.toNat : Int)) := hc0 op.length _ (by rw [bytc_rev, List.getElem?_append_right (by rw [bytc_len]; simp), bytc_len]; simp)
                  have hopl : op.length + 1 ≤ 1000000 := by simpa using hop
                  have HPOP := Lib.hid hpop
                  rw [Nat.zero_add] at hcc
                  have n1 : IntKind.i64.wrap ((op.length : Int) + 1 - 1) = (op.length : Int) := by rw [show (op.length : Int) + 1 - 1 = (op.length : Int) by omega]; exact IntWalk.i64_in _ (by omega)
                  have n2 : IntKind.i64.wrap (op.length : Int) = (op.length : Int) := IntWalk.i64_in _ (by omega)
                  have hq0 : ((op.length : Int) + 1 == 0) = false := by rw [beq_eq_false_iff_ne]; omega
                  have HI2 := Lib.hid (ib_close 125 2 rfl)
                  have HOP := Lib.hid hop
                  have HCC := Lib.hid hcc
                  clear hpop hc0 hop e3 hcc
                  by_cases hc : c = 123
                  · subst hc
                    have HI1 : Hid (∀ W : World, Calls Tryd.prog 42 #[.string ⟨#[40, 91, 123]⟩, .int .u8 123] W fun e w' => e = .returned (.int .i64 2) ∧ W = w') := Lib.hid (fun W => ib_calls 123 W)
                    have HBR : Hid (bracket (123 :: op) ((l.drop at_).take ([125] : List UInt8).length) = some op) := Lib.hid (by rw [HTT.out]; rfl)
                    have hcc := HCC.out
                    go_wp2_with fail
                    go_quiet ((go_at_call 42; (first | exact quiet_left (HI1.out _) | exact quiet_left (HI2.out _))))
                    have HSq : Hid (Sc (w2.drewN nq) B g l at_ ind (123 :: op) ts vi (.slice (some ⟨gg, 0, none⟩) (op.length + 1) cap) vt m (.slice (some ⟨ba, off, none⟩) 43 cv)) := Lib.hid (ScR.drewN HS2.out nq)
                    have HBq := Lib.hid (HBx.out.drewN nq)
                    have hbq := below_drewN hb2 nq
                    generalize w2.drewN nq = wq at HSq HBq hbq ⊢
                    clear q1 q2 q3 r1 r2 r3
                    have hsq := HSq.out
                    unfold Sc scCells at hsq
                    obtain ⟨q1, q2, q3⟩ := hsq.blk.rules
                    obtain ⟨r1, r2, r3⟩ := HBq.out.rules
                    clear hsq
                    have HPq : Hid (ScR wq B g (scCells l at_ vi (.slice (some ⟨gg, 0, none⟩) (op.length + 1) cap) vt m (.slice (some ⟨ba, off, none⟩) 43 cv)) ind op ts vi (.slice (some ⟨gg, 0, none⟩) op.length cap) vt m (.slice (some ⟨ba, off, none⟩) 43 cv)) := Lib.hid (by
                      obtain ⟨gg2, cap2, e2, hp2, _⟩ := ScR.popO HSq.out
                      injection e2 with e2 _ e3
                      injection e2 with e2
                      injection e2 with e2
                      subst e2 e3
                      exact hp2)
                    have hX := HPq.out
                    unfold scCells at hX
                    obtain ⟨L, hL⟩ : ∃ L, lineAt l at_ = L := ⟨_, rfl⟩
                    obtain ⟨bb, hbb⟩ : ∃ bb, bol l at_ = bb := ⟨_, rfl⟩
                    rw [hL, hbb] at hX q1
                    have HL := Lib.hid hL
                    have HBB := Lib.hid hbb
                    have HX := Lib.hid hX
                    clear hX hL hbb
                    go_wp2_with fail
                    have hcap1 : (op.length : Int) ≤ (cap : Int) := by omega
                    have hcap0 : (0 : Int) ≤ (op.length : Int) := by omega
                    have G1 : ∀ (p : Held fun w' => Blk w' g 45 #[.string ⟨l.toArray⟩, .int .i64 (at_ : Int), .int .i64 L, .int .i64 (bb : Int), vi, .slice (some ⟨gg, 0, none⟩) (op.length + 1) cap, vt, .map (some m), .slice (some ⟨ba, off, none⟩) 43 cv] ∧ Blk w' w.heap.size 40 #[.pointer (some ⟨g, 0, none⟩)]) (i : Nat), p.w.cell? ⟨g, i, none⟩ = #[.string ⟨l.toArray⟩, .int .i64 (at_ : Int), .int .i64 L, .int .i64 (bb : Int), vi, .slice (some ⟨gg, 0, none⟩) (op.length + 1) cap, vt, .map (some m), .slice (some ⟨ba, off, none⟩) 43 cv][i]? := fun p i => p.h.1.cell i
                    have G2 : ∀ (p : Held fun w' => Blk w' g 45 #[.string ⟨l.toArray⟩, .int .i64 (at_ : Int), .int .i64 L, .int .i64 (bb : Int), vi, .slice (some ⟨gg, 0, none⟩) (op.length + 1) cap, vt, .map (some m), .slice (some ⟨ba, off, none⟩) 43 cv] ∧ Blk w' w.heap.size 40 #[.pointer (some ⟨g, 0, none⟩)]) (i : Nat), p.w.cell? ⟨w.heap.size, i, none⟩ = #[.pointer (some ⟨g, 0, none⟩)][i]? := fun p i => p.h.2.cell i
                    refine wp_region_steady_tail 8 8 (by kernel_rfl) (by kernel_rfl) (fun w' => ∃ p : Held fun w' => Blk w' g 45 #[.string ⟨l.toArray⟩, .int .i64 (at_ : Int), .int .i64 L, .int .i64 (bb : Int), vi, .slice (some ⟨gg, 0, none⟩) (op.length + 1) cap, vt, .map (some m), .slice (some ⟨ba, off, none⟩) 43 cv] ∧ Blk w' w.heap.size 40 #[.pointer (some ⟨g, 0, none⟩)], w' = p.w) (isHeld_mk ⟨HX.out.blk.drew, HBq.out.drew⟩) (fun c a d v w h => by cases d <;> exact h) ?_
                    simp only [List.take_succ_cons, List.take_zero, List.drop_succ_cons, List.drop_zero]
                    repeat (refine wpSteady_step (fun K hK => ?_)
                            go_simp
                            first
                              | (refine ⟨_, fun _ => rfl, hK _ ?_⟩; clear hK K)
                              | (refine hK _ ?_; clear hK K))
                    refine wpSteady_nil ?_
                    refine tailM_zero ?_
                    have HXd : Hid (ScR wq.drew B g #[.string ⟨l.toArray⟩, .int .i64 (at_ : Int), .int .i64 L, .int .i64 (bb : Int), vi, .slice (some ⟨gg, 0, none⟩) (op.length + 1) cap, vt, .map (some m), .slice (some ⟨ba, off, none⟩) 43 cv] ind op ts vi (.slice (some ⟨gg, 0, none⟩) op.length cap) vt m (.slice (some ⟨ba, off, none⟩) 43 cv)) := Lib.hid (HX.out.drewN 1)
                    have HBd : Hid (Blk wq.drew w.heap.size 40 #[.pointer (some ⟨g, 0, none⟩)]) := Lib.hid HBq.out.drew
                    have hbd := hbq.drew
                    generalize wq.drew = wd at HXd HBd hbd ⊢
                    have hged := HXd.out.ge
                    have hbg := HBd.out.ne_ HXd.out.blk (by decide)
                    clear G1 G2 q1 q2 q3 r1 r2 r3
                    obtain ⟨q1, q2, q3⟩ := HXd.out.blk.rules
                    go_wp2_with fail
                    have HS6 : Hid (Sc (wd.setCell ⟨g, 5, none⟩ (.slice (some ⟨gg, 0, none⟩) op.length cap)) B g l at_ ind op ts vi (.slice (some ⟨gg, 0, none⟩) op.length cap) vt m (.slice (some ⟨ba, off, none⟩) 43 cv)) := Lib.hid (by
                      unfold Sc scCells
                      rw [HL.out, HBB.out]
                      exact HXd.out.set 5 _)
                    have HB6 := Lib.hid (HBd.out.far (p := ⟨g, 5, none⟩) hbg (.slice (some ⟨gg, 0, none⟩) op.length cap))
                    have hb6 := hbd.setCell (p := ⟨g, 5, none⟩) hged (.slice (some ⟨gg, 0, none⟩) op.length cap)
                    generalize wd.setCell ⟨g, 5, none⟩ (.slice (some ⟨gg, 0, none⟩) op.length cap) = w6 at HS6 HB6 hb6 ⊢
                    have hs6 := HS6.out
                    unfold Sc scCells at hs6
                    clear q1 q2 q3
                    obtain ⟨q1, q2, q3⟩ := hs6.blk.rules
                    obtain ⟨r1, r2, r3⟩ := HB6.out.rules
                    clear hs6
                    -- the token is added, and the offset moved
                    go_still_tail 6, (by kernel_rfl)
                    repeat still_step
                    go_wp2_with fail
                    refine (add_box (ScR.drewN HS6.out 1) hl hts (below_drewN hb6 1) 8 _ at_ ha rfl rfl HB6.out.drew).mono ?_
                    rintro e w4 ⟨⟨vt4, rfl, hs4, hb4⟩, hB4⟩
                    have HS4 := Lib.hid hs4
                    unfold Sc scCells at hs4
                    have hge4 := hs4.ge
                    clear q1 q2 q3 r1 r2 r3
                    obtain ⟨q1, q2, q3⟩ := hs4.blk.rules
                    obtain ⟨r1, r2, r3⟩ := hB4.rules
                    have hle4 := HLE.out
                    clear hs4 hB4
                    go_wp2_with fail
                    go_end0
                    refine SignPost.ok (vo' := .slice (some ⟨gg, 0, none⟩) op.length cap) (vt' := vt4) HR.out HBR.out rfl ?_ (hb4.setCell (p := ⟨g, 1, none⟩) hge4 _)
                    have hs5 := HS4.out
                    unfold Sc scCells at hs5 ⊢
                    rw [HLN.out.1, HLN.out.2, HTT.out]
                    exact hs5.set 1 _
                  · have hv : ((if c = 40 then (0 : Int) else if c = 91 then 1 else if c = 123 then 2 else -1) != 2) = true := by
                      by_cases c1 : c = 40
                      · subst c1; first | contradiction | decide
                      · by_cases c2 : c = 91
                        · subst c2; first | contradiction | decide
                        · by_cases c3 : c = 123
                          · subst c3; first | contradiction | decide
                          · rw [if_neg c1, if_neg c2, if_neg c3]; decide
                    have HI1 := Lib.hid (fun W => (ib_calls c W))
                    have HBR : Hid (bracket (c :: op) ((l.drop at_).take ([125] : List UInt8).length) = none) := Lib.hid (by
                      rw [HTT.out]
                      have : (some c = some (123 : UInt8)) ↔ False := by simpa using hc
                      simp [bracket, this])
                    have hcc := HCC.out
                    generalize (if c = 40 then (0 : Int) else if c = 91 then 1 else if c = 123 then 2 else -1) = v at HI1 hv
                    clear hc
                    go_wp2_with fail
                    go_quiet ((go_at_call 42; (first | exact quiet_left (HI1.out _) | exact quiet_left (HI2.out _))))
                    have HSq : Hid (Sc (w2.drewN nq) B g l at_ ind (c :: op) ts vi (.slice (some ⟨gg, 0, none⟩) (op.length + 1) cap) vt m (.slice (some ⟨ba, off, none⟩) 43 cv)) := Lib.hid (ScR.drewN HS2.out nq)
                    have HBq := Lib.hid (HBx.out.drewN nq)
                    have hbq := below_drewN hb2 nq
                    generalize w2.drewN nq = wq at HSq HBq hbq ⊢
                    clear q1 q2 q3 r1 r2 r3
                    have hsq := HSq.out
                    unfold Sc scCells at hsq
                    obtain ⟨q1, q2, q3⟩ := hsq.blk.rules
                    obtain ⟨r1, r2, r3⟩ := HBq.out.rules
                    clear hsq
                    go_wp2_with fail
                    go_still_tail 5, (by kernel_rfl)
                    repeat still_step
                    go_wp2_with fail
                    refine (fail_any _ _ _ _).mono ?_
                    rintro e w3 ⟨rfl, rfl⟩
                    go_wp2_with fail
                    exact ⟨rfl, SignPost.bad HR.out HBR.out rfl hbq.drew⟩
              · have d125 : (t == [125]) = false := by simpa using h125
                have HBR : Hid (bracket op ((l.drop at_).take t.length) = some op) := Lib.hid (by
                  rw [HTT.out]
                  unfold bracket
                  rw [if_neg (by rintro (h | h | h) <;> contradiction), if_neg h41, if_neg h93, if_neg h125])
                clear h40 h91 h123 h41 h93 h125
                go_wp2_with fail
                -- the token is added, and the offset moved
                go_still_tail 6, (by kernel_rfl)
                repeat still_step
                go_wp2_with fail
                refine (add_box (ScR.drewN HS2.out 1) hl hts (below_drewN hb2 1) 8 _ at_ ha rfl rfl HBx.out.drew).mono ?_
                rintro e w4 ⟨⟨vt4, rfl, hs4, hb4⟩, hB4⟩
                have HS4 := Lib.hid hs4
                unfold Sc scCells at hs4
                have hge4 := hs4.ge
                clear q1 q2 q3 r1 r2 r3
                obtain ⟨q1, q2, q3⟩ := hs4.blk.rules
                obtain ⟨r1, r2, r3⟩ := hB4.rules
                have hle4 := HLE.out
                clear hs4 hB4
                go_wp2_with fail
                go_end0
                refine SignPost.ok (vo' := vo) (vt' := vt4) HR.out HBR.out rfl ?_ (hb4.setCell (p := ⟨g, 1, none⟩) hge4 _)
                have hs5 := HS4.out
                unfold Sc scCells at hs5 ⊢
                rw [HLN.out.1, HLN.out.2, HTT.out]
                exact hs5.set 1 _
end

end Go.Proofs.YtjoeojdciogcgaaDoor
