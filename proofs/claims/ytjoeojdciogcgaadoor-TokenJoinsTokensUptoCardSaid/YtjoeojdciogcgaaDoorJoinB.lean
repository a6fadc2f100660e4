/- What Join calls: the builder's methods, and the comparison of two lists of tokens. Nothing is claimed here. -/
import Derived.Shelf.Strings.BuilderK
import Derived.Test.YtjoeojdciogcgaaDoorScanN
namespace Go.Proofs
open Go.Shelf
def Tryd.laysB_ren : Go.Shelf.Ren := ⟨fun | 166 => 21 | 167 => 20 | 169 => 25 | 170 => 23 | 240 => 48 | 276 => 73 | n => n, fun | 9 => 9 | 3 => 3 | 4 => 4 | 20 => 20 | 0 => 0 | 5 => 5 | 72 => 51 | 70 => 49 | 37 => 43 | 75 => 53 | 127 => 82 | 164 => 96 | 80 => 60 | n => n, fun | n => n⟩
theorem Tryd.laysB166 : Go.Proofs.Lays.n166 Tryd.prog Tryd.laysB_ren := {
  mixed := by kernel_rfl
  f166 := Tryd.func21.trans (congrArg some (by kernel_rfl))
  f240 := Tryd.func48.trans (congrArg some (by kernel_rfl))
  f276 := Tryd.func73.trans (congrArg some (by kernel_rfl))
  t0 := Tryd.underlying0
  a0 := Tryd.isAgg0
  z0 := Tryd.sizeOf0
  v0 := Tryd.zeroValue0
  t3 := Tryd.underlying3
  a3 := Tryd.isAgg3
  z3 := Tryd.sizeOf3
  v3 := Tryd.zeroValue3
  t4 := Tryd.underlying4
  a4 := Tryd.isAgg4
  z4 := Tryd.sizeOf4
  v4 := Tryd.zeroValue4
  t9 := Tryd.underlying9
  a9 := Tryd.isAgg9
  z9 := Tryd.sizeOf9
  v9 := Tryd.zeroValue9
  t20 := Tryd.underlying20
  a20 := Tryd.isAgg20
  z20 := Tryd.sizeOf20
  v20 := Tryd.zeroValue20
  t37 := Tryd.underlying43
  a37 := Tryd.isAgg43
  z37 := Tryd.sizeOf43
  v37 := Tryd.zeroValue43
  t70 := Tryd.underlying49
  a70 := Tryd.isAgg49
  z70 := Tryd.sizeOf49
  v70 := Tryd.zeroValue49
  t72 := Tryd.underlying51
  a72 := Tryd.isAgg51
  z72 := Tryd.sizeOf51
  v72 := Tryd.zeroValue51
  t75 := Tryd.underlying53
  a75 := Tryd.isAgg53
  z75 := Tryd.sizeOf53
  v75 := Tryd.zeroValue53
  t164 := Tryd.underlying96
  a164 := Tryd.isAgg96
  z164 := Tryd.sizeOf96
  v164 := Tryd.zeroValue96
}
theorem Tryd.laysB167 : Go.Proofs.Lays.n167 Tryd.prog Tryd.laysB_ren := {
  mixed := by kernel_rfl
  f167 := Tryd.func20.trans (congrArg some (by kernel_rfl))
  f240 := Tryd.func48.trans (congrArg some (by kernel_rfl))
  f276 := Tryd.func73.trans (congrArg some (by kernel_rfl))
  t0 := Tryd.underlying0
  a0 := Tryd.isAgg0
  z0 := Tryd.sizeOf0
  v0 := Tryd.zeroValue0
  t4 := Tryd.underlying4
  a4 := Tryd.isAgg4
  z4 := Tryd.sizeOf4
  v4 := Tryd.zeroValue4
  t5 := Tryd.underlying5
  a5 := Tryd.isAgg5
  z5 := Tryd.sizeOf5
  v5 := Tryd.zeroValue5
  t9 := Tryd.underlying9
  a9 := Tryd.isAgg9
  z9 := Tryd.sizeOf9
  v9 := Tryd.zeroValue9
  t20 := Tryd.underlying20
  a20 := Tryd.isAgg20
  z20 := Tryd.sizeOf20
  v20 := Tryd.zeroValue20
  t37 := Tryd.underlying43
  a37 := Tryd.isAgg43
  z37 := Tryd.sizeOf43
  v37 := Tryd.zeroValue43
  t70 := Tryd.underlying49
  a70 := Tryd.isAgg49
  z70 := Tryd.sizeOf49
  v70 := Tryd.zeroValue49
  t72 := Tryd.underlying51
  a72 := Tryd.isAgg51
  z72 := Tryd.sizeOf51
  v72 := Tryd.zeroValue51
  t75 := Tryd.underlying53
  a75 := Tryd.isAgg53
  z75 := Tryd.sizeOf53
  v75 := Tryd.zeroValue53
  t164 := Tryd.underlying96
  a164 := Tryd.isAgg96
  z164 := Tryd.sizeOf96
  v164 := Tryd.zeroValue96
}
theorem Tryd.laysB169 : Go.Proofs.Lays.n169 Tryd.prog Tryd.laysB_ren := {
  mixed := by kernel_rfl
  f169 := Tryd.func25.trans (congrArg some (by kernel_rfl))
  t0 := Tryd.underlying0
  a0 := Tryd.isAgg0
  z0 := Tryd.sizeOf0
  v0 := Tryd.zeroValue0
  t3 := Tryd.underlying3
  a3 := Tryd.isAgg3
  z3 := Tryd.sizeOf3
  v3 := Tryd.zeroValue3
  t9 := Tryd.underlying9
  a9 := Tryd.isAgg9
  z9 := Tryd.sizeOf9
  v9 := Tryd.zeroValue9
  t37 := Tryd.underlying43
  a37 := Tryd.isAgg43
  z37 := Tryd.sizeOf43
  v37 := Tryd.zeroValue43
  t70 := Tryd.underlying49
  a70 := Tryd.isAgg49
  z70 := Tryd.sizeOf49
  v70 := Tryd.zeroValue49
  t72 := Tryd.underlying51
  a72 := Tryd.isAgg51
  z72 := Tryd.sizeOf51
  v72 := Tryd.zeroValue51
  t127 := Tryd.underlying82
  a127 := Tryd.isAgg82
  z127 := Tryd.sizeOf82
  v127 := Tryd.zeroValue82
}
theorem Tryd.laysB170 : Go.Proofs.Lays.n170 Tryd.prog Tryd.laysB_ren := {
  mixed := by kernel_rfl
  f170 := Tryd.func23.trans (congrArg some (by kernel_rfl))
  t0 := Tryd.underlying0
  a0 := Tryd.isAgg0
  z0 := Tryd.sizeOf0
  v0 := Tryd.zeroValue0
  t3 := Tryd.underlying3
  a3 := Tryd.isAgg3
  z3 := Tryd.sizeOf3
  v3 := Tryd.zeroValue3
  t37 := Tryd.underlying43
  a37 := Tryd.isAgg43
  z37 := Tryd.sizeOf43
  v37 := Tryd.zeroValue43
  t70 := Tryd.underlying49
  a70 := Tryd.isAgg49
  z70 := Tryd.sizeOf49
  v70 := Tryd.zeroValue49
  t72 := Tryd.underlying51
  a72 := Tryd.isAgg51
  z72 := Tryd.sizeOf51
  v72 := Tryd.zeroValue51
}
theorem Tryd.Builder_ExtraB : Builder.Extra Tryd.prog Tryd.laysB_ren := {
  sizeBuilder := by kernel_rfl
  liesBuilder := by kernel_rfl
  t5 := Tryd.underlying5
  a5 := Tryd.isAgg5
  z5 := Tryd.sizeOf5
  v5 := Tryd.zeroValue5
  infoByte := by kernel_rfl
  cellsByte := by kernel_rfl
  sizeByte := by kernel_rfl
  neB5 := by decide }
end Go.Proofs

namespace Go.Proofs.YtjoeojdciogcgaaDoor
open Go.RowKit Go.Shelf Go.Lib Go.Maps
set_option linter.unusedVariables false

/-- a builder of the call's own, and what it holds -/
def Bld (w : World) (b : Nat) (l : List UInt8) : Prop := Lib.IsBuilderF 51 5 b b (Lib.byteCells l) w
theorem Bld.new (w : World) : Bld (w.alloc (.cells #[.pointer none, .slice none 0 0] 51)) w.heap.size [] := Lib.IsBuilderF.of (Lib.fresh_isBuilder 51 5 w)
theorem Bld.at_ {w : World} {b : Nat} {l : List UInt8} (h : Bld w b l) : ∃ p, Lib.BuilderAtF 51 5 b b p (Lib.byteCells l) w := by
  rcases h with h | h
  · exact ⟨_, h⟩
  · exact ⟨_, h⟩
theorem Bld.lt {w : World} {b : Nat} {l : List UInt8} (h : Bld w b l) : b < w.heap.size := by
  obtain ⟨p, _, v, hb, _⟩ := h.at_
  exact (Array.getElem?_eq_some_iff.1 hb).1
theorem rowF_belowS {w w' : World} {base : Nat} {e : TypeId} {size n : Nat} {v : Value} {xs : List Value} (h : w.ownsRowF base e size v n xs) (hb : Below w.heap.size w w') : w'.ownsRowF base e size v n xs := by
  refine ⟨h.1, ?_⟩
  rcases h.2 with h2 | ⟨g, cap, cur, fz, hv, hge, hg, r⟩
  · exact .inl h2
  · exact .inr ⟨g, cap, cur, fz, hv, hge, (hb.block g (Array.getElem?_eq_some_iff.1 hg).1).trans hg, r⟩
theorem atF_belowS {w w' : World} {T e : TypeId} {B b : Nat} {p : Value} {bs : List Value} (h : Lib.BuilderAtF T e B b p bs w) (hb : Below w.heap.size w w') : Lib.BuilderAtF T e B b p bs w' := by
  obtain ⟨hB, v, hbk, hown, hne⟩ := h
  exact ⟨hB, v, (hb.block b (Array.getElem?_eq_some_iff.1 hbk).1).trans hbk, rowF_belowS hown hb, hne⟩
theorem Bld.belowS {w w' : World} {b : Nat} {l : List UInt8} (h : Bld w b l) (hb : Below w.heap.size w w') : Bld w' b l := h.elim (fun x => .inl (atF_belowS x hb)) (fun x => .inr (atF_belowS x hb))
/-- a block of another type is kept -/
theorem Blk.others {w w' : World} {g b t : Nat} {cs : Array Value} (h : Blk w g t cs) (ho : Lib.OthersKept 5 (some b) w w') (hg : g ≠ b) (ht : t ≠ 5) : Blk w' g t cs :=
  ho g _ h (fun e => hg (Option.some.inj e)) (fun c fz e => by injection e with _ e2; exact ht e2)

theorem bld_byte {b : Nat} {l : List UInt8} {w : World} (h : Bld w b l) (hl : l.length ≤ 100000000) (c : UInt8) (n : Int) (hn : n = (c.toNat : Int)) :
    Calls Tryd.prog 20 #[.pointer (some ⟨b, 0, none⟩), .int .u8 n] w fun e w' => e = .returned .nilIface ∧ Bld w' b (l ++ [c]) ∧ Below b w w' ∧ Lib.OthersKept 5 (some b) w w' := by
  subst hn
  refine (Any.Builder_WriteByte_k Tryd.laysB167 Tryd.Builder_ExtraB b b (Lib.byteCells l) (c.toNat : Int) w h (by rw [Lib.byteCells_length]; omega) (Nat.le_of_lt h.lt)).mono ?_
  rintro e w' ⟨rfl, h1, h2, h3⟩
  refine ⟨rfl, .inr ?_, h2, h3⟩
  rw [show Lib.byteCells (l ++ [c]) = Lib.byteCells l ++ [.int .u8 (c.toNat : Int)] from by simp [Lib.byteCells]]
  exact h1
theorem bld_str {b : Nat} {l : List UInt8} {w : World} (h : Bld w b l) (hl : l.length ≤ 100000000) (t : List UInt8) (ht : t.length ≤ 140737087000000) :
    Calls Tryd.prog 21 #[.pointer (some ⟨b, 0, none⟩), .string ⟨t.toArray⟩] w fun e w' => (∃ n : Int, e = .returned (.tuple #[.int .i64 n, .nilIface])) ∧ Bld w' b (l ++ t) ∧ Below b w w' ∧ Lib.OthersKept 5 (some b) w w' := by
  have hsz : (⟨t.toArray⟩ : ByteArray).size = t.length := by simp [ByteArray.size]
  refine (Any.Builder_WriteString_k Tryd.laysB166 Tryd.Builder_ExtraB b b (Lib.byteCells l) ⟨t.toArray⟩ w h (by rw [Lib.byteCells_length, hsz]; omega) (Nat.le_of_lt h.lt)).mono ?_
  rintro e w' ⟨rfl, h1, h2, h3⟩
  refine ⟨⟨_, rfl⟩, .inr ?_, h2, h3⟩
  rw [show Lib.byteCells (l ++ t) = Lib.byteCells l ++ Lib.strCells ⟨t.toArray⟩ from by simp [Lib.byteCells, Lib.strCells]]
  exact h1
theorem bld_string {b : Nat} {l : List UInt8} {w : World} (h : Bld w b l) :
    Calls Tryd.prog 25 #[.pointer (some ⟨b, 0, none⟩)] w fun e w' => e = .returned (.string ⟨l.toArray⟩) ∧ Bld w' b l ∧ Below b w w' := by
  refine (Any.Builder_String_any_k Tryd.laysB169 Tryd.Builder_ExtraB b b l w h (Nat.le_of_lt h.lt)).mono ?_
  rintro e w' ⟨rfl, h1, h2, h3⟩
  exact ⟨rfl, h1, h2⟩
theorem bld_len {b : Nat} {l : List UInt8} {w : World} (h : Bld w b l) :
    Calls Tryd.prog 23 #[.pointer (some ⟨b, 0, none⟩)] w fun e w' => e = .returned (.int .i64 (l.length : Int)) ∧ w = w' := by
  obtain ⟨p, _, v, hbk, hown, _⟩ := h.at_
  obtain ⟨A, cap, rfl⟩ : ∃ A cap, v = .slice A l.length cap := by
    have hl := Lib.byteCells_length l
    rcases hown.2 with ⟨hv, h0⟩ | ⟨g, cap, cur, fz, hv, _⟩
    · exact ⟨none, 0, by rw [hv, ← hl, h0]⟩
    · exact ⟨_, cap, by rw [hv, hl]⟩
  have hB : Blk w b 51 #[p, .slice A l.length cap] := hbk
  obtain ⟨q1, q2, q3⟩ := hB.rules
  clear h hown hbk
  go_enter Tryd.func23, Tryd.ntmps23
  go_wp2_with fail
  go_ret
  exact ⟨rfl, rfl⟩

/-- Repeat of two blanks -/
theorem rep_any (n : Nat) (hn : n ≤ 10000000) (w : World) : Calls Tryd.prog 22 #[.string ⟨#[32, 32]⟩, .int .i64 (n : Int)] w fun e w' => e = .returned (.string ⟨(List.replicate (2 * n) 32).toArray⟩) ∧ Below w.heap.size w w' := by
  refine (Tryd.strings_Repeat ⟨#[32, 32]⟩ n w (by omega) (by show 2 * n ≤ _; omega)).mono ?_
  rintro e w' ⟨rfl, hb⟩
  refine ⟨?_, hb⟩
  rw [show Lib.repeatL [32, 32] n = List.replicate (2 * n) (32 : UInt8) from ?_]
  clear hn hb
  induction n with
  | zero => rfl
  | succ n ih =>
    rw [show 2 * (n + 1) = 2 * n + 1 + 1 from by omega, List.replicate_succ, List.replicate_succ, ← ih]
    rfl

/-- the comparison that Join makes of two tokens -/
def sameT (s t : Tok) : Bool := s.kind == t.kind && s.text == t.text
theorem same_any (s t : Tok) (w : World) : Calls Tryd.prog 24 #[.agg #[.int .i64 s.kind, .string ⟨s.text.toArray⟩, .int .i64 s.line, .int .i64 s.col], .agg #[.int .i64 t.kind, .string ⟨t.text.toArray⟩, .int .i64 t.line, .int .i64 t.col]] w fun e w' => e = .returned (.bool (sameT s t)) ∧ Below w.heap.size w w' := by
  have HE := Lib.hid (show sameT s t = (s.kind == t.kind && s.text == t.text) from rfl)
  have hb : Below w.heap.size w ((w.alloc (.cells #[.int .i64 s.kind, .string ⟨s.text.toArray⟩, .int .i64 s.line, .int .i64 s.col] 32)).alloc (.cells #[.int .i64 t.kind, .string ⟨t.text.toArray⟩, .int .i64 t.line, .int .i64 t.col] 32)) := ((Below.refl _ w).alloc (Nat.le_refl _) _).alloc (by simp) _
  cases h1 : (s.kind == t.kind)
  · rw [h1] at HE
    go_enter Tryd.func24, Tryd.ntmps24
    go_wp2_with fail
    go_ret
    exact ⟨ret_bool HE.out.symm, hb⟩
  · rw [h1] at HE
    cases h2 : (s.text == t.text)
    all_goals
      rw [h2] at HE
      go_enter Tryd.func24, Tryd.ntmps24
      go_wp2_with fail
      go_ret
      exact ⟨ret_bool HE.out.symm, hb⟩

/-- a token of a row -/
theorem Row.tok {w : World} {A : Option Addr} {l : List Tok} (h : Row w A (l.flatMap tokc)) {k : Nat} (hk : k < l.length) :
    ∃ b off t, A = some ⟨b, off, none⟩ ∧ b < w.heap.size ∧ Hid (l[k]? = some t) ∧ w.cell? ⟨b, off + k * 4, none⟩ = some (.int .i64 t.kind) ∧ w.cell? ⟨b, off + k * 4 + 1, none⟩ = some (.string ⟨t.text.toArray⟩) ∧
      w.cell? ⟨b, off + k * 4 + 2, none⟩ = some (.int .i64 t.line) ∧ w.cell? ⟨b, off + k * 4 + 3, none⟩ = some (.int .i64 t.col) := by
  obtain ⟨b, off, e, hlt, hc⟩ := h.elem (f := tokc) (s := 4) (fun _ => rfl) (by omega) hk
  exact ⟨b, off, l[k], e, hlt, Lib.hid (List.getElem?_eq_getElem hk), hc 0 _ (by omega) rfl, hc 1 _ (by omega) rfl, hc 2 _ (by omega) rfl, hc 3 _ (by omega) rfl⟩

def sameL : List Tok → List Tok → Bool
  | [], [] => true
  | s :: l, t :: m => sameT s t && sameL l m
  | _, _ => false
theorem sameL_len : ∀ {l m : List Tok}, sameL l m = true → l.length = m.length
  | [], [], _ => rfl
  | _ :: l, _ :: m, h => by
    unfold sameL at h
    rw [Bool.and_eq_true] at h
    simp [sameL_len h.2]
  | [], _ :: _, h => by simp [sameL] at h
  | _ :: _, [], h => by simp [sameL] at h
theorem sameL_at {l m : List Tok} {k : Nat} {s t : Tok} (h1 : l[k]? = some s) (h2 : m[k]? = some t) : sameL (l.drop k) (m.drop k) = (sameT s t && sameL (l.drop (k + 1)) (m.drop (k + 1))) := by
  obtain ⟨hk, rfl⟩ := List.getElem?_eq_some_iff.1 h1
  obtain ⟨hk', rfl⟩ := List.getElem?_eq_some_iff.1 h2
  rw [List.drop_eq_getElem_cons hk, List.drop_eq_getElem_cons hk', sameL]

set_option maxRecDepth 100000 in
set_option maxHeartbeats 4000000 in
theorem equal_any (A B : Option Addr) (c d : Nat) (l m : List Tok) (w : World) (hl : l.length ≤ 9223372036854775807) (hm : m.length ≤ 9223372036854775807) (ha : Row w A (l.flatMap tokc)) (hb : Row w B (m.flatMap tokc)) :
    Calls Tryd.prog 26 #[.slice A l.length c, .slice B m.length d, .func (.func 24) #[] #[]] w fun e w' => e = .returned (.bool (sameL l m)) ∧ Below w.heap.size w w' := by
  by_cases hlen : l.length = m.length
  · have h0 : ((l.length : Int) != m.length) = false := by simp [hlen]
    have Hlen := Lib.hid hlen
    clear hlen
    go_enter Tryd.func26, Tryd.ntmps26
    go_wp2_with fail
    go_loopw [17] (fun i wr => ∃ k : Nat, k ≤ l.length ∧ i = .int .i64 k ∧ sameL l m = sameL (l.drop k) (m.drop k) ∧ Below w.heap.size w wr) (fun i _ => l.length - (RowKit.intOf i).toNat)
    case atStart => exact ⟨0, Nat.zero_le _, rfl, by simp, Below.refl _ _⟩
    case round =>
      obtain ⟨k, hk, rfl, ht, hb0⟩ := hrel
      have Ht := Lib.hid ht
      clear ht
      by_cases hlt : k < l.length
      · have hlt' : k < m.length := by rw [← Hlen.out]; exact hlt
        obtain ⟨b, off, s, rfl, had, H1, a1, a2, a3, a4⟩ := (ha.keepB hb0).tok hlt
        obtain ⟨b', off', t, rfl, had', H2, c1, c2, c3, c4⟩ := (hb.keepB hb0).tok hlt'
        have i1 : (k : Int) < l.length := by omega
        have i2 : (k : Int) < m.length := by omega
        have hst := sameL_at H1.out H2.out
        have hbw : Below w.heap.size w ((wr.alloc (.cells #[.int .i64 s.kind, .string ⟨s.text.toArray⟩, .int .i64 s.line, .int .i64 s.col] 32)).alloc (.cells #[.int .i64 t.kind, .string ⟨t.text.toArray⟩, .int .i64 t.line, .int .i64 t.col] 32)) := (hb0.alloc hb0.size _).alloc (by have := hb0.size; simp; omega) _
        go_wp2_with fail
        refine (same_any s t _).mono ?_
        rintro e w2 ⟨rfl, hb2⟩
        have hb3 := below_then hbw hb2 (by have := hb0.size; simp; omega)
        clear hb2 hbw a1 a2 a3 a4 c1 c2 c3 c4
        have Hs := Lib.hid hst
        clear hst
        cases hq : sameT s t
        · have HQ := Lib.hid hq
          clear hq
          go_wp2_with fail
          go_ret
          refine ⟨ret_bool ?_, hb3⟩
          rw [Ht.out, Hs.out, HQ.out, Bool.false_and]
        · have HQ := Lib.hid hq
          clear hq
          go_wp2_with fail
          go_roundw
          case rel => exact ⟨k + 1, by omega, by go_num, by rw [Ht.out, Hs.out, HQ.out, Bool.true_and], hb3⟩
          case measure => simp [RowKit.intOf]; omega
      · go_wp2_with fail
        go_ret
        refine ⟨ret_bool ?_, hb0⟩
        rw [Ht.out, List.drop_eq_nil_of_le (by omega), List.drop_eq_nil_of_le (by have := Hlen.out; omega), sameL]
  · have h0 : ((l.length : Int) != m.length) = true := by
      rw [bne_iff_ne]; omega
    have Hlen := Lib.hid hlen
    clear hlen
    go_enter Tryd.func26, Tryd.ntmps26
    go_wp2_with fail
    go_ret
    refine ⟨ret_bool ?_, Below.refl _ _⟩
    cases hs : sameL l m
    · rfl
    · exact absurd (sameL_len hs) Hlen.out

end Go.Proofs.YtjoeojdciogcgaaDoor
