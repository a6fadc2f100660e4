/- Walks: slices of bytes are joined; a catch is searched for. Nothing is claimed here. -/
import Derived.Test.YtionmlkefheocaaTabG
import Derived.Test.YtionmlkefheocaaCatA
namespace Go.Proofs.Ytionmlkefheocaa
open Go.RowKit
set_option linter.unusedVariables false

section
variable {P : Program} (w : World)
/-- 'append(nil, make([]T, n)...)': n zero elements in a new row -/
theorem run_append_zeros (t u ty e : TypeId) (k : IntKind) (i : TypeInfo) (z : Value) (ht : P.underlying t = some (.slice e)) (hu : P.underlying u = some (.int k)) (hi : P.info? e = some i) (hz : i.zero = some z) (hs : i.size = 1) (hb : i.bytes = 1)
    (n : Nat) (h0 : 0 < n) (hn : n ≤ 140737488355328) :
    (Builtin.append_ #[t, u] ty #[.slice none 0 0, .int .i64 (n : Int)]).run P w =
      .ok (.slice (some ⟨w.heap.size, 0, none⟩) n (grownCap w n 0 e)) (w.drew.alloc (.cells (Builtin.zeroCells z.cells n ++ Builtin.zeroCells z.cells (grownCap w n 0 e - n)) e)) := by
  have hn' : n ≠ 0 := by omega
  have h63' : ¬ (9223372036854775807 < (n : Int)) := by omega
  have h48' : ¬ (281474976710656 < Builtin.nextslicecap n 0 * i.bytes) := by rw [nextslicecap_zero h0, hb]; omega
  have hw : IntKind.i64.wrap (n : Int) = n := IntWalk.i64_in _ (by omega)
  have hneg : ¬ ((n : Int) < 0) := by omega
  have h48 : ¬ ((281474976710656 : Int) < (n : Int)) := by omega
  rw [hb, Nat.mul_one] at h48'
  simp [Builtin.append_, run_underlying ht, run_underlying hu, sizeOf, typeInfo, zeroValue, hi, hz, hs, hb, Builtin.lenOf, hn', h63', h48', hw, hneg, h48, Question.forced, run_firstCells_none, newRow, grownCap, asInt, asIntOf]
theorem wpList_append_zeros {ops : Array Oper} {rest : List Oper} {o : Oper} {a : Act} {Q : Exit → Act → World → Prop} (hgd : o.guard = none) (s x : Operand) (t u : TypeId)
    (ho : o.op = .call { callee := .builtin .append, args := #[s, x], argTypes := #[t, u] })
    (e : TypeId) (k : IntKind) (i : TypeInfo) (z : Value) (ht : P.underlying t = some (.slice e)) (hu : P.underlying u = some (.int k)) (hi : P.info? e = some i) (hz : i.zero = some z) (hs : i.size = 1) (hb : i.bytes = 1) (hzs : z.cells.size = 1)
    (n : Nat) (h0 : 0 < n) (hn : n ≤ 140737488355328) (hsv : a.eval s = .slice none 0 0) (hxv : a.eval x = .int .i64 (n : Int))
    (h : ∀ c w', n ≤ c → w'.ownsRow w.heap.size e 1 (.slice (some ⟨w.heap.size, 0, none⟩) 0 c) 0 [] → Below w.heap.size w w' → wpList P ops Q rest (a.put o.dst (.slice (some ⟨w.heap.size, 0, none⟩) n c)) w') : wpList P ops Q (o :: rest) a w := by
  refine wpList_plain hgd fun K hK => ?_
  have hr := run_append_zeros (P := P) w t u o.type e k i z ht hu hi hz hs hb n h0 hn
  unfold Oper.wp execOp
  simp only [ho, resolve, invoke, builtin, Sem.run_bind, Sem.run_pure, Result.andThen_ok, List.map_toArray, List.map_cons, List.map_nil, hsv, hxv, hr]
  have hge := grownCap_ge w n 0 e
  have hcm : grownCap w n 0 e ≤ maxLen := grownCap_le_maxLen w n 0 e (by unfold maxLen; omega)
  refine hK _ _ (h _ _ hge ⟨by simp, .inr ⟨w.heap.size, _, _, rfl, Nat.le_refl _, heap_alloc_new w.drew _, Nat.zero_le _, hcm, ?_, by simp⟩⟩ ?_)
  · simp only [Array.size_append, size_zeroCells, hzs]
    omega
  · exact (Below.refl w.heap.size w).drew.alloc (by simp) _
end

set_option maxHeartbeats 400000 in
theorem grow_any (n : Nat) (w : World) (h0 : 0 < n) (hn : n ≤ 1000000000) :
    Calls Try.prog 45 #[.slice none 0 0, .int .i64 n] w (OwnPost [] w) := by
  obtain ⟨i0, hi, hz0, hz1, hz2⟩ := info_parts info_byte
  have i1 : (0 : Int) < n := by omega
  go_enter Try.func45, Try.ntmps45
  go_wp2_with (at_builtin; refine wpList_append_zeros _ rfl (.tmp 20) (.tmp 21) 29 3 rfl 5 .i64 i0 (.int .u8 0) Try.underlying29 Try.underlying3 hi hz0 hz1 hz2 rfl n h0 (by omega) rfl rfl ?_; intro c w1 hc hown hb)
  go_ret
  exact ⟨_, rfl, hown, hb⟩

/-- slices of bytes among the elements of a slice: address, capacity, bytes -/
abbrev Part := Option Addr × Nat × List Int
def partc (p : Part) : List Value := [.slice p.1 p.2.2.length p.2.1]
def tot : List Part → Nat
  | [] => 0
  | p :: l => p.2.2.length + tot l
def joined (ps : List Part) : List Int := ps.flatMap fun p => p.2.2
theorem joined_cons (p : Part) (l : List Part) : joined (p :: l) = p.2.2 ++ joined l := rfl
theorem joined_len : ∀ ps : List Part, (joined ps).length = tot ps
  | [] => rfl
  | p :: l => by
    have := joined_len l
    simp only [joined, List.flatMap_cons, List.length_append, tot] at this ⊢
    omega
theorem Row.part {w : World} {A : Option Addr} {l : List Part} (h : Row w A (l.flatMap partc)) {k : Nat} (hk : k < l.length) :
    ∃ b off, A = some ⟨b, off, none⟩ ∧ b < w.heap.size ∧ w.cell? ⟨b, off + k, none⟩ = some (.slice l[k].1 l[k].2.2.length l[k].2.1) := by
  obtain ⟨b, off, e, hlt, hc⟩ := h.elem (s := 1) (fun _ => rfl) (by omega) hk
  exact ⟨b, off, e, hlt, by simpa using hc 0 _ (by omega) rfl⟩

def CatRel (ps : List Part) (w : World) (v i : Value) (wr : World) : Prop :=
  ∃ (k : Nat) (d : List Int), k ≤ ps.length ∧ i = .int .i64 k ∧ joined ps = d ++ joined (ps.drop k) ∧ wr.ownsRow w.heap.size 5 1 v d.length (bcs d) ∧ Below w.heap.size w wr

set_option maxHeartbeats 1000000 in
theorem concat_any (A : Option Addr) (c : Nat) (ps : List Part) (w : World) (hl : ps.length ≤ 1000000) (h0 : 0 < tot ps) (ht : tot ps ≤ 1000000000) (hm : Row w A (ps.flatMap partc)) (hp : ∀ p ∈ ps, Row w p.1 (bcs p.2.2)) :
    Calls Try.prog 43 #[.slice A ps.length c] w (OwnPost (joined ps) w) := by
  obtain ⟨i0, hi, hz0, hz1, hz2⟩ := info_parts info_byte
  have HP := Lib.hid hp
  clear hp
  go_enter Try.func43, Try.ntmps43
  go_wp2_with fail
  go_loop [3, 11] (fun s i => ∃ (k n : Nat), k ≤ ps.length ∧ i = .int .i64 k ∧ s = .int .i64 n ∧ tot ps = n + tot (ps.drop k)) (fun _ i => ps.length - (intOf i).toNat)
  case atStart => exact ⟨0, 0, by omega, rfl, rfl, by simp⟩
  case round =>
    obtain ⟨k, n, hk, rfl, rfl, he⟩ := hrel
    by_cases hlt : k < ps.length
    · obtain ⟨b, off, rfl, had, h1⟩ := hm.part hlt
      rw [drop_cons hlt, tot] at he
      have hn1 : n + ps[k].2.2.length ≤ 1000000000 := by omega
      have He := Lib.hid he
      clear he
      go_wp2_with fail
      go_round
      case rel => exact ⟨k + 1, n + ps[k].2.2.length, by omega, by go_num, by go_num, by rw [He.out]; omega⟩
      case measure => simp [intOf]; omega
    · rw [List.drop_of_length_le (by omega), tot] at he
      obtain rfl : tot ps = n := by omega
      clear he
      go_wp2_with fail
      refine (grow_any (tot ps) _ h0 (by omega)).mono ?_
      rintro e w1 ⟨v1, rfl, hown1, hb1⟩
      go_wp2_with fail
      go_loopw [6, 27] (fun v i wr => CatRel ps w v i wr) (fun _ i _ => ps.length - (intOf i).toNat)
      case atStart => exact ⟨0, [], by omega, rfl, rfl, hown1, hb1⟩
      case round =>
        clear hown1 hb1
        obtain ⟨q, d, hq, rfl, he, hown, hb0⟩ := hrel
        have He := Lib.hid he
        have hd : d.length ≤ tot ps := by rw [← joined_len, he]; simp
        clear he
        by_cases hlq : q < ps.length
        · obtain ⟨b, off, rfl, had, h1⟩ := (hm.keepB hb0).part hlq
          have hrow := (HP.out ps[q] (List.getElem_mem hlq)).keepB hb0
          have hdl : d.length + ps[q].2.2.length ≤ 1000000000 := by
            have h2 := congrArg List.length He.out
            rw [drop_cons hlq] at h2
            simp only [joined, List.flatMap_cons, List.length_append] at h2
            have h3 := joined_len ps
            simp only [joined] at h3
            omega
          have hs0 := hb0.size
          go_wp2_with (at_builtin; refine wpList_append_row _ rfl (.tmp 31) (.tmp 32) 29 rfl w.heap.size 5 i0 (.int .u8 0) 1 1 Try.underlying29 hi hz0 hz1 hz2 rfl (by decide) u6 d.length (bcs d) rfl hown ps[q].1 _ ps[q].2.1 (bcs ps[q].2.2) rfl (by simp [bcs]) hrow (bcs_one _) (by unfold maxLen; omega) (by omega) hs0 ?_; intro v2 w2 hown2 hg2 hat2)
          go_roundw
          case rel =>
            refine ⟨q + 1, d ++ ps[q].2.2, by omega, by go_num, ?_, by simpa [bcs] using hown2, hb0.grown hg2 hs0 (fun g e => (hown.lt g e).1)⟩
            rw [He.out, drop_cons hlq, joined_cons, List.append_assoc]
          case measure => simp [intOf]; omega
        · go_wp2_with fail
          go_ret
          have e : joined ps = d := by rw [He.out, List.drop_of_length_le (by omega)]; simp [joined]
          rw [e]
          exact ⟨_, rfl, hown, hb0⟩

/-! the closures of Find and Shadowed, and slices.IndexFunc with them -/

set_option maxHeartbeats 400000 in
theorem find1_any (c : Catch) (g : Nat) (a : Int) (w : World) (hg : w.cell? ⟨g, 0, none⟩ = some (.int .i64 a)) :
    Calls Try.prog 41 #[.agg #[.int .i64 c.1, .int .i64 c.2.1, .int .i64 c.2.2.1, .int .i64 c.2.2.2], .pointer (some ⟨g, 0, none⟩)] w fun e w' => e = .returned (.bool (decide (c.1 ≤ a) && decide (a < c.2.1))) ∧ Below w.heap.size w w' := by
  have hlt := World.block_lt_of_cell? w _ hg
  simp only at hlt
  by_cases h1 : c.1 ≤ a
  · by_cases h2 : a < c.2.1
    · go_enter Try.func41, Try.ntmps41
      go_wp2_with fail
      go_ret
      exact ⟨ret_bool (by simp [h1, h2]), (Below.refl _ _).alloc (Nat.le_refl _) _⟩
    · go_enter Try.func41, Try.ntmps41
      go_wp2_with fail
      go_ret
      exact ⟨ret_bool (by simp; omega), (Below.refl _ _).alloc (Nat.le_refl _) _⟩
  · go_enter Try.func41, Try.ntmps41
    go_wp2_with fail
    go_ret
    exact ⟨ret_bool (by simp; omega), (Below.refl _ _).alloc (Nat.le_refl _) _⟩

set_option maxHeartbeats 400000 in
theorem shadowed1_any (c : Catch) (g : Nat) (a : Int) (w : World) (hg : w.cell? ⟨g, 0, none⟩ = some (.int .i64 a)) :
    Calls Try.prog 42 #[.agg #[.int .i64 c.1, .int .i64 c.2.1, .int .i64 c.2.2.1, .int .i64 c.2.2.2], .pointer (some ⟨g, 0, none⟩)] w fun e w' => e = .returned (.bool (decide (c.1 ≤ a) && decide (a < c.2.1))) ∧ Below w.heap.size w w' := by
  have hlt := World.block_lt_of_cell? w _ hg
  simp only at hlt
  by_cases h1 : c.1 ≤ a
  · by_cases h2 : a < c.2.1
    · go_enter Try.func42, Try.ntmps42
      go_wp2_with fail
      go_ret
      exact ⟨ret_bool (by simp [h1, h2]), (Below.refl _ _).alloc (Nat.le_refl _) _⟩
    · go_enter Try.func42, Try.ntmps42
      go_wp2_with fail
      go_ret
      exact ⟨ret_bool (by simp; omega), (Below.refl _ _).alloc (Nat.le_refl _) _⟩
  · go_enter Try.func42, Try.ntmps42
    go_wp2_with fail
    go_ret
    exact ⟨ret_bool (by simp; omega), (Below.refl _ _).alloc (Nat.le_refl _) _⟩

set_option maxHeartbeats 400000 in
theorem indexFind_any (A : Option Addr) (c g : Nat) (l : List Catch) (a : Int) (w : World) (hl : l.length ≤ 9223372036854775807) (hm : Row w A (l.flatMap ctc)) (hg : w.cell? ⟨g, 0, none⟩ = some (.int .i64 a)) :
    Calls Try.prog 40 #[.slice A l.length c, .func (.func 41) #[] #[.pointer (some ⟨g, 0, none⟩)]] w fun e w' => e = .returned (.int .i64 (findGo a 0 l)) ∧ Below w.heap.size w w' := by
  have hglt := World.block_lt_of_cell? w _ hg
  simp only at hglt
  have HG := Lib.hid hg
  clear hg
  go_enter Try.func40, Try.ntmps40
  go_wp2_with fail
  go_loopw [8] (fun i wr => ∃ (k : Nat), k ≤ l.length ∧ i = .int .i64 k ∧ findGo a 0 l = findGo a k (l.drop k) ∧ Below w.heap.size w wr) (fun i _ => l.length - (intOf i).toNat)
  case atStart => exact ⟨0, Nat.zero_le _, rfl, rfl, Below.refl _ _⟩
  case round =>
    obtain ⟨k, hk, rfl, he, hb0⟩ := hrel
    have He := Lib.hid he
    clear he
    by_cases hlt : k < l.length
    · obtain ⟨b, off, rfl, had, h1, h2, h3, h4⟩ := (hm.keepB hb0).catch_ hlt
      have hg' := (hb0.cell (p := ⟨g, 0, none⟩) hglt).trans HG.out
      have HGX := Lib.hid hg'
      clear hg'
      by_cases hin : l[k].1 ≤ a ∧ a < l[k].2.1
      · have Hin := Lib.hid hin
        have hd : (decide (l[k].1 ≤ a) && decide (a < l[k].2.1)) = true := by simp [hin]
        clear hin
        go_wp2_with fail
        refine (find1_any l[k] g a _ HGX.out).mono ?_
        rintro e w1 ⟨rfl, hb1⟩
        rw [hd]
        clear hd
        go_wp2_with fail
        go_ret
        exact ⟨ret_int (by rw [He.out, drop_cons hlt, findGo, if_pos Hin.out]), below_then hb0 hb1 hb0.size⟩
      · have Hin := Lib.hid hin
        have hd : (decide (l[k].1 ≤ a) && decide (a < l[k].2.1)) = false := by
          rw [Bool.and_eq_false_iff]; simp; omega
        clear hin
        go_wp2_with fail
        refine (find1_any l[k] g a _ HGX.out).mono ?_
        rintro e w1 ⟨rfl, hb1⟩
        rw [hd]
        clear hd
        go_wp2_with fail
        go_roundw
        case rel => exact ⟨k + 1, by omega, by go_num, by rw [He.out, drop_cons hlt, findGo, if_neg Hin.out], below_then hb0 hb1 hb0.size⟩
        case measure => simp [intOf]; omega
    · go_wp2_with fail
      go_ret
      exact ⟨ret_int (by rw [He.out, List.drop_of_length_le (by omega), findGo]), hb0⟩

set_option maxHeartbeats 400000 in
theorem indexShadowed_any (A : Option Addr) (c g : Nat) (l : List Catch) (a : Int) (w : World) (hl : l.length ≤ 9223372036854775807) (hm : Row w A (l.flatMap ctc)) (hg : w.cell? ⟨g, 0, none⟩ = some (.int .i64 a)) :
    Calls Try.prog 40 #[.slice A l.length c, .func (.func 42) #[] #[.pointer (some ⟨g, 0, none⟩)]] w fun e w' => e = .returned (.int .i64 (findGo a 0 l)) ∧ Below w.heap.size w w' := by
  have hglt := World.block_lt_of_cell? w _ hg
  simp only at hglt
  have HG := Lib.hid hg
  clear hg
  go_enter Try.func40, Try.ntmps40
  go_wp2_with fail
  go_loopw [8] (fun i wr => ∃ (k : Nat), k ≤ l.length ∧ i = .int .i64 k ∧ findGo a 0 l = findGo a k (l.drop k) ∧ Below w.heap.size w wr) (fun i _ => l.length - (intOf i).toNat)
  case atStart => exact ⟨0, Nat.zero_le _, rfl, rfl, Below.refl _ _⟩
  case round =>
    obtain ⟨k, hk, rfl, he, hb0⟩ := hrel
    have He := Lib.hid he
    clear he
    by_cases hlt : k < l.length
    · obtain ⟨b, off, rfl, had, h1, h2, h3, h4⟩ := (hm.keepB hb0).catch_ hlt
      have hg' := (hb0.cell (p := ⟨g, 0, none⟩) hglt).trans HG.out
      have HGX := Lib.hid hg'
      clear hg'
      by_cases hin : l[k].1 ≤ a ∧ a < l[k].2.1
      · have Hin := Lib.hid hin
        have hd : (decide (l[k].1 ≤ a) && decide (a < l[k].2.1)) = true := by simp [hin]
        clear hin
        go_wp2_with fail
        refine (shadowed1_any l[k] g a _ HGX.out).mono ?_
        rintro e w1 ⟨rfl, hb1⟩
        rw [hd]
        clear hd
        go_wp2_with fail
        go_ret
        exact ⟨ret_int (by rw [He.out, drop_cons hlt, findGo, if_pos Hin.out]), below_then hb0 hb1 hb0.size⟩
      · have Hin := Lib.hid hin
        have hd : (decide (l[k].1 ≤ a) && decide (a < l[k].2.1)) = false := by
          rw [Bool.and_eq_false_iff]; simp; omega
        clear hin
        go_wp2_with fail
        refine (shadowed1_any l[k] g a _ HGX.out).mono ?_
        rintro e w1 ⟨rfl, hb1⟩
        rw [hd]
        clear hd
        go_wp2_with fail
        go_roundw
        case rel => exact ⟨k + 1, by omega, by go_num, by rw [He.out, drop_cons hlt, findGo, if_neg Hin.out], below_then hb0 hb1 hb0.size⟩
        case measure => simp [intOf]; omega
    · go_wp2_with fail
      go_ret
      exact ⟨ret_int (by rw [He.out, List.drop_of_length_le (by omega), findGo]), hb0⟩

end Go.Proofs.Ytionmlkefheocaa
