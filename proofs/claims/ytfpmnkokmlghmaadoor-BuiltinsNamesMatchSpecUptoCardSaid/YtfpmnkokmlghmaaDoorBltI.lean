/- The built-in names: the numbers of the reference. Nothing is claimed here. -/
import Derived.Test.YtfpmnkokmlghmaaDoorBltG
import Derived.Test.YtfpmnkokmlghmaaDoorQTail
namespace Go.Proofs.YtfpmnkokmlghmaaDoor
open Go.RowKit Go.Lib Go.Shelf Go.Sort
set_option linter.unusedVariables false

/-- cells of numbers -/
def ints (l : List Int) : List Value := l.map (Value.int .i64)
theorem info_int : (Tryd.prog.info? 3).map (fun i => (i.zero, i.size, i.bytes)) = some (some (.int .i64 0), 1, 8) := by kernel_rfl
theorem info_bool : (Tryd.prog.info? 4).map (fun i => (i.zero, i.size, i.bytes)) = some (some (.bool false), 1, 1) := by kernel_rfl
theorem info_u32 : (Tryd.prog.info? 63).map (fun i => (i.zero, i.size, i.bytes)) = some (some (.int .u32 0), 1, 4) := by kernel_rfl
def lenOf : Value → Nat
  | .slice _ n _ => n
  | _ => 0
/-- trim -/
theorem trim_any {w : World} (l : List Int) (b off c : Nat) (hl : l.length ≤ 1000) (hc : l.length ≤ c) (hr : ∀ j, j < l.length → w.cell? ⟨b, off + j, none⟩ = some (.int .i64 (l.getD j 0))) :
    Calls Tryd.prog 98 #[.slice (some ⟨b, off, none⟩) l.length c] w fun e w' => (∃ k : Nat, k ≤ l.length ∧ e = .returned (.slice (some ⟨b, off, none⟩) k c)) ∧ w = w' := by
  obtain ⟨L, hL⟩ : ∃ L, l.length = L := ⟨_, rfl⟩
  rw [hL] at hl hc hr ⊢
  have HR := Lib.hid hr
  clear hr
  go_enter Tryd.func98, Tryd.ntmps98
  go_wp2_with fail
  go_loop [0] (fun v => ∃ k : Nat, k ≤ L ∧ v = .slice (some ⟨b, off, none⟩) k c) (fun v => lenOf v)
  case atStart => exact ⟨L, Nat.le_refl _, rfl⟩
  case round =>
    obtain ⟨k, hk, rfl⟩ := hrel
    rcases k with _ | j
    · go_wp2_with fail
      go_ret
      exact ⟨⟨0, hk, rfl⟩, rfl⟩
    · obtain ⟨z, hz⟩ : ∃ z, l.getD j 0 = z := ⟨_, rfl⟩
      have hcell := HR.out j (by omega)
      rw [hz] at hcell
      clear hz
      by_cases h0 : z = 0
      · subst h0
        go_wp2_with fail
        go_round
        case rel => exact ⟨j, by omega, by go_num⟩
        case measure => simp [lenOf]
      · have h1 : (z == 0) = false := by rw [beq_eq_false_iff_ne]; exact h0
        go_wp2_with fail
        go_ret
        exact ⟨⟨j + 1, hk, rfl⟩, rfl⟩
theorem trim_nil {w : World} (A : Option Addr) (c : Nat) :
    Calls Tryd.prog 98 #[.slice A 0 c] w fun e w' => e = .returned (.slice A 0 c) ∧ w = w' := by
  go_enter Tryd.func98, Tryd.ntmps98
  go_wp2_with fail
  go_loop [0] (fun v => v = .slice A 0 c) (fun v => 0)
  case atStart => rfl
  case round =>
    subst hrel
    go_wp2_with fail
    go_ret
    exact ⟨rfl, rfl⟩
theorem ints_snoc (d : List Int) (x : Int) : ints (d ++ [x]) = ints d ++ [.int .i64 x] := by simp [ints]
theorem own_below0 {w : World} {base : Nat} {e : TypeId} {size n : Nat} {v : Value} {xs : List Value} (h : w.ownsRow base e size v n xs) : ∀ g, v.ownBlock = some g → base ≤ g ∧ g < w.heap.size := h.lt
theorem own_some {w : World} {base : Nat} {e : TypeId} {n : Nat} {v : Value} {xs : List Value} (h : w.ownsRow base e 1 v n xs) (hn : n ≠ 0) :
    ∃ g c cs, v = .slice (some ⟨g, 0, none⟩) n c ∧ base ≤ g ∧ Blk w g e cs ∧ n ≤ cs.size ∧ cs.toList.take n = xs ∧ n ≤ c := by
  rcases h.2 with ⟨_, h2⟩ | ⟨g, cap, cur, hv, hb, hh, hnc, _, hsz, ht⟩
  · exact absurd h2 hn
  · exact ⟨g, cap, cur, hv, hb, hh, by omega, by rw [Nat.mul_one] at ht; exact ht, hnc⟩
theorem own_ints {w : World} {base : Nat} {m : List Int} {v : Value} (h : w.ownsRow base 3 1 v m.length (ints m)) (hn : 0 < m.length) :
    ∃ g c, base ≤ g ∧ v = .slice (some ⟨g, 0, none⟩) m.length c ∧ m.length ≤ c ∧ (∀ j, j < m.length → w.cell? ⟨g, 0 + j, none⟩ = some (.int .i64 (m.getD j 0))) ∧ Row w (some ⟨g, 0, none⟩) (ints m) := by
  obtain ⟨g, c, cs, rfl, hbg, hB, hsz, ht, hc⟩ := own_some h (by omega)
  refine ⟨g, c, hbg, rfl, hc, fun j hj => ?_, Row.of_own h⟩
  have h1 : (cs.toList.take m.length)[j]? = cs[j]? := by
    rw [List.getElem?_take, if_pos hj]
    simp
  rw [Nat.zero_add, hB.cell j, ← h1, ht]
  simp [ints, hj]
set_option maxRecDepth 100000 in
set_option maxHeartbeats 4000000 in
/-- Binary at no bits -/
theorem binary_nil {w : World} (A : Option Addr) (c : Nat) :
    Calls Tryd.prog 97 #[.slice A 0 c] w fun e w' => e = .returned (.slice none 0 0) ∧ w = w' := by
  go_enter Tryd.func97, Tryd.ntmps97
  go_wp2_with fail
  go_loop [3, 4] (fun u v => u = .slice none 0 0 ∧ v = .int .i64 0) (fun _ v => 0)
  case atStart => exact ⟨rfl, rfl⟩
  case round =>
    obtain ⟨rfl, rfl⟩ := hrel
    go_wp2_with fail
    refine (trim_nil none 0).mono ?_
    rintro e w1 ⟨rfl, rfl⟩
    go_wp2_with fail
    go_ret
    exact ⟨rfl, rfl⟩
set_option maxRecDepth 100000 in
set_option maxHeartbeats 4000000 in
/-- Binary: some digits -/
theorem binary_any {w : World} (l : List Bool) (b0 off c : Nat) (hl : l.length ≤ 900) (hl1 : 1 ≤ l.length) (hr : ∀ j, j < l.length → w.cell? ⟨b0, off + j, none⟩ = some (.bool (l.getD j false))) (hb0 : b0 < w.heap.size) :
    Calls Tryd.prog 97 #[.slice (some ⟨b0, off, none⟩) l.length c] w fun e w' => (∃ (B : Nat) (d : Nat) (m : List Int) (k : Nat), w.heap.size ≤ B ∧ e = .returned (.slice (some ⟨B, 0, none⟩) k d) ∧ k ≤ m.length ∧ Row w' (some ⟨B, 0, none⟩) (ints m) ∧ m.length ≤ 1000) ∧ Below w.heap.size w w' := by
  obtain ⟨ii, hii, hiz0, hiz1, hiz2⟩ := info_parts info_int
  obtain ⟨b, hbb⟩ : ∃ b, w.heap.size = b := ⟨_, rfl⟩
  have HB := Lib.hid hbb
  rw [hbb] at hb0
  clear hbb
  obtain ⟨L, hL⟩ : ∃ L, l.length = L := ⟨_, rfl⟩
  rw [hL] at hl hl1 hr ⊢
  have HR := Lib.hid hr
  clear hL hr
  go_enter Tryd.func97, Tryd.ntmps97
  go_wp2_with fail
  go_loopw [3, 4] (fun v i wr => ∃ (k : Nat) (m : List Int), k ≤ L + 16 ∧ i = .int .i64 (k : Int) ∧ m.length ≤ k ∧ (0 < k → 0 < m.length) ∧ wr.ownsRow b 3 1 v m.length (ints m) ∧ Below b w wr) (fun _ i _ => L + 16 - (RowKit.intOf i).toNat)
  case atStart => exact ⟨0, [], by omega, rfl, Nat.le_refl _, by omega, World.ownsRow_nil _ _ _ _, Below.refl _ _⟩
  case round =>
    obtain ⟨k, m, hk, rfl, hm, hm0, hown, hb⟩ := hrel
    have hbs := hb.size
    rw [HB.out] at hbs
    by_cases hlt : k < L
    · go_wp2_with fail
      go_loop [5, 6] (fun d j => ∃ (z : Int) (jn : Nat), d = .int .i64 z ∧ j = .int .i64 ((jn : Int) - 1) ∧ jn ≤ 16) (fun _ j => (RowKit.intOf j + 1).toNat)
      case atStart => exact ⟨0, 16, rfl, rfl, Nat.le_refl _⟩
      case round =>
        obtain ⟨z, jn, rfl, rfl, hj⟩ := hrel
        rcases jn with _ | jn
        · go_wp2_with (at_builtin; refine wpList_append_own_at _ rfl (.tmp 35) (.tmp 37) 116 rfl b 3 ii _ 1 8 Tryd.underlying116 hii hiz0 hiz1 hiz2 rfl (by decide) _ _ _ rfl (hown.alloc _) ⟨wr.heap.size, 0, none⟩ 1 1 [_] rfl rfl (cell_one_new wr _ _) (by simp [Value.oneCell']) (by unfold maxLen; omega) (by omega) (by simp; omega) ?_; intro v2 w2 hown2 hg2 _ hat2)
          have hb2 := (hb.alloc hbs _).grown hg2 (by simp; omega) (fun g e => by have := hown.lt g e; omega)
          go_roundw
          case rel => exact ⟨k + 16, m ++ [z], by omega, by go_num, by simp; omega, fun _ => by simp, by rw [ints_snoc, List.length_append, List.length_singleton]; exact hown2, hb2⟩
          case measure => simp [RowKit.intOf]; omega
        · rw [show ((jn + 1 : Nat) : Int) - 1 = (jn : Int) by omega]
          by_cases hin : k + jn < L
          · have hcell := (hb.cell (p := ⟨b0, off + (k + jn), none⟩) hb0).trans (HR.out (k + jn) hin)
            generalize l.getD (k + jn) false = bo at hcell
            cases bo
            · go_wp2_with fail
              go_round
              case rel => exact ⟨_, jn, rfl, by go_num, by omega⟩
              case measure => simp [RowKit.intOf]
            · go_wp2_with fail
              go_round
              case rel => exact ⟨_, jn, rfl, by go_num, by omega⟩
              case measure => simp [RowKit.intOf]
          · go_wp2_with fail
            go_round
            case rel => exact ⟨_, jn, rfl, by go_num, by omega⟩
            case measure => simp [RowKit.intOf]
    · obtain ⟨g, c', hbg, rfl, hmc, hcl, hrow⟩ := own_ints hown (hm0 (by omega))
      go_wp2_with fail
      refine (trim_any m g 0 c' (by omega) hmc hcl).mono ?_
      rintro e w2 ⟨⟨q, hq, rfl⟩, rfl⟩
      go_wp2_with fail
      go_ret
      exact ⟨⟨g, c', m, q, by rw [HB.out]; exact hbg, rfl, hq, hrow, by omega⟩, by rw [HB.out]; exact hb⟩
theorem Row.far {w : World} {B off : Nat} {xs : List Value} (h : Row w (some ⟨B, off, none⟩) xs) {p : Addr} (hp : B ≠ p.block) (u : Value) : Row (w.setCell p u) (some ⟨B, off, none⟩) xs := by
  rcases h with h | ⟨b, o, e, hlt, hc⟩
  · exact .inl h
  · injection e with e
    injection e with e1 e2
    subst e1 e2
    refine .inr ⟨B, off, rfl, by simpa [World.setCell] using hlt, fun j v hj => ?_⟩
    rw [← hc j v hj]
    exact World.cell?_of_block (w := w) (Below.heap_setCell w p u B hp)
theorem own_bools {w : World} {base : Nat} {m : List Bool} {v : Value} (h : w.ownsRow base 4 1 v m.length (m.map Value.bool)) (hn : 0 < m.length) :
    ∃ g c, v = .slice (some ⟨g, 0, none⟩) m.length c ∧ g < w.heap.size ∧ (∀ j, j < m.length → w.cell? ⟨g, 0 + j, none⟩ = some (.bool (m.getD j false))) := by
  obtain ⟨g, c, cs, rfl, _, hB, hsz, ht, hc⟩ := own_some h (by omega)
  refine ⟨g, c, rfl, hB.lt, fun j hj => ?_⟩
  have h1 : (cs.toList.take m.length)[j]? = cs[j]? := by
    rw [List.getElem?_take, if_pos hj]
    simp
  rw [Nat.zero_add, hB.cell j, ← h1, ht]
  simp [hj]
set_option maxRecDepth 100000 in
set_option maxHeartbeats 4000000 in
/-- what the reference's number holds -/
theorem number_any (x : Int) (hx : x = 0 ∨ x = 1 ∨ x = 10 ∨ x = -1) (w : World) :
    Calls Tryd.prog 89 #[.int .i64 x] w fun e w' => (∃ (ng : Bool) (A : Option Addr) (k d : Nat) (m : List Int), e = .returned (.agg #[.bool ng, .slice A k d]) ∧ k ≤ m.length ∧ Row w' A (ints m) ∧ m.length ≤ 1000) ∧ Below w.heap.size w w' := by
  obtain ⟨ib, hib, hbz0, hbz1, hbz2⟩ := info_parts info_bool
  obtain ⟨b, hbb⟩ : ∃ b, w.heap.size = b := ⟨_, rfl⟩
  have HB := Lib.hid hbb
  have hxb : -16 ≤ x ∧ x ≤ 16 := by omega
  have hT := Blk.new w 118 #[.bool false, .slice none 0 0]
  have hb0 := (Below.refl w.heap.size w).alloc (Nat.le_refl _) (.cells #[.bool false, .slice none 0 0] 118)
  rw [hbb] at hT hb0
  clear hx
  go_enter Tryd.func89, Tryd.ntmps89
  go_wp2_with fail
  go_loopw [0, 3] (fun u v wr => ∃ (y : Int) (l : List Bool), u = .int .i64 y ∧ -16 ≤ y ∧ y ≤ 16 ∧ l.length + y.natAbs ≤ 16 ∧ wr.ownsRow (b + 1) 4 1 v l.length (l.map Value.bool) ∧ Blk wr b 118 #[.bool false, .slice none 0 0] ∧ Below b w wr) (fun u _ _ => (RowKit.intOf u).natAbs)
  case atStart => exact ⟨x, [], rfl, by omega, by omega, by simp; omega, World.ownsRow_nil _ _ _ _, hT, hb0⟩
  case round =>
    clear hT hb0
    obtain ⟨y, l, rfl, hy1, hy2, hll, hown, hT, hb⟩ := hrel
    have hbs := hT.lt
    clear hbb
    by_cases hy : y = 0
    · subst hy
      by_cases hl0 : l = []
      · subst hl0
        obtain ⟨A, c, rfl, _, _⟩ := own_form hown
        simp only [List.length_nil]
        go_wp2_with fail
        refine (binary_nil A c).mono ?_
        rintro e w2 ⟨rfl, rfl⟩
        obtain ⟨q1, q2, q3⟩ := hT.rules
        go_wp2_with fail
        exact ret_blk rfl rfl ((hT.set_ 0 _).set_ 1 _) _ Tryd.underlying118 rfl (by kernel_rfl) rfl ⟨⟨_, none, 0, 0, [], rfl, Nat.le_refl _, Row.nil _ _, by simp⟩, by rw [HB.out]; exact (hb.setCell (p := ⟨b, 0, none⟩) (Nat.le_refl _) _).setCell (p := ⟨b, 1, none⟩) (Nat.le_refl _) _⟩
      · have hlp : 0 < l.length := by cases l with | nil => exact absurd rfl hl0 | cons => simp
        obtain ⟨g, c, rfl, hgl, hcl⟩ := own_bools hown hlp
        go_wp2_with fail
        refine (binary_any l g 0 c (by omega) hlp hcl hgl).mono ?_
        rintro e w2 ⟨⟨B, d, m, k, hBge, rfl, hkm, hrow, hml⟩, ba⟩
        have hT2 := hT.belowS ba
        have hb2 := below_then hb ba (by omega)
        obtain ⟨q1, q2, q3⟩ := hT2.rules
        clear ba hT hb
        go_wp2_with fail
        exact ret_blk rfl rfl ((hT2.set_ 0 _).set_ 1 _) _ Tryd.underlying118 rfl (by kernel_rfl) rfl ⟨⟨_, some ⟨B, 0, none⟩, k, d, m, rfl, hkm, (hrow.far (p := ⟨b, 0, none⟩) (by show B ≠ b; omega) _).far (p := ⟨b, 1, none⟩) (by show B ≠ b; omega) _, hml⟩, by rw [HB.out]; exact (hb2.setCell (p := ⟨b, 0, none⟩) (Nat.le_refl _) _).setCell (p := ⟨b, 1, none⟩) (Nat.le_refl _) _⟩
    · have hyb : (y != 0) = true := by simpa using hy
      go_wp2_with (at_builtin; refine wpList_append_own_at _ rfl (.tmp 9) (.tmp 13) 136 rfl (b + 1) 4 ib _ 1 1 Tryd.underlying136 hib hbz0 hbz1 hbz2 rfl (by decide) _ _ _ rfl (hown.alloc _) ⟨wr.heap.size, 0, none⟩ 1 1 [_] rfl rfl (cell_one_new wr _ _) (by simp [Value.oneCell']) (by unfold maxLen; omega) (by omega) (by simp; omega) ?_; intro v2 w2 hown2 hg2 _ hat2)
      have hT2 := (hT.alloc _).grown hg2 (fun e => by have := hown.lt b e.symm; omega)
      have hb2 := (hb.alloc (by omega) _).grown hg2 (by simp; omega) (fun g e => by have := hown.lt g e; omega)
      have hq : 2 * (y.tdiv 2).natAbs ≤ y.natAbs := by
        rw [Int.natAbs_tdiv]
        show 2 * (y.natAbs / 2) ≤ y.natAbs
        omega
      go_roundw
      case rel => exact ⟨y.tdiv 2, l ++ [y.tmod 2 != 0], by go_num, by omega, by omega, by rw [List.length_append, List.length_singleton]; omega, by rw [List.length_append, List.length_singleton, List.map_append]; exact hown2, hT2, hb2⟩
      case measure => simp only [RowKit.intOf]; omega
end Go.Proofs.YtfpmnkokmlghmaaDoor
