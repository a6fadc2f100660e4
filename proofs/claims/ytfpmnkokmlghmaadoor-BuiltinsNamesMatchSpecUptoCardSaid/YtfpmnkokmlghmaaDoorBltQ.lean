/- The built-in names: Names. Nothing is claimed here. -/
import Derived.Sort.OwnSorted
import Derived.StillTailTactics
import Derived.Test.YtfpmnkokmlghmaaDoorBltO
namespace Go.Proofs.YtfpmnkokmlghmaaDoor
open Go.RowKit Go.Lib Go.Shelf
set_option linter.unusedVariables false

/-- the names off some heads -/
def namOf (l : List (List UInt8)) : List (List UInt8) := l.filter fun h => !clsL.contains h && !h.contains 46
def namS : List (List UInt8) := namU.mergeSort fun x y => decide (x ≤ y)
theorem namOf_cons (h : List UInt8) (l : List (List UInt8)) : namOf (h :: l) = (if (!clsL.contains h && !h.contains 46) = true then [h] else []) ++ namOf l := by
  unfold namOf
  rw [List.filter_cons]
  split <;> rfl
theorem namU_len : namU.length = 33 := by decide +kernel
theorem strs_enc (l : List (List UInt8)) : strs l = l.map Go.Proofs.encStr := rfl
set_option maxRecDepth 100000 in
set_option maxHeartbeats 4000000 in
theorem names_any (w : World) (hm : Lim w) (he : Env w) : Calls Tryd.prog 12 #[] w fun e w' => (∃ A c, e = .returned (.slice A 33 c) ∧ Row w' A (strs namS)) ∧ Below w.heap.size w w' := by
  obtain ⟨i0, hi, hz0, hz1, hz2⟩ := info_parts info_str
  obtain ⟨b, hbb⟩ : ∃ b, w.heap.size = b := ⟨_, rfl⟩
  have HB := Lib.hid hbb
  go_enter Tryd.func12, Tryd.ntmps12
  go_wp2_with fail
  refine Calls.cast (b := #[.string sigV, .string ⟨#[10]⟩]) (by kernel_rfl) ((sigSplit_any w hm).mono ?_)
  rintro e w1 ⟨rfl, hw1⟩
  have hB := Blk.new w 9 (strs sigL).toArray
  have hb := (Below.refl w.heap.size w).alloc (Nat.le_refl _) (.cells (strs sigL).toArray 9)
  rw [← hw1] at hB hb
  rw [hbb] at hB hb ⊢
  have HLM : Hid (∀ w', Below b w w' → Lim w' ∧ Env w') := Lib.hid (fun w' h => ⟨hm.keepB (by rw [hbb]; exact h), he.keepB (by rw [hbb]; exact h)⟩)
  clear hw1 hbb hm he
  go_wp2_with fail
  go_loopw [1, 11] (fun v i wr => ∃ (k : Nat) (d : List (List UInt8)), k ≤ 99 ∧ i = .int .i64 (k : Int) ∧ d.length ≤ k ∧ Hid (namU = d ++ namOf ((sigL.drop k).map (hd 32))) ∧ wr.ownsRow (b + 1) 9 1 v d.length (strs d) ∧ Below b w wr ∧ Blk wr b 9 (strs sigL).toArray) (fun _ i _ => 99 - (RowKit.intOf i).toNat)
  case atStart => exact ⟨0, [], by omega, rfl, Nat.le_refl _, Lib.hid rfl, World.ownsRow_nil _ _ _ _, hb, hB⟩
  case round =>
    clear hb hB
    obtain ⟨k, d, hk, rfl, hdl, HC, hown, hb, hB⟩ := hrel
    have hlen : sigL.length = 99 := by decide +kernel
    by_cases hlt : k < 99
    · obtain ⟨x, hx⟩ : ∃ x, sigL[k]? = some x := ⟨sigL[k], List.getElem?_eq_getElem (by omega)⟩
      have hxl : x.length ≤ 100 := by
        have := List.all_eq_true.1 (show (sigL.all fun s => decide (s.length ≤ 100)) = true by decide +kernel) x (List.mem_of_getElem? hx)
        simpa using this
      have hdr : sigL.drop k = x :: sigL.drop (k + 1) := by
        obtain ⟨h1, rfl⟩ := List.getElem?_eq_some_iff.1 hx
        exact List.drop_eq_getElem_cons h1
      have hcell : wr.cell? ⟨b, k, none⟩ = some (.string ⟨x.toArray⟩) := by
        rw [hB.cell k]
        simp [strs, hx]
      have HD := Lib.hid hdr
      clear hx hdr
      go_wp2_with fail
      refine (cut_any x 32 wr (by omega) (HLM.out wr hb).1).mono ?_
      rintro e w2 ⟨rfl, q, rfl⟩
      have hbd := below_drewN hb q
      have hBd := hB.drewN q
      have hod : (wr.drewN q).ownsRow (b + 1) 9 1 u1 d.length (strs d) := hown
      generalize wr.drewN q = w2 at hbd hBd hod ⊢
      generalize x.contains 32 = xc
      generalize (if xc = true then tl 32 x else []) = xt
      obtain ⟨y, hy⟩ : ∃ y, hd 32 x = y := ⟨_, rfl⟩
      have HY := Lib.hid hy
      rw [hy]
      have HCL := Lib.hid (classOf_any y w2 (HLM.out w2 hbd).2)
      have HCD := Lib.hid (fun W => contains_any y 46 W)
      have HNO := Lib.hid (namOf_cons y ((sigL.drop (k + 1)).map (hd 32)))
      clear hb hB hcell hy hown
      obtain ⟨cb, hcb⟩ : ∃ cb, clsL.contains y = cb := ⟨_, rfl⟩
      obtain ⟨ci, hci⟩ : ∃ ci, clsI y = ci := ⟨_, rfl⟩
      obtain ⟨dt, hdt⟩ : ∃ dt, y.contains 46 = dt := ⟨_, rfl⟩
      rw [hcb, hci] at HCL
      rw [hdt] at HCD
      rw [hcb, hdt] at HNO
      clear hcb hci hdt
      go_wp2_with fail
      refine HCL.out.mono ?_
      rintro e w3 ⟨rfl, ba⟩
      have hb3 := below_then hbd ba (by have := hBd.lt; omega)
      have hB3 := hBd.belowS ba
      have ho3 := own_below hod ba
      have hbl := hB3.lt
      clear ba hbd hBd hod HCL
      cases cb
      · cases dt
        · have HN := Lib.hid (show namU = (d ++ [y]) ++ namOf ((sigL.drop (k + 1)).map (hd 32)) from by
            rw [HC.out, HD.out, List.map_cons, HY.out, HNO.out, if_pos (by rfl), List.append_assoc])
          go_wp2_with fail
          refine (HCD.out w3).mono ?_
          rintro e w4 ⟨rfl, rfl⟩
          go_wp2_with (at_builtin; refine wpList_append_own_at _ rfl (.tmp 33) (.tmp 35) 31 rfl (b + 1) 9 i0 (.string ByteArray.empty) 1 16 Tryd.underlying31 hi hz0 hz1 hz2 rfl (by decide) _ _ _ rfl (ho3.alloc _) ⟨w3.heap.size, 0, none⟩ 1 1 [_] rfl rfl (cell_one_new w3 _ _) (by simp [Value.oneCell']) (by unfold maxLen; omega) (by omega) (by simp; omega) ?_; intro v2 w2 hown2 hg2 _ hat2)
          have hb2 := (hb3.alloc (by omega) _).grown hg2 (by simp; omega) (fun g e => by have := ho3.lt g e; omega)
          have hB2 := (hB3.alloc _).grown hg2 (fun e => by have := ho3.lt b e.symm; omega)
          go_roundw
          case rel => exact ⟨k + 1, d ++ [y], by omega, by go_num, by simp; omega, HN, by rw [strs_snoc, List.length_append, List.length_singleton]; exact hown2, hb2, hB2⟩
          case measure => simp [RowKit.intOf]; omega
        · have HN := Lib.hid (show namU = d ++ namOf ((sigL.drop (k + 1)).map (hd 32)) from by
            rw [HC.out, HD.out, List.map_cons, HY.out, HNO.out, if_neg (by simp), List.nil_append])
          go_wp2_with fail
          refine (HCD.out w3).mono ?_
          rintro e w4 ⟨rfl, rfl⟩
          go_wp2_with fail
          go_roundw
          case rel => exact ⟨k + 1, d, by omega, by go_num, by omega, HN, ho3, hb3, hB3⟩
          case measure => simp [RowKit.intOf]; omega
      · have HN := Lib.hid (show namU = d ++ namOf ((sigL.drop (k + 1)).map (hd 32)) from by
          rw [HC.out, HD.out, List.map_cons, HY.out, HNO.out, if_neg (by simp), List.nil_append])
        go_wp2_with fail
        go_roundw
        case rel => exact ⟨k + 1, d, by omega, by go_num, by omega, HN, ho3, hb3, hB3⟩
        case measure => simp [RowKit.intOf]; omega
    · have hd9 : namU = d := by
        rw [HC.out, List.drop_eq_nil_of_le (by omega), show namOf (([] : List (List UInt8)).map (hd 32)) = [] from rfl, List.append_nil]
      subst hd9
      have hbl := hB.lt
      rcases hown.2 with ⟨_, h0⟩ | ⟨g, cap, cur, rfl, hbase, hgb, h1, h2, h3, h4⟩
      · rw [namU_len] at h0
        exact absurd h0 (by decide)
      · have hlt' : g < wr.heap.size := (Array.getElem?_eq_some_iff.1 hgb).1
        have hl : namS.length = namU.length := List.length_mergeSort _
        have HSO := Lib.hid (Tryd.slices_Sort_string g 0 cap namU wr (holds_of_block hgb (by rw [Nat.mul_one] at h4; exact h4)) hlt' (by rw [namU_len]; decide))
        go_wp2_with fail
        refine HSO.out.mono ?_
        rintro e w' ⟨rfl, n, os, rfl⟩
        have ho : (Go.Sort.grow (Go.Sort.putRow Go.Proofs.encStr (Go.Sort.ahead wr n) g 0 namS.toArray) os).ownsRow (b + 1) 9 1 (.slice (some ⟨g, 0, none⟩) namU.length cap) namU.length (strs namS) := ownsRow_sorted hl hbase hgb h1 h2 h3
        have hg := grownBy_sorted (w := wr) (g := g) (n := n) (os := os) namS.toArray
        have hb2 := hb.grown hg (by omega) (fun k e => by injection e with e; omega)
        rw [show (namU.mergeSort fun x y => decide (x ≤ y)) = namS from rfl]
        generalize Go.Sort.grow (Go.Sort.putRow Go.Proofs.encStr (Go.Sort.ahead wr n) g 0 namS.toArray) os = w5 at ho hb2 ⊢
        go_wp2_with fail
        go_ret
        exact ⟨⟨some ⟨g, 0, none⟩, cap, by rw [← namU_len]; rfl, Row.of_own ho⟩, by rw [HB.out]; exact hb2⟩
theorem isNaN_any (x : List UInt8) (w : World) : Calls Tryd.prog 46 #[.string ⟨x.toArray⟩] w fun e w' => e = .returned (.bool false) ∧ w = w' := by
  have t1 : (x == x) = true := by simp
  have t2 : (x != x) = false := by simp
  go_enter Tryd.func46, Tryd.ntmps46
  go_wp2_with fail
  go_ret
  exact ⟨rfl, rfl⟩
theorem less_any (x y : List UInt8) (w : World) : Calls Tryd.prog 29 #[.string ⟨x.toArray⟩, .string ⟨y.toArray⟩] w fun e w' => e = .returned (.bool (Op.bytesLess x y)) ∧ w = w' := by
  go_enter Tryd.func29, Tryd.ntmps29
  go_wp2_with fail
  refine (isNaN_any x w).mono ?_
  rintro e w1 ⟨rfl, rfl⟩
  go_wp2_with fail
  go_ret
  exact ⟨rfl, rfl⟩
theorem namS_len : namS.length = 33 := by
  have : namS.length = namU.length := List.length_mergeSort _
  rw [this, namU_len]
theorem namS_has (n : List UInt8) : namS.contains n = namU.contains n := by
  rw [Bool.eq_iff_iff, List.contains_iff_mem, List.contains_iff_mem]
  exact (List.mergeSort_perm _ _).mem_iff
theorem namS_sorted (j : Nat) (x y : List UInt8) (hx : namS[j + 1]? = some x) (hy : namS[j]? = some y) : Op.bytesLess x y = false := by
  have hp := List.pairwise_mergeSort (le := fun x y : List UInt8 => decide (x ≤ y)) (fun a b c h1 h2 => by
    rw [decide_eq_true_eq] at h1 h2 ⊢
    exact List.le_trans h1 h2) (fun a b => by
    rw [Bool.or_eq_true, decide_eq_true_eq, decide_eq_true_eq]
    exact List.le_total a b) namU
  obtain ⟨h1, rfl⟩ := List.getElem?_eq_some_iff.1 hx
  obtain ⟨h2, rfl⟩ := List.getElem?_eq_some_iff.1 hy
  have h3 := List.pairwise_iff_getElem.1 hp j (j + 1) h2 h1 (Nat.lt_succ_self j)
  rw [decide_eq_true_eq] at h3
  rw [Go.Proofs.bytesLess_eq, decide_eq_false_iff_not]
  exact h3
set_option maxRecDepth 100000 in
set_option maxHeartbeats 4000000 in
theorem isSorted_any {w : World} {A : Option Addr} (c : Nat) (hr : Row w A (strs namS)) : Calls Tryd.prog 13 #[.slice A 33 c] w fun e w' => e = .returned (.bool true) ∧ Below w.heap.size w w' := by
  have hln := namS_len
  obtain ⟨b0, off, rfl, _, _⟩ := hr.str (k := 0) (by omega)
  have HR : Hid (∀ (W : World), Below w.heap.size w W → ∀ j x, namS[j]? = some x → W.cell? ⟨b0, off + j, none⟩ = some (.string ⟨x.toArray⟩)) := Lib.hid fun W hb j x hx => by
    obtain ⟨hj, rfl⟩ := List.getElem?_eq_some_iff.1 hx
    obtain ⟨b1, o1, e1, _, h1⟩ := (hr.keepB hb).str hj
    simp only [Option.some.injEq, Addr.mk.injEq] at e1
    obtain ⟨rfl, rfl, _⟩ := e1
    exact h1
  clear hr
  go_enter Tryd.func13, Tryd.ntmps13
  go_wp2_with fail
  go_loopw [3] (fun v wr => ∃ j : Nat, j ≤ 32 ∧ v = .int .i64 (j : Int) ∧ Below w.heap.size w wr) (fun v _ => (RowKit.intOf v).toNat)
  case atStart => exact ⟨32, by omega, rfl, Below.refl _ _⟩
  case round =>
    obtain ⟨j, hj, rfl, hb⟩ := hrel
    rcases j with _ | j
    · go_wp2_with fail
      go_ret
      exact ⟨rfl, hb⟩
    · obtain ⟨x, hx⟩ : ∃ x, namS[j + 1]? = some x := ⟨namS[j + 1]'(by omega), List.getElem?_eq_getElem (by omega)⟩
      obtain ⟨y, hy⟩ : ∃ y, namS[j]? = some y := ⟨namS[j]'(by omega), List.getElem?_eq_getElem (by omega)⟩
      have HLS : Hid (∀ W, Calls Tryd.prog 29 #[.string ⟨x.toArray⟩, .string ⟨y.toArray⟩] W fun e w' => e = .returned (.bool false) ∧ W = w') := Lib.hid fun W => by
        have := less_any x y W
        rw [namS_sorted j x y hx hy] at this
        exact this
      have hc1 := HR.out wr hb (j + 1) x hx
      have hc2 := HR.out wr hb j y hy
      clear hx hy
      go_wp2_with fail
      have p1 : (j : Int) + 1 < 33 := by omega
      have p2 : (0 : Int) ≤ (j : Int) + 1 := by omega
      have p3 : (j : Int) < 33 := by omega
      have p4 : j + 1 < 33 := by omega
      have p5 : j < 33 := by omega
      have p6 : IntKind.i64.wrap (j : Int) = (j : Int) := IntWalk.i64_in _ (by omega)
      go_still_tail 9, (by kernel_rfl)
      repeat still_step
      change wpList _ _ _ _ _ wr.drew
      have hbd := hb.drew
      generalize wr.drew = w2 at hbd ⊢
      clear hc1 hc2 hb
      go_wp2_with fail
      refine (HLS.out w2).mono ?_
      rintro e w3 ⟨rfl, rfl⟩
      go_wp2_with fail
      go_roundw
      case rel => exact ⟨j, by omega, by go_num, hbd⟩
      case measure => simp [RowKit.intOf]
end Go.Proofs.YtfpmnkokmlghmaaDoor
