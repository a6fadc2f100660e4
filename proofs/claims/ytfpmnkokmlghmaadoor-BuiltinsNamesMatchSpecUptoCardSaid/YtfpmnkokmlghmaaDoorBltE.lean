/- The built-in names: the reference's names of a module. Nothing is claimed here. -/
import Derived.Test.YtfpmnkokmlghmaaDoorBltD
namespace Go.Proofs.YtfpmnkokmlghmaaDoor
open Go.RowKit Go.Lib Go.Shelf
set_option linter.unusedVariables false

def bas (l : List (List UInt8)) : List ByteArray := l.map fun s => ⟨s.toArray⟩
theorem has_bas (x : List UInt8) (l : List (List UInt8)) : Lib.containsS (bas l) ⟨x.toArray⟩ = l.contains x := by
  rw [Bool.eq_iff_iff, containsS_iff, List.contains_iff_mem]
  unfold bas
  rw [List.mem_map]
  constructor
  · rintro ⟨y, hy, e⟩
    have : y = x := by simpa using e
    exact this ▸ hy
  · exact fun h => ⟨x, h, rfl⟩
theorem Row.str {w : World} {A : Option Addr} {l : List (List UInt8)} (h : Row w A (strs l)) {k : Nat} (hk : k < l.length) :
    ∃ b off, A = some ⟨b, off, none⟩ ∧ b < w.heap.size ∧ w.cell? ⟨b, off + k, none⟩ = some (.string ⟨l[k].toArray⟩) := by
  obtain ⟨b, off, e, hlt, hc⟩ := h.at_ (k := k) (by simpa [strs] using hk)
  exact ⟨b, off, e, hlt, hc k _ (by simp [strs, hk])⟩
theorem row_bas {w : World} {A : Option Addr} {l : List (List UInt8)} (h : Row w A (strs l)) (hl : l ≠ []) : ∃ b off, A = some ⟨b, off, none⟩ ∧ ∀ j, j < (bas l).length → w.cell? ⟨b, off + j, none⟩ = some (.string ((bas l).getD j ByteArray.empty)) := by
  have hp : 0 < l.length := by cases l with | nil => exact absurd rfl hl | cons => simp
  obtain ⟨b, off, e, hlt, hc⟩ := h.str hp
  refine ⟨b, off, e, fun j hj => ?_⟩
  have hj' : j < l.length := by simpa [bas] using hj
  obtain ⟨b', off', e', hlt', hc'⟩ := h.str hj'
  rw [e] at e'
  simp only [Option.some.injEq, Addr.mk.injEq] at e'
  obtain ⟨rfl, rfl, _⟩ := e'
  rw [hc']
  simp [bas, hj']
theorem containsR_any {w : World} {A : Option Addr} {l : List (List UInt8)} (c : Nat) (h : Row w A (strs l)) (hn : l.length ≤ 1000000) (x : List UInt8) :
    Calls Tryd.prog 14 #[.slice A l.length c, .string ⟨x.toArray⟩] w fun e w' => e = .returned (.bool (l.contains x)) ∧ w = w' := by
  by_cases hl : l = []
  · subst hl
    refine (Tryd.slices_Contains_string_empty A c ⟨x.toArray⟩ w).mono ?_
    rintro e w' ⟨rfl, rfl⟩
    exact ⟨rfl, rfl⟩
  · obtain ⟨b, off, rfl, hc⟩ := row_bas h hl
    have hlen : (bas l).length = l.length := by simp [bas]
    refine (Tryd.slices_Contains_string b off l.length c (bas l) ⟨x.toArray⟩ w (by omega) (by omega) hc).mono ?_
    rintro e w' ⟨rfl, rfl⟩
    rw [← hlen, List.take_length, has_bas]
    exact ⟨rfl, rfl⟩
theorem equalR_any {w : World} {A B : Option Addr} {l : List (List UInt8)} (c d : Nat) (h : Row w A (strs l)) (h' : Row w B (strs l)) (hn : l.length ≤ 1000000) :
    Calls Tryd.prog 7 #[.slice A l.length c, .slice B l.length d] w fun e w' => e = .returned (.bool true) ∧ ∃ q, w' = w.drewN q := by
  go_enter Tryd.func7, Tryd.ntmps7
  go_wp2_with fail
  by_cases hl : l = []
  · subst hl
    refine (Tryd.slices_Equal_string_empty A B c 0 d w (by omega)).mono ?_
    rintro e w' ⟨rfl, rfl⟩
    go_wp2_with fail
    go_ret
    exact ⟨rfl, 0, rfl⟩
  · obtain ⟨b, off, rfl, hc⟩ := row_bas h hl
    obtain ⟨b', off', rfl, hc'⟩ := row_bas h' hl
    have hlen : (bas l).length = l.length := by simp [bas]
    refine (Tryd.slices_Equal_string b off l.length c b' off' l.length d (bas l) (bas l) w (by omega) (by omega) (by omega) (by omega) hc hc').mono ?_
    rintro e w' ⟨rfl, q, rfl⟩
    rw [decide_eq_true rfl]
    go_wp2_with fail
    go_ret
    exact ⟨rfl, q, rfl⟩
set_option maxRecDepth 100000 in
theorem libraries_any (w : World) : Calls Tryd.prog 41 #[] w fun e w' => e = .returned (.slice (some ⟨w.heap.size, 0, none⟩) 7 7) ∧ w' = w.alloc (.cells (strs sevL).toArray 9) := by
  obtain ⟨i0, hi, hz0, hz1, hz2⟩ := info_parts info_str
  go_enter Tryd.func41, Tryd.ntmps41
  go_wp2_with (refine wpList_buildSlice rfl 31 9 7 _ rfl (strs sevL).toArray i0 _ Tryd.underlying31 hi hz0 (by rw [hz1]; decide) (by rw [hz1]; decide) (by rw [hz1]; kernel_rfl) ?_)
  go_ret
  exact ⟨rfl, rfl⟩
theorem tab_keep {P : Program} {w w' : World} {n : String} {k : IntKind} {zs : List Int} (h : Lib.TabIs P w n k zs) (hb : Below w.heap.size w w') : Lib.TabIs P w' n k zs := by
  unfold Lib.TabIs World.var? at h ⊢
  cases hg : P.globalNamed n with
  | none => rw [hg] at h; simp at h
  | some g =>
    rw [hg] at h
    simp only [Option.bind_some] at h ⊢
    have hlt : g < w.heap.size := by
      rcases Nat.lt_or_ge g w.heap.size with hlt | hge
      · exact hlt
      · rw [Array.getElem?_eq_none hge] at h; simp at h
    rw [hb.block g hlt]
    exact h
theorem Env.keepB {w w' : World} (h : Env w) (hb : Below w.heap.size w w') : Env w' := tab_keep h hb
theorem all_ascii {l : List UInt8} (h : (l.all fun b => decide (b.toNat < 128)) = true) : ∀ (j : Nat) b, (⟨l.toArray⟩ : ByteArray).data.toList[j]? = some b → b.toNat < 128 := by
  intro j b hj
  have := List.all_eq_true.1 h b (List.mem_of_getElem? hj)
  simpa using this
theorem hdrFields_any (w : World) (he : Env w) : Calls Tryd.prog 42 #[.string hdrV] w fun e w' => e = .returned (.slice (some ⟨w.heap.size, 0, none⟩) 121 121) ∧ w' = w.alloc (.cells (strs hdrL).toArray 9) := by
  refine (Tryd.strings_Fields hdrV w (by decide +kernel) (all_ascii (by decide +kernel)) he).mono ?_
  rintro e w' ⟨rfl, rfl⟩
  rw [hdr_fields]
  exact ⟨rfl, rfl⟩
set_option maxRecDepth 100000 in
set_option maxHeartbeats 4000000 in
theorem libraryOf_any (n : List UInt8) (w : World) (hn : n.length ≤ 1048576) (hm : Lim w) (he : Env w) : Calls Tryd.prog 26 #[.string ⟨n.toArray⟩] w fun e w' => ∃ A c, e = .returned (.slice A (libOf n).length c) ∧ Row w' A (strs (libOf n)) ∧ Below w.heap.size w w' := by
  obtain ⟨i0, hi, hz0, hz1, hz2⟩ := info_parts info_str
  obtain ⟨b, hbb⟩ : ∃ b, w.heap.size = b := ⟨_, rfl⟩
  have HB := Lib.hid hbb
  have HLO := Lib.hid (show libOf n = if sevL.contains n then modOf hdrH n else [] from rfl)
  go_enter Tryd.func26, Tryd.ntmps26
  go_wp2_with fail
  refine (libraries_any w).mono ?_
  rintro e w1 ⟨rfl, hw1⟩
  have hB := Blk.new w 9 (strs sevL).toArray
  have hb := (Below.refl w.heap.size w).alloc (Nat.le_refl _) (.cells (strs sevL).toArray 9)
  rw [← hw1] at hB hb
  have hs1 : w1.heap.size = w.heap.size + 1 := by rw [hw1]; simp
  rw [hbb] at hB hs1 ⊢
  have he1 := he.keepB hb
  rw [hbb] at hb
  have HLM : Hid (∀ w', Below b w w' → Lim w') := Lib.hid (fun w' h => hm.keepB (by rw [hbb]; exact h))
  clear hw1 hbb hm
  have hrow : Row w1 (some ⟨b, 0, none⟩) (strs sevL) := by
    refine .inr ⟨b, 0, rfl, hB.lt, fun j u hj => ?_⟩
    rw [Nat.zero_add, hB.cell j]
    simpa using hj
  go_wp2_with fail
  refine (containsR_any 7 hrow (by decide) n).mono ?_
  rintro e w2 ⟨rfl, rfl⟩
  clear hrow hB
  cases hsv : sevL.contains n
  · rw [hsv, if_neg (by simp)] at HLO
    clear hsv
    go_wp2_with fail
    go_ret
    exact ⟨none, 0, by rw [HLO.out]; rfl, by rw [HLO.out]; exact Row.nil _ _, by rw [HB.out]; exact hb⟩
  · rw [hsv, if_pos rfl] at HLO
    clear hsv
    go_wp2_with fail
    refine Calls.cast (b := #[.string hdrV]) (by kernel_rfl) ((hdrFields_any w1 he1).mono ?_)
    rintro e w2 ⟨rfl, hw2⟩
    have hB := Blk.new w1 9 (strs hdrL).toArray
    have hb2 := hb.alloc (by omega) (.cells (strs hdrL).toArray 9)
    rw [← hw2] at hB hb2
    rw [hs1] at hB ⊢
    clear hw2 hb hs1 he1
    go_wp2_with fail
    go_loopw [3, 13] (fun v i wr => ∃ (k : Nat) (d : List (List UInt8)), k ≤ 121 ∧ i = .int .i64 (k : Int) ∧ d.length ≤ k ∧ Hid (modOf hdrH n = d ++ modOf ((hdrL.drop k).map (hd 40)) n) ∧ wr.ownsRow (b + 2) 9 1 v d.length (strs d) ∧ Below b w wr ∧ Blk wr (b + 1) 9 (strs hdrL).toArray) (fun _ i _ => 121 - (RowKit.intOf i).toNat)
    case atStart => exact ⟨0, [], by omega, rfl, Nat.le_refl _, Lib.hid rfl, World.ownsRow_nil _ _ _ _, hb2, hB⟩
    case round =>
      clear hb2 hB
      obtain ⟨k, d, hk, rfl, hdl, HC, hown, hb, hB⟩ := hrel
      have hlen : hdrL.length = 121 := by decide +kernel
      by_cases hlt : k < 121
      · obtain ⟨x, hx⟩ : ∃ x, hdrL[k]? = some x := ⟨hdrL[k], List.getElem?_eq_getElem (by omega)⟩
        have hxl : x.length ≤ 100 := by
          have := List.all_eq_true.1 (show (hdrL.all fun s => decide (s.length ≤ 100)) = true by decide +kernel) x (List.mem_of_getElem? hx)
          simpa using this
        have hdr : hdrL.drop k = x :: hdrL.drop (k + 1) := by
          obtain ⟨h1, rfl⟩ := List.getElem?_eq_some_iff.1 hx
          exact List.drop_eq_getElem_cons h1
        have hcell : wr.cell? ⟨b + 1, k, none⟩ = some (.string ⟨x.toArray⟩) := by
          rw [hB.cell k]
          simp [strs, hx]
        have HD := Lib.hid hdr
        clear hx hdr
        go_wp2_with fail
        refine (cut_any x 40 wr (by omega) (HLM.out wr hb)).mono ?_
        rintro e w2 ⟨rfl, q, rfl⟩
        have hbd := below_drewN hb q
        have hBd := hB.drewN q
        have hod : (wr.drewN q).ownsRow (b + 2) 9 1 u3 d.length (strs d) := hown
        generalize wr.drewN q = w2 at hbd hBd hod ⊢
        generalize x.contains 40 = xc
        generalize (if xc = true then tl 40 x else []) = xt
        obtain ⟨y, hy⟩ : ∃ y, hd 40 x = y := ⟨_, rfl⟩
        have HY := Lib.hid hy
        rw [hy]
        clear hb hB hcell hy hown
        have HT := Lib.hid (trimp_any y (n ++ [46]) w2)
        go_wp2_with fail
        rw [cat_dot]
        cases hq : (n ++ [46]).isPrefixOf y
        · rw [hq, if_neg (by simp)] at HT
          have HN := Lib.hid (show modOf hdrH n = d ++ modOf ((hdrL.drop (k + 1)).map (hd 40)) n from by
            rw [HC.out, HD.out, List.map_cons, modOf_cons, HY.out, hq, if_neg (by simp), List.nil_append])
          clear hq
          refine HT.out.mono ?_
          rintro e w3 ⟨rfl, rfl⟩
          have t1 : (y == y) = true := by simp
          have t2 : (y != y) = false := by simp
          go_wp2_with fail
          go_roundw
          case rel => exact ⟨k + 1, d, by omega, by go_num, by omega, HN, hod, hbd, hBd⟩
          case measure => simp [RowKit.intOf]; omega
        · rw [hq, if_pos rfl, List.length_append, List.length_singleton] at HT
          have HN := Lib.hid (show modOf hdrH n = (d ++ [y.drop (n.length + 1)]) ++ modOf ((hdrL.drop (k + 1)).map (hd 40)) n from by
            rw [HC.out, HD.out, List.map_cons, modOf_cons, HY.out, hq, if_pos rfl, List.append_assoc])
          have hne : (y.drop (n.length + 1) == y) = false := by
            have hc := pre_cut hq
            rw [beq_eq_false_iff_ne]
            intro e
            have h1 := congrArg List.length e
            have h2 := congrArg List.length hc
            simp at h1 h2
            omega
          have hne2 : (y.drop (n.length + 1) != y) = true := by rw [bne, hne]; rfl
          clear hq
          refine HT.out.mono ?_
          rintro e w3 ⟨rfl, rfl⟩
          generalize y.drop (n.length + 1) = z at HN hne hne2 ⊢
          have hbl := hBd.lt
          go_wp2_with (at_builtin; refine wpList_append_own_at _ rfl (.tmp 30) (.tmp 32) 31 rfl (b + 2) 9 i0 (.string ByteArray.empty) 1 16 Tryd.underlying31 hi hz0 hz1 hz2 rfl (by decide) _ _ _ rfl (hod.alloc _) ⟨w2.heap.size, 0, none⟩ 1 1 [_] rfl rfl (cell_one_new w2 _ _) (by simp [Value.oneCell']) (by unfold maxLen; omega) (by omega) (by simp; omega) ?_; intro v2 w2 hown2 hg2 _ hat2)
          have hb2 := (hbd.alloc (by omega) _).grown hg2 (by simp; omega) (fun g e => by have := hod.lt g e; omega)
          have hB2 := (hBd.alloc _).grown hg2 (fun e => by have := hod.lt _ e.symm; omega)
          go_roundw
          case rel => exact ⟨k + 1, d ++ [z], by omega, by go_num, by simp; omega, HN, by rw [strs_snoc, List.length_append, List.length_singleton]; exact hown2, hb2, hB2⟩
          case measure => simp [RowKit.intOf]; omega
      · have HN := Lib.hid (show modOf hdrH n = d from by
          rw [HC.out, List.drop_eq_nil_of_le (by omega), show modOf (([] : List (List UInt8)).map (hd 40)) n = [] from rfl, List.append_nil])
        obtain ⟨A, c, rfl, hr, hc⟩ := own_form hown
        go_wp2_with fail
        go_ret
        exact ⟨A, c, by rw [HLO.out, HN.out]; rfl, by rw [HLO.out, HN.out]; exact hr, by rw [HB.out]; exact hb⟩
end Go.Proofs.YtfpmnkokmlghmaaDoor
