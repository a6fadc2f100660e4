/- The built-in names: the names of a module of the library. Nothing is claimed here. -/
import Derived.Laws.Strings2
import Derived.Lib.Hide
import Derived.Test.YtfpmnkokmlghmaaDoorBltC
namespace Go.Proofs.YtfpmnkokmlghmaaDoor
open Go.RowKit Go.Lib Go.Shelf
set_option linter.unusedVariables false

theorem info_str : (Tryd.prog.info? 9).map (fun i => (i.zero, i.size, i.bytes)) = some (some (.string ByteArray.empty), 1, 16) := by kernel_rfl
theorem strs_snoc (d : List (List UInt8)) (x : List UInt8) : strs (d ++ [x]) = strs d ++ [.string ⟨x.toArray⟩] := by simp [strs]
theorem cat_dot (a : List UInt8) : (⟨a.toArray⟩ : ByteArray) ++ (⟨#[46]⟩ : ByteArray) = ⟨(a ++ [46]).toArray⟩ := by
  apply ByteArray.ext
  rw [ByteArray.data_append]
  simp
theorem hasp_any (s p : List UInt8) (w : World) : Calls Tryd.prog 24 #[.string ⟨s.toArray⟩, .string ⟨p.toArray⟩] w fun e w' => e = .returned (.bool (p.isPrefixOf s)) ∧ w = w' := by
  refine (Tryd.strings_HasPrefix ⟨s.toArray⟩ ⟨p.toArray⟩ w).mono ?_
  rintro e w' ⟨rfl, rfl⟩
  exact ⟨rfl, rfl⟩
theorem trimp_any (s p : List UInt8) (w : World) : Calls Tryd.prog 25 #[.string ⟨s.toArray⟩, .string ⟨p.toArray⟩] w fun e w' => e = .returned (.string ⟨(if p.isPrefixOf s then s.drop p.length else s).toArray⟩) ∧ w = w' := by
  refine (Tryd.strings_TrimPrefix ⟨s.toArray⟩ ⟨p.toArray⟩ w).mono ?_
  rintro e w' ⟨rfl, rfl⟩
  exact ⟨rfl, rfl⟩
theorem modOf_cons (h : List UInt8) (l : List (List UInt8)) (n : List UInt8) : modOf (h :: l) n = (if (n ++ [46]).isPrefixOf h then [h.drop (n.length + 1)] else []) ++ modOf l n := by
  unfold modOf
  rw [List.filter_cons]
  split
  · rw [List.map_cons]
    rfl
  · rfl
set_option maxRecDepth 100000 in
set_option maxHeartbeats 4000000 in
theorem module_any (n : List UInt8) (w : World) (hn : n.length ≤ 1048576) (hm : Lim w) : Calls Tryd.prog 8 #[.string ⟨n.toArray⟩] w fun e w' => ∃ A c, e = .returned (.slice A (modOf libH n).length c) ∧ Row w' A (strs (modOf libH n)) ∧ Below w.heap.size w w' := by
  obtain ⟨i0, hi, hz0, hz1, hz2⟩ := info_parts info_str
  obtain ⟨b, hbb⟩ : ∃ b, w.heap.size = b := ⟨_, rfl⟩
  have HB := Lib.hid hbb
  go_enter Tryd.func8, Tryd.ntmps8
  go_wp2_with fail
  refine Calls.cast (b := #[.string libV, .string ⟨#[10]⟩]) (by kernel_rfl) ((libSplit_any w hm).mono ?_)
  rintro e w1 ⟨rfl, hw1⟩
  have hB := Blk.new w 9 (strs libL).toArray
  have hb := (Below.refl w.heap.size w).alloc (Nat.le_refl _) (.cells (strs libL).toArray 9)
  rw [← hw1] at hB hb
  rw [hbb] at hB hb ⊢
  have HLM : Hid (∀ w', Below b w w' → Lim w') := Lib.hid (fun w' h => hm.keepB (by rw [hbb]; exact h))
  clear hw1 hbb hm
  go_wp2_with fail
  go_loopw [3, 11] (fun v i wr => ∃ (k : Nat) (d : List (List UInt8)), k ≤ 22 ∧ i = .int .i64 (k : Int) ∧ d.length ≤ k ∧ Hid (modOf libH n = d ++ modOf ((libL.drop k).map (hd 32)) n) ∧ wr.ownsRow (b + 1) 9 1 v d.length (strs d) ∧ Below b w wr ∧ Blk wr b 9 (strs libL).toArray) (fun _ i _ => 22 - (RowKit.intOf i).toNat)
  case atStart => exact ⟨0, [], by omega, rfl, Nat.le_refl _, Lib.hid rfl, World.ownsRow_nil _ _ _ _, hb, hB⟩
  case round =>
    clear hb hB
    obtain ⟨k, d, hk, rfl, hdl, HC, hown, hb, hB⟩ := hrel
    have hlen : libL.length = 22 := by decide +kernel
    by_cases hlt : k < 22
    · obtain ⟨x, hx⟩ : ∃ x, libL[k]? = some x := ⟨libL[k], List.getElem?_eq_getElem (by omega)⟩
      have hxl : x.length ≤ 100 := by
        have := List.all_eq_true.1 (show (libL.all fun s => decide (s.length ≤ 100)) = true by decide +kernel) x (List.mem_of_getElem? hx)
        simpa using this
      have hdr : libL.drop k = x :: libL.drop (k + 1) := by
        obtain ⟨h1, rfl⟩ := List.getElem?_eq_some_iff.1 hx
        exact List.drop_eq_getElem_cons h1
      have hcell : wr.cell? ⟨b, k, none⟩ = some (.string ⟨x.toArray⟩) := by
        rw [hB.cell k]
        simp [strs, hx]
      have HD := Lib.hid hdr
      clear hx hdr
      go_wp2_with fail
      refine (cut_any x 32 wr (by omega) (HLM.out wr hb)).mono ?_
      rintro e w2 ⟨rfl, q, rfl⟩
      have hbd := below_drewN hb q
      have hBd := hB.drewN q
      have hod : (wr.drewN q).ownsRow (b + 1) 9 1 u3 d.length (strs d) := hown
      generalize wr.drewN q = w2 at hbd hBd hod ⊢
      generalize x.contains 32 = xc
      generalize (if xc = true then tl 32 x else []) = xt
      obtain ⟨y, hy⟩ : ∃ y, hd 32 x = y := ⟨_, rfl⟩
      have HY := Lib.hid hy
      rw [hy]
      clear hb hB hcell hy hown
      go_wp2_with fail
      rw [cat_dot]
      refine (hasp_any y (n ++ [46]) w2).mono ?_
      rintro e w3 ⟨rfl, rfl⟩
      cases hq : (n ++ [46]).isPrefixOf y
      · have HN := Lib.hid (show modOf libH n = d ++ modOf ((libL.drop (k + 1)).map (hd 32)) n from by
          rw [HC.out, HD.out, List.map_cons, modOf_cons, HY.out, hq, if_neg (by simp), List.nil_append])
        clear hq
        go_wp2_with fail
        go_roundw
        case rel => exact ⟨k + 1, d, by omega, by go_num, by omega, HN, hod, hbd, hBd⟩
        case measure => simp [RowKit.intOf]; omega
      · have HN := Lib.hid (show modOf libH n = (d ++ [y.drop (n.length + 1)]) ++ modOf ((libL.drop (k + 1)).map (hd 32)) n from by
          rw [HC.out, HD.out, List.map_cons, modOf_cons, HY.out, hq, if_pos rfl, List.append_assoc])
        have HT := Lib.hid (trimp_any y (n ++ [46]) w2)
        rw [hq, if_pos rfl, List.length_append, List.length_singleton] at HT
        clear hq
        go_wp2_with fail
        rw [cat_dot]
        refine HT.out.mono ?_
        rintro e w3 ⟨rfl, rfl⟩
        generalize y.drop (n.length + 1) = z at HN ⊢
        have hbl := hBd.lt
        go_wp2_with (at_builtin; refine wpList_append_own_at _ rfl (.tmp 25) (.tmp 30) 31 rfl (b + 1) 9 i0 (.string ByteArray.empty) 1 16 Tryd.underlying31 hi hz0 hz1 hz2 rfl (by decide) _ _ _ rfl (hod.alloc _) ⟨w2.heap.size, 0, none⟩ 1 1 [_] rfl rfl (cell_one_new w2 _ _) (by simp [Value.oneCell']) (by unfold maxLen; omega) (by omega) (by simp; omega) ?_; intro v2 w2 hown2 hg2 _ hat2)
        have hb2 := (hbd.alloc (by omega) _).grown hg2 (by simp; omega) (fun g e => by have := hod.lt g e; omega)
        have hB2 := (hBd.alloc _).grown hg2 (fun e => by have := hod.lt b e.symm; omega)
        go_roundw
        case rel => exact ⟨k + 1, d ++ [z], by omega, by go_num, by simp; omega, HN, by rw [strs_snoc, List.length_append, List.length_singleton]; exact hown2, hb2, hB2⟩
        case measure => simp [RowKit.intOf]; omega
    · have HN := Lib.hid (show modOf libH n = d from by
        rw [HC.out, List.drop_eq_nil_of_le (by omega), show modOf (([] : List (List UInt8)).map (hd 32)) n = [] from rfl, List.append_nil])
      obtain ⟨A, c, rfl, hr, hc⟩ := own_form hown
      go_wp2_with fail
      go_ret
      exact ⟨A, c, by rw [HN.out]; rfl, by rw [HN.out]; exact hr, by rw [HB.out]; exact hb⟩
end Go.Proofs.YtfpmnkokmlghmaaDoor
