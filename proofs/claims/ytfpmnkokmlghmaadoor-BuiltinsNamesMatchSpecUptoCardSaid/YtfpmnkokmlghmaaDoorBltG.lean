/- The built-in names: has the library a function of a name? Nothing is claimed here. -/
import Derived.Test.YtfpmnkokmlghmaaDoorBltF
namespace Go.Proofs.YtfpmnkokmlghmaaDoor
open Go.RowKit Go.Lib Go.Shelf
set_option linter.unusedVariables false

theorem info_val : (Tryd.prog.info? 26).map (fun i => (i.zero, i.size, i.bytes)) = some (some (valA 0 [] 0), 7, 96) := by kernel_rfl
theorem info_exp : (Tryd.prog.info? 74).map (fun i => (i.zero, i.size, i.bytes)) = some (some (.agg #[.int .i64 0, .int .i64 0, .int .i64 0, .bool false, .slice none 0 0, .bool false, .slice none 0 0, .string ⟨#[]⟩, .int .i64 0, .string ⟨#[]⟩, .int .i64 0, .slice none 0 0, .slice none 0 0, .slice none 0 0, .slice none 0 0]), 15, 232) := by kernel_rfl
theorem info_par : (Tryd.prog.info? 67).map (fun i => (i.zero, i.size, i.bytes)) = some (some (.agg #[.int .i64 0, .string ⟨#[]⟩, .slice none 0 0]), 3, 48) := by kernel_rfl
theorem hInt_zero (w : World) : Calls Tryd.prog 43 #[.int .i64 0] w fun e w' => e = .returned (valA 2 [] 0) ∧ Below w.heap.size w w' := by
  go_enter Tryd.func43, Tryd.ntmps43
  go_wp2_with fail
  go_loop [4] (fun v => v = .int .u64 0) (fun _ => 0)
  case atStart => rfl
  case round =>
    subst hrel
    go_wp2
    have h1 := Blk.new w 26 (valC 2 [] 0)
    have hb := ((Below.refl w.heap.size w).alloc (Nat.le_refl _) (.cells (valC 2 [] 0) 26)).alloc (by simp) (.cells (valC 2 [] 0) 26)
    exact ret_blk rfl rfl (h1.alloc _) _ Tryd.underlying26 rfl (by kernel_rfl) rfl ⟨rfl, hb⟩
theorem own_grown {w w' : World} {base : Nat} {e : TypeId} {size n : Nat} {v : Value} {xs : List Value} {row : Option Nat} (h : w.ownsRow base e size v n xs) (hg : w.grownBy w' row) (hne : ∀ g, v.ownBlock = some g → some g ≠ row) : w'.ownsRow base e size v n xs := by
  refine ⟨h.1, ?_⟩
  rcases h.2 with h2 | ⟨g, cap, cur, hv, hg', hh, r⟩
  · exact Or.inl h2
  · exact Or.inr ⟨g, cap, cur, hv, hg', by rw [hg.block g (Array.getElem?_eq_some_iff.1 hh).1 (hne g (by rw [hv]; rfl))]; exact hh, r⟩
theorem own_far {w : World} {base : Nat} {e : TypeId} {size n : Nat} {v : Value} {xs : List Value} {p : Addr} (h : w.ownsRow base e size v n xs) (hne : ∀ g, v.ownBlock = some g → g ≠ p.block) (u : Value) : (w.setCell p u).ownsRow base e size v n xs := by
  refine ⟨h.1, ?_⟩
  rcases h.2 with h2 | ⟨g, cap, cur, hv, hg', hh, r⟩
  · exact Or.inl h2
  · exact Or.inr ⟨g, cap, cur, hv, hg', by rw [Below.heap_setCell w p u g (hne g (by rw [hv]; rfl))]; exact hh, r⟩
theorem own_below {w w' : World} {base : Nat} {e : TypeId} {size n : Nat} {v : Value} {xs : List Value} (h : w.ownsRow base e size v n xs) (hb : Below w.heap.size w w') : w'.ownsRow base e size v n xs := by
  refine ⟨h.1, ?_⟩
  rcases h.2 with h2 | ⟨g, cap, cur, hv, hg', hh, r⟩
  · exact Or.inl h2
  · exact Or.inr ⟨g, cap, cur, hv, hg', by rw [hb.block g (Array.getElem?_eq_some_iff.1 hh).1]; exact hh, r⟩
theorem own_heap {w : World} {base : Nat} {e : TypeId} {size n : Nat} {v : Value} {xs : List Value} (h : w.ownsRow base e size v n xs) {g : Nat} (hg : v.ownBlock = some g) : ∃ cur, w.heap[g]? = some (.cells cur e) := by
  rcases h.2 with ⟨h2, _⟩ | ⟨g', cap, cur, hv, hg', hh, r⟩
  · rw [h2] at hg
    cases hg
  · rw [hv] at hg
    obtain rfl : g' = g := by simpa [Value.ownBlock] using hg
    exact ⟨cur, hh⟩
theorem own_sep {w : World} {base base' : Nat} {e e' : TypeId} {size size' n n' : Nat} {v v' : Value} {xs xs' : List Value} (h : w.ownsRow base e size v n xs) (h' : w.ownsRow base' e' size' v' n' xs') (hne : e ≠ e') : ∀ g, v.ownBlock = some g → some g ≠ v'.ownBlock := by
  intro g hg hg'
  obtain ⟨c1, h1⟩ := own_heap h hg
  obtain ⟨c2, h2⟩ := own_heap h' hg'.symm
  rw [h1] at h2
  injection h2 with h2
  injection h2 with h2 h3
  exact hne h3
theorem new_three (w : World) (a b c : Value) (t : TypeId) : ∀ j u, [a, b, c][j]? = some u → (w.alloc (.cells #[a, b, c] t)).cell? ((⟨w.heap.size, 0, none⟩ : Addr).add j) = some u := by
  intro j u h
  have := (Blk.new w t #[a, b, c]).cell j
  rw [show ((⟨w.heap.size, 0, none⟩ : Addr).add j) = ⟨w.heap.size, j, none⟩ from by simp [Addr.add]; omega, this]
  simpa using h
theorem new_val (w : World) (k : Int) (x : List UInt8) (r : Int) (t : TypeId) : ∀ j u, (valC k x r).toList[j]? = some u → (w.alloc (.cells (valC k x r) t)).cell? ((⟨w.heap.size, 0, none⟩ : Addr).add j) = some u := by
  intro j u h
  have := (Blk.new w t (valC k x r)).cell j
  rw [show ((⟨w.heap.size, 0, none⟩ : Addr).add j) = ⟨w.heap.size, j, none⟩ from by simp [Addr.add]; omega, this]
  simpa using h
theorem val_one (k : Int) (x : List UInt8) (r : Int) : ∀ u ∈ (valC k x r).toList, u.oneCell' = true := by
  intro u h
  simp [valC] at h
  rcases h with rfl | rfl | rfl | rfl | rfl | rfl | rfl <;> rfl
theorem fill_val : Instr.fill (fun i => some (i * 7, 7)) (Array.map (fun x => (valA 0 [] 0).cells[x % (valA 0 [] 0).cells.size]!) (Array.range (1 * 7))) [(0, valA 2 [] 0)] = some (valC 2 [] 0) := by kernel_rfl
theorem lib_words : (libL.all fun s => decide (s.length ≤ 100) && decide (2 ≤ (Lib.fields s).length ∧ (Lib.fields s).length ≤ 10) && (Lib.fields s).all (fun t => decide (t.length ≤ 100)) && (Lib.fields s).head? == some (hd 32 s) && s.all fun b => decide (b.toNat < 128)) = true := by decide +kernel
set_option maxRecDepth 100000 in
set_option maxHeartbeats 4000000 in
theorem lsig_any (n : List UInt8) (w : World) (hm : Lim w) (he : Env w) : Calls Tryd.prog 27 #[.string ⟨n.toArray⟩] w fun e w' => (∃ v1 v2, e = .returned (.tuple #[v1, v2, .bool (libH.contains n)])) ∧ Below w.heap.size w w' := by
  obtain ⟨iv, hiv, hvz0, hvz1, hvz2⟩ := info_parts info_val
  obtain ⟨ie, hie, hez0, hez1, hez2⟩ := info_parts info_exp
  obtain ⟨ip, hip, hpz0, hpz1, hpz2⟩ := info_parts info_par
  obtain ⟨b, hbb⟩ : ∃ b, w.heap.size = b := ⟨_, rfl⟩
  have HB := Lib.hid hbb
  go_enter Tryd.func27, Tryd.ntmps27
  go_wp2_with fail
  refine Calls.cast (b := #[.string libV, .string ⟨#[10]⟩]) (by kernel_rfl) ((libSplit_any w hm).mono ?_)
  rintro e w1 ⟨rfl, hw1⟩
  have hB := Blk.new w 9 (strs libL).toArray
  have hb := (Below.refl w.heap.size w).alloc (Nat.le_refl _) (.cells (strs libL).toArray 9)
  rw [← hw1] at hB hb
  rw [hbb] at hB hb ⊢
  have HLM : Hid (∀ w', Below b w w' → Lim w' ∧ Env w') := Lib.hid (fun w' h => ⟨hm.keepB (by rw [hbb]; exact h), he.keepB (by rw [hbb]; exact h)⟩)
  clear hw1 hbb hm he
  go_wp2_with fail
  go_loopw [18] (fun i wr => ∃ (k : Nat), k ≤ 22 ∧ i = .int .i64 (k : Int) ∧ Hid (libH.contains n = ((libL.drop k).map (hd 32)).contains n) ∧ Below b w wr ∧ Blk wr b 9 (strs libL).toArray) (fun i _ => 22 - (RowKit.intOf i).toNat)
  case atStart => exact ⟨0, by omega, rfl, Lib.hid rfl, hb, hB⟩
  case round =>
    clear hb hB
    obtain ⟨k, hk, rfl, HC, hb, hB⟩ := hrel
    have hlen : libL.length = 22 := by decide +kernel
    by_cases hlt : k < 22
    · obtain ⟨x, hx⟩ : ∃ x, libL[k]? = some x := ⟨libL[k], List.getElem?_eq_getElem (by omega)⟩
      have hxx := List.all_eq_true.1 lib_words x (List.mem_of_getElem? hx)
      simp only [Bool.and_eq_true, decide_eq_true_eq, beq_iff_eq] at hxx
      obtain ⟨⟨⟨⟨hxl, hfl⟩, hft⟩, hfh⟩, hxa⟩ := hxx
      have hdr : libL.drop k = x :: libL.drop (k + 1) := by
        obtain ⟨h1, rfl⟩ := List.getElem?_eq_some_iff.1 hx
        exact List.drop_eq_getElem_cons h1
      have hcell : wr.cell? ⟨b, k, none⟩ = some (.string ⟨x.toArray⟩) := by
        rw [hB.cell k]
        simp [strs, hx]
      have HD := Lib.hid hdr
      have HFT := Lib.hid hft
      have HFH := Lib.hid hfh
      have HFX := Lib.hid (Tryd.strings_Fields ⟨x.toArray⟩ wr (by simp [ByteArray.size]; omega) (all_ascii hxa) (HLM.out wr hb).2)
      clear hx hdr hft hfh hxa
      go_wp2_with fail
      refine HFX.out.mono ?_
      rintro e w2 ⟨rfl, hw2⟩
      clear HFX
      change w2 = wr.alloc (.cells (strs (Lib.fields x)).toArray 9) at hw2
      obtain ⟨f, hf⟩ : ∃ f, Lib.fields x = f := ⟨_, rfl⟩
      rw [hf] at hw2 HFT HFH hfl ⊢
      clear hf
      obtain ⟨y, fr, rfl⟩ : ∃ y fr, f = y :: fr := by
        cases f with
        | nil => have := HFH.out; simp at this
        | cons y fr => exact ⟨y, fr, rfl⟩
      have HY : Hid (hd 32 x = y) := Lib.hid (by have := HFH.out; simp at this; exact this.symm)
      have hF := Blk.new wr 9 (strs (y :: fr)).toArray
      have ba := (Below.refl wr.heap.size wr).alloc (Nat.le_refl _) (.cells (strs (y :: fr)).toArray 9)
      have hbs := hb.size
      rw [HB.out] at hbs
      have hb2 := hb.alloc hbs (.cells (strs (y :: fr)).toArray 9)
      rw [← hw2] at hF ba hb2
      have hB2 := hB.belowS ba
      obtain ⟨g, hg⟩ : ∃ g, wr.heap.size = g := ⟨_, rfl⟩
      rw [hg] at hF hbs ⊢
      have hs2 : w2.heap.size = g + 1 := by rw [hw2, ← hg]; simp
      clear hw2 hg ba hb hB hcell
      have hc0 : w2.cell? ⟨g, 0, none⟩ = some (.string ⟨y.toArray⟩) := by rw [hF.cell 0]; simp [strs]
      cases hq : (y == n)
      · have hq2 : (y != n) = true := by rw [bne, hq]; rfl
        have HN := Lib.hid (show libH.contains n = ((libL.drop (k + 1)).map (hd 32)).contains n from by
          rw [HC.out, HD.out, List.map_cons, List.contains_cons, HY.out, show (n == y) = false from by rw [beq_eq_false_iff_ne] at hq ⊢; exact fun e => hq e.symm, Bool.false_or])
        go_wp2_with fail
        go_roundw
        case rel => exact ⟨k + 1, by omega, by go_num, HN, hb2, hB2⟩
        case measure => simp [RowKit.intOf]; omega
      · have hq2 : (y != n) = false := by rw [bne, hq]; rfl
        have HN := Lib.hid (show libH.contains n = true from by
          rw [HC.out, HD.out, List.map_cons, List.contains_cons, HY.out, show (n == y) = true from by rw [beq_iff_eq] at hq ⊢; exact hq.symm, Bool.true_or])
        clear hB2
        have hfl2 : fr.length ≤ 9 := by simp at hfl; omega
        have hfl1 : 1 ≤ fr.length := by simp at hfl; omega
        have HTT := Lib.hid (show ∀ t ∈ fr, t.length ≤ 100 from fun t ht => by have := List.all_eq_true.1 HFT.out t (List.mem_cons_of_mem _ ht); simpa using this)
        obtain ⟨L, hL⟩ : ∃ L, fr.length = L := ⟨_, rfl⟩
        have hLL : (y :: fr).length = L + 1 := by rw [List.length_cons, hL]
        rw [hLL]
        rw [hL] at hfl1 hfl2
        have HLL := Lib.hid hL
        clear hfl hL hLL
        go_wp2_with fail
        go_loopw [8, 9, 32] (fun u v i wr => ∃ (j np nd : Nat) (xs ys : List Value), j ≤ L ∧ i = .int .i64 (j : Int) ∧ np ≤ j ∧ nd ≤ j ∧ wr.ownsRow (g + 1) 67 3 u np xs ∧ wr.ownsRow (g + 1) 26 7 v nd ys ∧ Below b w wr ∧ Blk wr g 9 (strs (y :: fr)).toArray) (fun _ _ i _ => L - (RowKit.intOf i).toNat)
        case atStart => exact ⟨0, 0, 0, [], [], by omega, rfl, Nat.le_refl _, Nat.le_refl _, World.ownsRow_nil _ _ _ _, World.ownsRow_nil _ _ _ _, hb2, hF⟩
        case round =>
          clear hb2 hF hc0 hs2
          obtain ⟨j, np, nd, xs, ys, hj, rfl, hnp, hnd, hop, hov, hb, hF⟩ := hrel
          by_cases hjl : j < L
          · obtain ⟨z, hz⟩ : ∃ z, fr[j]? = some z := ⟨fr[j]'(by rw [HLL.out]; exact hjl), List.getElem?_eq_getElem (by rw [HLL.out]; exact hjl)⟩
            have hzl := HTT.out z (List.mem_of_getElem? hz)
            have hcell : wr.cell? ⟨g, 1 + j, none⟩ = some (.string ⟨z.toArray⟩) := by
              rw [hF.cell (1 + j), Nat.add_comm 1 j]
              simp [strs, hz]
            have HLW := HLM.out wr hb
            clear hz
            go_wp2_with fail
            refine (cut_any z 61 wr (by omega) HLW.1).mono ?_
            rintro e w3 ⟨rfl, q, rfl⟩
            have hb3 := below_drewN hb q
            have hF3 := hF.drewN q
            have hop3 : (wr.drewN q).ownsRow (g + 1) 67 3 u8 np xs := hop
            have hov3 : (wr.drewN q).ownsRow (g + 1) 26 7 u9 nd ys := hov
            generalize wr.drewN q = w3 at hb3 hF3 hop3 hov3 ⊢
            generalize (if z.contains 61 = true then tl 61 z else []) = zt
            generalize hd 61 z = zn
            clear hb hF hop hov hcell HLW hzl
            cases hzc : z.contains 61
            · clear hzc
              go_upto_region 16 with fail
              have hlp8 : ∀ g', u8.ownBlock = some g' → g' ≠ w3.heap.size := fun g' e => by have := hop3.lt g' e; omega
              have hlp9 : ∀ g', u9.ownBlock = some g' → g' ≠ w3.heap.size := fun g' e => by have := hov3.lt g' e; omega
              have hgp : g ≠ w3.heap.size := by have := hF3.lt; omega
              have hP := Blk.new w3 67 #[.int .i64 0, .string ⟨zn.toArray⟩, .slice none 0 0]
              have hbs3 := hb3.size
              rw [HB.out] at hbs3
              have hb4 := hb3.alloc hbs3 (.cells #[.int .i64 0, .string ⟨zn.toArray⟩, .slice none 0 0] 67)
              have hF4 := hF3.alloc (.cells #[.int .i64 0, .string ⟨zn.toArray⟩, .slice none 0 0] 67)
              have hop4 := hop3.alloc (.cells #[.int .i64 0, .string ⟨zn.toArray⟩, .slice none 0 0] 67)
              have hov4 := hov3.alloc (.cells #[.int .i64 0, .string ⟨zn.toArray⟩, .slice none 0 0] 67)
              obtain ⟨w4, hw4⟩ : ∃ x, w3.alloc (.cells #[.int .i64 0, .string ⟨zn.toArray⟩, .slice none 0 0] 67) = x := ⟨_, rfl⟩
              obtain ⟨pb, hpb⟩ : ∃ x, w3.heap.size = x := ⟨_, rfl⟩
              rw [hw4, hpb] at hP
              rw [hpb] at hlp8 hlp9 hgp hbs3
              rw [hw4] at hb4 hF4 hop4 hov4
              rw [hw4, hpb]
              clear hw4 hpb hb3 hF3 hop3 hov3
              obtain ⟨q1, q2, q3⟩ := hP.rules
              have hgl := hF4.lt
              have hbs := hb4.size
              rw [HB.out] at hbs
              clear hP
              go_wp2_with (at_builtin; refine wpList_append_own_at _ rfl (.tmp 51) (.tmp 53) 48 rfl (g + 1) 67 ip _ 3 48 Tryd.underlying48 hip hpz0 hpz1 hpz2 rfl (by decide) _ _ _ rfl (hop4.alloc _) ⟨w4.heap.size, 0, none⟩ 1 1 [_, _, _] rfl rfl (new_three w4 _ _ _ _) (by simp [Value.oneCell']) (by unfold maxLen; omega) (by omega) (by simp; omega) ?_; intro v2 w2 hown2 hg2 _ hat2)
              have hov2 := own_grown (hov4.alloc _) hg2 (own_sep hov4 hop4 (by decide))
              have hb2 := (hb4.alloc hbs _).grown hg2 (by simp; omega) (fun g' e => by have := hop4.lt g' e; omega)
              have hF2 := (hF4.alloc _).grown hg2 (fun e => by have := hop4.lt _ e.symm; omega)
              go_roundw
              case rel => exact ⟨j + 1, np + 1, nd, _, _, by omega, by go_num, by omega, by omega, hown2, hov2, hb2, hF2⟩
              case measure => simp [RowKit.intOf]; omega
            · clear hzc
              go_upto_region 14 with fail
              have hlp8 : ∀ g', u8.ownBlock = some g' → g' ≠ w3.heap.size := fun g' e => by have := hop3.lt g' e; omega
              have hlp9 : ∀ g', u9.ownBlock = some g' → g' ≠ w3.heap.size := fun g' e => by have := hov3.lt g' e; omega
              have hgp : g ≠ w3.heap.size := by have := hF3.lt; omega
              have hP := Blk.new w3 67 #[.int .i64 0, .string ⟨zn.toArray⟩, .slice none 0 0]
              have hbs3 := hb3.size
              rw [HB.out] at hbs3
              have hb4 := hb3.alloc hbs3 (.cells #[.int .i64 0, .string ⟨zn.toArray⟩, .slice none 0 0] 67)
              have hF4 := hF3.alloc (.cells #[.int .i64 0, .string ⟨zn.toArray⟩, .slice none 0 0] 67)
              have hop4 := hop3.alloc (.cells #[.int .i64 0, .string ⟨zn.toArray⟩, .slice none 0 0] 67)
              have hov4 := hov3.alloc (.cells #[.int .i64 0, .string ⟨zn.toArray⟩, .slice none 0 0] 67)
              obtain ⟨w4, hw4⟩ : ∃ x, w3.alloc (.cells #[.int .i64 0, .string ⟨zn.toArray⟩, .slice none 0 0] 67) = x := ⟨_, rfl⟩
              obtain ⟨pb, hpb⟩ : ∃ x, w3.heap.size = x := ⟨_, rfl⟩
              rw [hw4, hpb] at hP
              rw [hpb] at hlp8 hlp9 hgp hbs3
              rw [hw4] at hb4 hF4 hop4 hov4
              rw [hw4, hpb]
              clear hw4 hpb hb3 hF3 hop3 hov3
              obtain ⟨w5, hrun, hmk, hg5⟩ := run_make_full (P := Tryd.prog) w4 0 65 74 ie _ 15 Tryd.underlying65 hie hez0 hez1 .i64 .i64 1 (by rw [hez2]; decide) (by decide) (by omega)
              clear hmk
              rw [show ((1 : Nat) : Int) = 1 from rfl] at hrun
              have hP5 := hP.grown hg5 (by simp)
              obtain ⟨q1, q2, q3⟩ := hP5.rules
              go_upto_region 15 with fail
              clear hrun
              have hb5 := hb4.grown hg5 (by have := hb4.size; rw [HB.out] at this; exact this) (fun k e => by cases e)
              have hF5 := hF4.grown hg5 (by simp)
              have hop5 := own_grown hop4 hg5 (by simp)
              have hov5 := own_grown hov4 hg5 (by simp)
              have hb6 := hb5.setCell (p := ⟨pb, 2, none⟩) hbs3 (.slice (some ⟨w4.heap.size, 0, none⟩) 1 1)
              have hF6 := hF5.far (p := ⟨pb, 2, none⟩) hgp (.slice (some ⟨w4.heap.size, 0, none⟩) 1 1)
              have hop6 := own_far (p := ⟨pb, 2, none⟩) hop5 hlp8 (.slice (some ⟨w4.heap.size, 0, none⟩) 1 1)
              have hov6 := own_far (p := ⟨pb, 2, none⟩) hov5 hlp9 (.slice (some ⟨w4.heap.size, 0, none⟩) 1 1)
              have hP6 := hP5.set_ 2 (.slice (some ⟨w4.heap.size, 0, none⟩) 1 1)
              obtain ⟨eb, heb⟩ : ∃ x, w4.heap.size = x := ⟨_, rfl⟩
              rw [heb] at hb6 hF6 hop6 hov6 hP6 ⊢
              obtain ⟨w6, hw6⟩ : ∃ x, w5.setCell ⟨pb, 2, none⟩ (.slice (some ⟨eb, 0, none⟩) 1 1) = x := ⟨_, rfl⟩
              rw [hw6] at hb6 hF6 hop6 hov6 hP6 ⊢
              clear hw6 heb q1 q2 q3 hP5 hb5 hF5 hop5 hov5 hb4 hF4 hop4 hov4 hP hg5
              as_aux_lemma =>
              go_wp2_with fail
              refine (hInt_zero w6).mono ?_
              rintro e w7 ⟨rfl, ba⟩
              have hb7 := below_then hb6 ba (by have := hb6.size; rw [HB.out] at this; exact this)
              have hF7 := hF6.belowS ba
              have hop7 := own_below hop6 ba
              have hov7 := own_below hov6 ba
              have hP7 := hP6.belowS ba
              have hgl := hF7.lt
              clear ba hb6 hF6 hop6 hov6 hP6
              go_upto_region 16 with (first | (refine wpList_buildSlice rfl 49 26 1 _ rfl (valC 2 [] 0) iv _ Tryd.underlying49 hiv hvz0 (by rw [hvz1]; decide) (by rw [hvz1]; decide) (by rw [hvz1, Array.toList_map]; exact fill_val) ?_) | (at_builtin; refine wpList_append_own_at _ rfl (.tmp 47) (.tmp 49) 49 rfl (g + 1) 26 iv _ 7 96 Tryd.underlying49 hiv hvz0 hvz1 hvz2 rfl (by decide) _ _ _ rfl (hov7.alloc _) ⟨w7.heap.size, 0, none⟩ 1 1 (valC 2 [] 0).toList rfl rfl (new_val w7 _ _ _ _) (val_one _ _ _) (by unfold maxLen; omega) (by omega) (by simp; omega) ?_; intro v8 w8 hown8 hg8 _ hat8))
              have hb8 := (hb7.alloc (by have := hb7.size; rw [HB.out] at this; exact this) _).grown hg8 (by simp; omega) (fun g' e => by have := hov7.lt g' e; omega)
              have hF8 := (hF7.alloc _).grown hg8 (fun e => by have := hov7.lt _ e.symm; omega)
              have hP8 := (hP7.alloc _).grown hg8 (fun e => by obtain ⟨c1, h1⟩ := own_heap hov7 e.symm; have h2 := hP7; unfold Blk at h2; rw [h1] at h2; injection h2 with h2; injection h2 with h2 h3; exact absurd h3 (by decide))
              have hop8 := own_grown (hop7.alloc _) hg8 (own_sep hop7 hov7 (by decide))
              clear hb7 hF7 hP7 hop7 hov7 hg8 hgl hat8
              obtain ⟨q1, q2, q3⟩ := hP8.rules
              have hgl := hF8.lt
              have hbs := hb8.size
              rw [HB.out] at hbs
              clear hP8
              go_wp2_with (at_builtin; refine wpList_append_own_at _ rfl (.tmp 51) (.tmp 53) 48 rfl (g + 1) 67 ip _ 3 48 Tryd.underlying48 hip hpz0 hpz1 hpz2 rfl (by decide) _ _ _ rfl (hop8.alloc _) ⟨w8.heap.size, 0, none⟩ 1 1 [_, _, _] rfl rfl (new_three w8 _ _ _ _) (by simp [Value.oneCell']) (by unfold maxLen; omega) (by omega) (by simp; omega) ?_; intro v2 w2 hown2 hg2 _ hat2)
              have hov2 := own_grown (hown8.alloc _) hg2 (own_sep hown8 hop8 (by decide))
              have hb2 := (hb8.alloc hbs _).grown hg2 (by simp; omega) (fun g' e => by have := hop8.lt g' e; omega)
              have hF2 := (hF8.alloc _).grown hg2 (fun e => by have := hop8.lt _ e.symm; omega)
              go_roundw
              case rel => exact ⟨j + 1, np + 1, nd + 1, _, _, by omega, by go_num, by omega, by omega, hown2, hov2, hb2, hF2⟩
              case measure => simp [RowKit.intOf]; omega
          · go_wp2_with fail
            go_ret3
            exact ⟨⟨_, _, by rw [HN.out]; rfl⟩, by rw [HB.out]; exact hb⟩
    · have HN := Lib.hid (show libH.contains n = false from by
        rw [HC.out, List.drop_eq_nil_of_le (by omega)]
        rfl)
      go_wp2_with fail
      go_ret3
      exact ⟨⟨_, _, by rw [HN.out]; rfl⟩, by rw [HB.out]; exact hb⟩
end Go.Proofs.YtfpmnkokmlghmaaDoor
