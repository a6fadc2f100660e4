/- The built-in names: a header's parameters. Nothing is claimed here. -/
import Derived.Laws.Tables
import Derived.Great.BuildSlice
import Derived.Lib.IndexAny
import Derived.Test.YtfpmnkokmlghmaaDoorBltQ
import Derived.Test.YtfpmnkokmlghmaaDoorBltL
namespace Go.Proofs.YtfpmnkokmlghmaaDoor
open Go.RowKit Go.Lib Go.Shelf
set_option linter.unusedVariables false

theorem piece_len (c : UInt8) : ∀ (l : List UInt8), ∀ p ∈ splitB c l, p.length ≤ l.length
  | [], p, h => by
    rw [splitB, List.mem_singleton] at h
    subst h
    exact Nat.le_refl _
  | x :: l, p, h => by
    have ih := piece_len c l
    rw [splitB] at h
    split at h
    · rcases List.mem_cons.1 h with rfl | h
      · simp
      · have := ih p h
        simp only [List.length_cons]
        omega
    · cases hs : splitB c l with
      | nil =>
        rw [hs] at h
        have : p = [x] := List.mem_singleton.1 h
        subst this
        simp
      | cons q qs =>
        rw [hs] at h
        rw [hs] at ih
        rcases List.mem_cons.1 h with rfl | h
        · have := ih q (List.mem_cons_self ..)
          simp only [List.length_cons]
          omega
        · have := ih p (List.mem_cons_of_mem _ h)
          simp only [List.length_cons]
          omega
theorem pieces_len (c : UInt8) : ∀ (l : List UInt8), (splitB c l).length ≤ l.length + 1
  | [] => Nat.le_refl _
  | x :: l => by
    have ih := pieces_len c l
    rw [splitB]
    split
    · simp only [List.length_cons]
      omega
    · cases hs : splitB c l with
      | nil => simp
      | cons q qs =>
        rw [hs] at ih
        simp only [List.length_cons] at ih ⊢
        omega
theorem occ_at {s sub : List UInt8} (h : occ s sub = true) (hs : sub ≠ []) : ∃ i : Nat, Lib.index s sub = i ∧ i + sub.length ≤ s.length ∧ ∀ b ∈ sub, b ∈ s := by
  unfold occ at h
  rw [decide_eq_true_eq] at h
  rcases index_spec s sub with ⟨h1, _⟩ | ⟨i, h1, _, h3, _⟩
  · omega
  · refine ⟨i, h1, ?_, fun b hb => ?_⟩
    · rcases occAt_room h3 with h4 | h4
      · exact h4
      · exact absurd h4 hs
    · unfold occAt at h3
      rw [List.isPrefixOf_iff_prefix] at h3
      exact List.mem_of_mem_drop (h3.subset hb)
theorem any_has (chars : List UInt8) : ∀ l : List UInt8, Lib.containsAny l chars = l.any chars.contains
  | [] => rfl
  | b :: l => by
    have ih := any_has chars l
    have hg := indexAny_ge chars l
    unfold Lib.containsAny at ih ⊢
    rw [List.any_cons, ← ih, Lib.indexAny]
    cases hc : chars.contains b
    · rw [if_neg (by simp), Bool.false_or]
      by_cases e : Lib.indexAny l chars = -1
      · rw [e]
        rfl
      · rw [if_neg (by simpa using e)]
        exact decide_eq_decide.2 (by omega)
    · rw [if_pos rfl]
      rfl
theorem cat_hdr (n : List UInt8) : (⟨#[32]⟩ : ByteArray) ++ (⟨n.toArray⟩ : ByteArray) ++ (⟨#[40]⟩ : ByteArray) = ⟨(32 :: (n ++ [40])).toArray⟩ := by
  apply ByteArray.ext
  rw [ByteArray.data_append, ByteArray.data_append]
  apply Array.ext'
  rw [Array.toList_append, Array.toList_append]
  rfl
theorem cut_piece (s : ByteArray) (a b : Nat) (h : s.size ≤ 2000) : ∃ lst : List UInt8, s.extract a b = ⟨lst.toArray⟩ ∧ lst.length ≤ 2000 := by
  obtain ⟨l, hl⟩ : ∃ l : List UInt8, s.extract a b = ⟨l.toArray⟩ := ⟨(s.extract a b).data.toList, rfl⟩
  refine ⟨l, hl, ?_⟩
  have h1 := congrArg ByteArray.size hl
  have h2 : (⟨l.toArray⟩ : ByteArray).size = l.length := List.size_toArray
  rw [ByteArray.size_extract, h2] at h1
  omega
theorem wpList_slice_from {P : Program} {ops : Array Oper} {rest : List Oper} {o : Oper} {a : Act} {w : World} {Q : Exit → Act → World → Prop} (hgd : o.guard = none) (t : TypeId) (x lo : Operand) (ho : o.op = .slice t x (some lo) none none)
    (hu : P.underlying t = some .string) (s : ByteArray) (kl : IntKind) (l : Int) (hx : a.eval x = .string s) (hl : a.eval lo = .int kl l) (h0 : 0 ≤ l) (h1 : l ≤ s.size) (u : ByteArray) (hs : s.extract l.toNat s.size = u)
    (h : wpList P ops Q rest (a.put o.dst (.string u)) w) : wpList P ops Q (o :: rest) a w := by
  refine wpList_plain hgd fun K hK => ?_
  have e1 : (Instr.slice t (.string s) (some (.int kl l)) none none).run P w = .ok (.string u) w := by
    rw [← hs]
    apply run_slice_string_l <;> assumption
  unfold Oper.wp execOp
  simp only [ho, hx, hl, Option.map_some, Option.map_none, run_sliceAt_string (h := hu), e1, Sem.run_bind, Sem.run_pure, Result.andThen_ok]
  exact hK _ _ h
def expZ : Array Value := #[.int .i64 0, .int .i64 0, .int .i64 0, .bool false, .slice none 0 0, .bool false, .slice none 0 0, .string ⟨#[]⟩, .int .i64 0, .string ⟨#[]⟩, .int .i64 0, .slice none 0 0, .slice none 0 0, .slice none 0 0, .slice none 0 0]
theorem fill_exp : Instr.fill (fun i => some (i * 15, 15)) (Array.map (fun x => (Value.agg expZ).cells[x % (Value.agg expZ).cells.size]!) (Array.range (1 * 15))) [(0, .agg expZ)] = some expZ := by kernel_rfl
theorem fill_dig (k : Int) (b' : Bool) (B : Option Addr) (n c : Nat) (t : ByteArray) (r : Int) : Instr.fill (fun i => some (i * 7, 7)) (Array.map (fun x => (valA 0 [] 0).cells[x % (valA 0 [] 0).cells.size]!) (Array.range (1 * 7))) [(0, .agg (digC k b' B n c t r))] = some (digC k b' B n c t r) := by kernel_rfl
theorem new_dig (w : World) (k : Int) (b' : Bool) (B : Option Addr) (n c : Nat) (x : ByteArray) (r : Int) (t : TypeId) : ∀ j u, (digC k b' B n c x r).toList[j]? = some u → (w.alloc (.cells (digC k b' B n c x r) t)).cell? ((⟨w.heap.size, 0, none⟩ : Addr).add j) = some u := by
  intro j u h
  have := (Blk.new w t (digC k b' B n c x r)).cell j
  rw [show ((⟨w.heap.size, 0, none⟩ : Addr).add j) = ⟨w.heap.size, j, none⟩ from by simp [Addr.add]; omega, this]
  simpa using h
theorem dig_one (k : Int) (b' : Bool) (B : Option Addr) (n c : Nat) (x : ByteArray) (r : Int) : ∀ u ∈ (digC k b' B n c x r).toList, u.oneCell' = true := by
  intro u h
  simp [digC] at h
  rcases h with rfl | rfl | rfl | rfl | rfl | rfl | rfl <;> rfl
set_option maxRecDepth 100000 in
set_option maxHeartbeats 40000000 in
theorem header_any (n : List UInt8) (w : World) (hn : n.length ≤ 1048576) (hm : Lim w) (he : Env w) : Calls Tryd.prog 35 #[.string ⟨n.toArray⟩] w fun e w' => (∃ v1 v2, e = .returned (.tuple #[v1, v2, .bool (hdrB n)])) ∧ Below w.heap.size w w' := by
  obtain ⟨iv, hiv, hvz0, hvz1, hvz2⟩ := info_parts info_val
  obtain ⟨ip, hip, hpz0, hpz1, hpz2⟩ := info_parts info_par
  obtain ⟨ie, hie, hez0, hez1, hez2⟩ := info_parts info_exp
  have HH : Hid (hdrB n = (occ hdrT (32 :: (n ++ [40])) && !n.any specL.contains)) := Lib.hid rfl
  obtain ⟨r, hr⟩ : ∃ r, hdrB n = r := ⟨_, rfl⟩
  rw [hr] at HH ⊢
  clear hr
  obtain ⟨b, hbb⟩ : ∃ b, w.heap.size = b := ⟨_, rfl⟩
  have HB := Lib.hid hbb
  clear hbb
  obtain ⟨mx, hmx⟩ := hm
  have HIX := Lib.hid (Tryd.strings_Index ⟨hdrT.toArray⟩ ⟨(32 :: (n ++ [40])).toArray⟩ mx w (by decide +kernel) hmx)
  go_enter Tryd.func35, Tryd.ntmps35
  go_wp2_with fail
  refine Calls.cast (b := #[.string ⟨hdrT.toArray⟩, .string ⟨(32 :: (n ++ [40])).toArray⟩]) (by rw [cat_hdr]; kernel_rfl) ?_
  refine HIX.out.mono ?_
  rintro e w1 ⟨rfl, rfl⟩
  clear HIX
  have hb0 := Below.refl b w1
  cases ho : occ hdrT (32 :: (n ++ [40]))
  · have hidx : Lib.index hdrT (32 :: (n ++ [40])) = -1 := by
      have h1 := index_ge hdrT (32 :: (n ++ [40]))
      unfold occ at ho
      rw [decide_eq_false_iff_not] at ho
      omega
    have HR : Hid (r = false) := Lib.hid (by rw [HH.out, ho]; rfl)
    rw [hidx]
    clear hidx ho HH
    go_wp2_with fail
    go_ret3
    exact ⟨⟨_, _, by rw [HR.out]; rfl⟩, by rw [HB.out]; exact hb0⟩
  · obtain ⟨i, hi, hroom, hmem⟩ := occ_at ho (by simp)
    have hroom2 : i + n.length + 2 ≤ 1883 := by
      have h1 : hdrT.length = 1883 := by decide +kernel
      rw [h1] at hroom
      simp at hroom
      omega
    have hna : ∀ (j : Nat) b, (⟨n.toArray⟩ : ByteArray).data.toList[j]? = some b → b.toNat < 128 := fun j c hj => by
      have h1 : c ∈ n := List.mem_of_getElem? hj
      have h2 := List.all_eq_true.1 (show (hdrT.all fun c => decide (c.toNat < 128)) = true by decide +kernel) c (hmem c (by simp [h1]))
      simpa using h2
    have HCA := Lib.hid (Tryd.strings_ContainsAny_laid ⟨n.toArray⟩ ⟨specL.toArray⟩ w1 (by simp [ByteArray.size]; omega) (by decide +kernel) hna (all_ascii (by decide +kernel)))
    rw [show Lib.containsAny (⟨n.toArray⟩ : ByteArray).data.toList (⟨specL.toArray⟩ : ByteArray).data.toList = n.any specL.contains from any_has specL n] at HCA
    rw [hi]
    clear hi hmem hna hroom
    cases hs : n.any specL.contains
    · have HR : Hid (r = true) := Lib.hid (by rw [HH.out, ho, hs]; rfl)
      rw [hs] at HCA
      clear hs ho HH
      go_wp2_with fail
      refine HCA.out.mono ?_
      rintro e w2 ⟨rfl, ba⟩
      rw [HB.out] at ba
      clear hb0 HCA
      obtain ⟨lst, hlst, hll⟩ := cut_piece hdrV ((i : Int) + (n.length : Int) + 1).toNat hdrV.size (by decide +kernel)
      have hsz : (hdrV.size : Int) = 1882 := by decide +kernel
      have hge : hdrV.size = 1882 := by decide +kernel
      have hm2 : Lim w2 := Lim.keepB ⟨mx, hmx⟩ (by rw [HB.out]; exact ba)
      have e1 : (i : Int) + (n.length : Int) + 1 ≤ (hdrV.size : Int) := by omega
      have HE1 := Lib.hid e1
      have HLS := Lib.hid hlst
      clear hlst e1 hsz hge
      go_wp2_with (refine wpList_slice_from rfl 9 _ _ rfl Tryd.underlying9 hdrV .i64 ((i : Int) + (n.length : Int) + 1) (by kernel_rfl) rfl (by omega) HE1.out ⟨lst.toArray⟩ HLS.out ?_)
      refine (cut_any lst 41 w2 (by omega) hm2).mono ?_
      rintro e w3 ⟨rfl, q, rfl⟩
      have hb3 := below_drewN ba q
      have hm3 : Lim (w2.drewN q) := hm2
      generalize w2.drewN q = w3 at hb3 hm3 ⊢
      generalize lst.contains 41 = xc
      generalize (if xc = true then tl 41 lst else []) = xt
      have hgl : (hd 41 lst).length ≤ 2000 := by
        have : (hd 41 lst).length ≤ lst.length := by
          unfold hd
          exact (List.takeWhile_sublist _).length_le
        omega
      obtain ⟨gg, hgg⟩ : ∃ gg, hd 41 lst = gg := ⟨_, rfl⟩
      rw [hgg] at hgl ⊢
      clear hgg ba hm2 HLS HE1
      go_wp2_with fail
      refine (split_any gg 44 w3 (by omega) hm3).mono ?_
      rintro e w4 ⟨rfl, hw4⟩
      have hF := Blk.new w3 9 (strs (splitB 44 gg)).toArray
      have hb4 := hb3.alloc (by have := hb3.size; rw [HB.out] at this; exact this) (.cells (strs (splitB 44 gg)).toArray 9)
      rw [← hw4] at hF hb4
      have hgb : b ≤ w3.heap.size := by have := hb3.size; rw [HB.out] at this; exact this
      have HTT := Lib.hid (show ∀ t ∈ splitB 44 gg, t.length ≤ 2000 from fun t ht => by have := piece_len 44 gg t ht; omega)
      have hLb : (splitB 44 gg).length ≤ 2001 := by have := pieces_len 44 gg; omega
      have HLM : Hid (∀ w', Below b w1 w' → Lim w') := Lib.hid (fun w' h => Lim.keepB ⟨mx, hmx⟩ (by rw [HB.out]; exact h))
      obtain ⟨g, hg⟩ : ∃ g, w3.heap.size = g := ⟨_, rfl⟩
      rw [hg] at hF hgb ⊢
      generalize splitB 44 gg = ps at hF HTT hLb ⊢
      obtain ⟨L, hL⟩ : ∃ L, ps.length = L := ⟨_, rfl⟩
      rw [hL] at hLb ⊢
      have HLL := Lib.hid hL
      clear hw4 hb3 hm3 hg hL hgl hll hmx he
      go_wp2_with fail
      go_loopw [9, 10, 11, 42] (fun u v o i wr => ∃ (j np nd : Nat) (xs ys : List Value) (on : Bool), j ≤ L ∧ i = .int .i64 (j : Int) ∧ o = .bool on ∧ np ≤ j ∧ nd ≤ j ∧ wr.ownsRow (g + 1) 67 3 u np xs ∧ wr.ownsRow (g + 1) 26 7 v nd ys ∧ Below b w1 wr ∧ Blk wr g 9 (strs ps).toArray) (fun _ _ _ i _ => L - (RowKit.intOf i).toNat)
      case atStart => exact ⟨0, 0, 0, [], [], false, by omega, rfl, rfl, Nat.le_refl _, Nat.le_refl _, World.ownsRow_nil _ _ _ _, World.ownsRow_nil _ _ _ _, hb4, hF⟩
      case round =>
        clear hb4 hF
        obtain ⟨j, np, nd, xs, ys, on, hj, rfl, rfl, hnp, hnd, hop, hov, hb, hF⟩ := hrel
        by_cases hjl : j < L
        · obtain ⟨z, hz⟩ : ∃ z, ps[j]? = some z := ⟨ps[j]'(by rw [HLL.out]; exact hjl), List.getElem?_eq_getElem (by rw [HLL.out]; exact hjl)⟩
          have hzl := HTT.out z (List.mem_of_getElem? hz)
          have hcell : wr.cell? ⟨g, j, none⟩ = some (.string ⟨z.toArray⟩) := by
            rw [hF.cell j]
            simp [strs, hz]
          have HLW := HLM.out wr hb
          clear hz
          cases hze : (z == [])
          · go_wp2_with fail
            refine (cut_any z 61 wr (by omega) HLW).mono ?_
            rintro e w3 ⟨rfl, q, rfl⟩
            have hb3 := below_drewN hb q
            have hF3 := hF.drewN q
            have hop3 : (wr.drewN q).ownsRow (g + 1) 67 3 u9 np xs := hop
            have hov3 : (wr.drewN q).ownsRow (g + 1) 26 7 u10 nd ys := hov
            generalize wr.drewN q = w3 at hb3 hF3 hop3 hov3 ⊢
            generalize (if z.contains 61 = true then tl 61 z else []) = zt
            generalize hd 61 z = z1
            generalize z.contains 61 = xo
            clear hb hF hop hov hcell HLW hzl hze
            have HTP := Lib.hid (trimp_any z1 [42] w3)
            obtain ⟨y, hy⟩ : ∃ y, (if ([42] : List UInt8).isPrefixOf z1 = true then z1.drop ([42] : List UInt8).length else z1) = y := ⟨_, rfl⟩
            rw [hy] at HTP
            clear hy
            go_wp2_with fail
            refine HTP.out.mono ?_
            rintro e w5 ⟨rfl, rfl⟩
            clear HTP
            go_upto_region 14 with fail
            have hlp8 : ∀ g', u9.ownBlock = some g' → g' ≠ w3.heap.size := fun g' e => by have := hop3.lt g' e; omega
            have hlp9 : ∀ g', u10.ownBlock = some g' → g' ≠ w3.heap.size := fun g' e => by have := hov3.lt g' e; omega
            have hgp : g ≠ w3.heap.size := by have := hF3.lt; omega
            have hP4 := Blk.new w3 67 #[.int .i64 0, .string ⟨y.toArray⟩, .slice none 0 0]
            have hbs3 := hb3.size
            rw [HB.out] at hbs3
            have hb4 := hb3.alloc hbs3 (.cells #[.int .i64 0, .string ⟨y.toArray⟩, .slice none 0 0] 67)
            have hF4 := hF3.alloc (.cells #[.int .i64 0, .string ⟨y.toArray⟩, .slice none 0 0] 67)
            have hop4 := hop3.alloc (.cells #[.int .i64 0, .string ⟨y.toArray⟩, .slice none 0 0] 67)
            have hov4 := hov3.alloc (.cells #[.int .i64 0, .string ⟨y.toArray⟩, .slice none 0 0] 67)
            obtain ⟨w4, hw4⟩ : ∃ W', w3.alloc (.cells #[.int .i64 0, .string ⟨y.toArray⟩, .slice none 0 0] 67) = W' := ⟨_, rfl⟩
            obtain ⟨pb, hpb⟩ : ∃ x, w3.heap.size = x := ⟨_, rfl⟩
            rw [hw4, hpb] at hP4
            rw [hpb] at hlp8 hlp9 hgp hbs3
            rw [hw4] at hb4 hF4 hop4 hov4
            rw [hw4, hpb]
            clear hw4 hpb hb3 hF3 hop3 hov3
            cases hq : (y == z1)
            · have hq2 : (y != z1) = true := by rw [bne, hq]; rfl
              obtain ⟨q1, q2, q3⟩ := hP4.rules
              go_upto_region 18 with fail
              clear q1 q2 q3 hq hq2
              have hb5 := hb4.setCell (p := ⟨pb, 0, none⟩) hbs3 (.int .i64 1)
              have hF5 := hF4.far (p := ⟨pb, 0, none⟩) hgp (.int .i64 1)
              have hop5 := own_far (p := ⟨pb, 0, none⟩) hop4 hlp8 (.int .i64 1)
              have hov5 := own_far (p := ⟨pb, 0, none⟩) hov4 hlp9 (.int .i64 1)
              have hP5 := hP4.set_ 0 (.int .i64 1)
              obtain ⟨w5, hw5⟩ : ∃ W', w4.setCell ⟨pb, 0, none⟩ (.int .i64 1) = W' := ⟨_, rfl⟩
              rw [hw5] at hb5 hF5 hop5 hov5 hP5 ⊢
              change Blk w5 pb 67 #[.int .i64 1, .string ⟨y.toArray⟩, .slice none 0 0] at hP5
              clear hw5 hb4 hF4 hop4 hov4 hP4
              cases xo
              · go_upto_region 21 with fail
                as_aux_lemma =>
                obtain ⟨q1, q2, q3⟩ := hP5.rules
                have hgl := hF5.lt
                have hbs := hb5.size
                rw [HB.out] at hbs
                clear hP5
                go_wp2_with (at_builtin; refine wpList_append_own_at _ rfl (.tmp 75) (.tmp 77) 48 rfl (g + 1) 67 ip _ 3 48 Tryd.underlying48 hip hpz0 hpz1 hpz2 rfl (by decide) _ _ _ rfl (hop5.alloc _) ⟨w5.heap.size, 0, none⟩ 1 1 [_, _, _] rfl rfl (new_three w5 _ _ _ _) (by simp [Value.oneCell']) (by unfold maxLen; omega) (by omega) (by simp; omega) ?_; intro v2 wz hown2 hg2 _ hat2)
                have hov2 := own_grown (hov5.alloc _) hg2 (own_sep hov5 hop5 (by decide))
                have hb2 := (hb5.alloc hbs _).grown hg2 (by simp; omega) (fun g' e => by have := hop5.lt g' e; omega)
                have hF2 := (hF5.alloc _).grown hg2 (fun e => by have := hop5.lt _ e.symm; omega)
                go_roundw
                case rel => exact ⟨j + 1, np + 1, nd, _, _, true, by omega, by go_num, rfl, by omega, by omega, hown2, hov2, hb2, hF2⟩
                case measure => simp [RowKit.intOf]; omega
              · obtain ⟨q1, q2, q3⟩ := hP5.rules
                have hP7 := hP5.alloc (.cells expZ 74)
                have hb7 := hb5.alloc (by have := hb5.size; rw [HB.out] at this; exact this) (.cells expZ 74)
                have hF7 := hF5.alloc (.cells expZ 74)
                have hop7 := hop5.alloc (.cells expZ 74)
                have hov7 := hov5.alloc (.cells expZ 74)
                obtain ⟨eb, heb⟩ : ∃ x, w5.heap.size = x := ⟨_, rfl⟩
                obtain ⟨p1, p2, p3⟩ := hP7.rules
                go_upto_region 20 with (refine wpList_buildSlice rfl 65 74 1 _ rfl expZ ie _ Tryd.underlying65 hie hez0 (by rw [hez1]; decide) (by rw [hez1]; decide) (by rw [hez1, Array.toList_map]; exact fill_exp) ?_)
                obtain ⟨w7, hw7⟩ : ∃ W', w5.alloc (.cells expZ 74) = W' := ⟨_, rfl⟩
                rw [hw7] at hP7 hb7 hF7 hop7 hov7 ⊢
                clear hw7 heb q1 q2 q3 p1 p2 p3 hP5 hb5 hF5 hop5 hov5
                have hb8 := hb7.setCell (p := ⟨pb, 2, none⟩) hbs3 (.slice (some ⟨eb, 0, none⟩) 1 1)
                have hF8 := hF7.far (p := ⟨pb, 2, none⟩) hgp (.slice (some ⟨eb, 0, none⟩) 1 1)
                have hop8 := own_far (p := ⟨pb, 2, none⟩) hop7 hlp8 (.slice (some ⟨eb, 0, none⟩) 1 1)
                have hov8 := own_far (p := ⟨pb, 2, none⟩) hov7 hlp9 (.slice (some ⟨eb, 0, none⟩) 1 1)
                have hP8 := hP7.set_ 2 (.slice (some ⟨eb, 0, none⟩) 1 1)
                obtain ⟨w8, hw8⟩ : ∃ W', w7.setCell ⟨pb, 2, none⟩ (.slice (some ⟨eb, 0, none⟩) 1 1) = W' := ⟨_, rfl⟩
                rw [hw8] at hb8 hF8 hop8 hov8 hP8 ⊢
                change Blk w8 pb 67 #[.int .i64 1, .string ⟨y.toArray⟩, .slice (some ⟨eb, 0, none⟩) 1 1] at hP8
                clear hw8 hb7 hF7 hop7 hov7 hP7
                as_aux_lemma =>
                go_wp2_with fail
                refine (standard_any zt w8).mono ?_
                rintro e w9 ⟨⟨v, rfl, k', b', B, n', c', t', r', rfl⟩, ba⟩
                have hb9 := below_then hb8 ba (by have := hb8.size; rw [HB.out] at this; exact this)
                have hF9 := hF8.belowS ba
                have hop9 := own_below hop8 ba
                have hov9 := own_below hov8 ba
                have hP9 := hP8.belowS ba
                have hgl := hF9.lt
                clear ba hb8 hF8 hop8 hov8 hP8
                go_upto_region 21 with (first | (refine wpList_buildSlice rfl 49 26 1 _ rfl (digC k' b' B n' c' t' r') iv _ Tryd.underlying49 hiv hvz0 (by rw [hvz1]; decide) (by rw [hvz1]; decide) (by rw [hvz1, Array.toList_map]; exact fill_dig _ _ _ _ _ _ _) ?_) | (at_builtin; refine wpList_append_own_at _ rfl (.tmp 70) (.tmp 73) 49 rfl (g + 1) 26 iv _ 7 96 Tryd.underlying49 hiv hvz0 hvz1 hvz2 rfl (by decide) _ _ _ rfl (hov9.alloc _) ⟨w9.heap.size, 0, none⟩ 1 1 (digC k' b' B n' c' t' r').toList rfl rfl (new_dig w9 _ _ _ _ _ _ _ _) (dig_one _ _ _ _ _ _ _) (by unfold maxLen; omega) (by omega) (by simp; omega) ?_; intro v8 w10 hov10 hg8 _ hat8))
                have hb10 := (hb9.alloc (by have := hb9.size; rw [HB.out] at this; exact this) _).grown hg8 (by simp; omega) (fun g' e => by have := hov9.lt g' e; omega)
                have hF10 := (hF9.alloc _).grown hg8 (fun e => by have := hov9.lt _ e.symm; omega)
                have hP10 := (hP9.alloc _).grown hg8 (fun e => by obtain ⟨c1, h1⟩ := own_heap hov9 e.symm; have h2 := hP9; unfold Blk at h2; rw [h1] at h2; injection h2 with h2; injection h2 with h2 h3; exact absurd h3 (by decide))
                have hop10 := own_grown (hop9.alloc _) hg8 (own_sep hop9 hov9 (by decide))
                clear hb9 hF9 hP9 hop9 hov9 hg8 hgl hat8
                obtain ⟨q1, q2, q3⟩ := hP10.rules
                have hgl := hF10.lt
                have hbs := hb10.size
                rw [HB.out] at hbs
                clear hP10
                go_wp2_with (at_builtin; refine wpList_append_own_at _ rfl (.tmp 75) (.tmp 77) 48 rfl (g + 1) 67 ip _ 3 48 Tryd.underlying48 hip hpz0 hpz1 hpz2 rfl (by decide) _ _ _ rfl (hop10.alloc _) ⟨w10.heap.size, 0, none⟩ 1 1 [_, _, _] rfl rfl (new_three w10 _ _ _ _) (by simp [Value.oneCell']) (by unfold maxLen; omega) (by omega) (by simp; omega) ?_; intro v2 wz hown2 hg2 _ hat2)
                have hov2 := own_grown (hov10.alloc _) hg2 (own_sep hov10 hop10 (by decide))
                have hb2 := (hb10.alloc hbs _).grown hg2 (by simp; omega) (fun g' e => by have := hop10.lt g' e; omega)
                have hF2 := (hF10.alloc _).grown hg2 (fun e => by have := hop10.lt _ e.symm; omega)
                go_roundw
                case rel => exact ⟨j + 1, np + 1, nd + 1, _, _, true, by omega, by go_num, rfl, by omega, by omega, hown2, hov2, hb2, hF2⟩
                case measure => simp [RowKit.intOf]; omega
            · have hq2 : (y != z1) = false := by rw [bne, hq]; rfl
              obtain ⟨q1, q2, q3⟩ := hP4.rules
              cases on
              · go_upto_region 18 with fail
                clear q1 q2 q3 hq hq2
                cases xo
                · go_upto_region 21 with fail
                  as_aux_lemma =>
                  obtain ⟨q1, q2, q3⟩ := hP4.rules
                  have hgl := hF4.lt
                  have hbs := hb4.size
                  rw [HB.out] at hbs
                  clear hP4
                  go_wp2_with (at_builtin; refine wpList_append_own_at _ rfl (.tmp 75) (.tmp 77) 48 rfl (g + 1) 67 ip _ 3 48 Tryd.underlying48 hip hpz0 hpz1 hpz2 rfl (by decide) _ _ _ rfl (hop4.alloc _) ⟨w4.heap.size, 0, none⟩ 1 1 [_, _, _] rfl rfl (new_three w4 _ _ _ _) (by simp [Value.oneCell']) (by unfold maxLen; omega) (by omega) (by simp; omega) ?_; intro v2 wz hown2 hg2 _ hat2)
                  have hov2 := own_grown (hov4.alloc _) hg2 (own_sep hov4 hop4 (by decide))
                  have hb2 := (hb4.alloc hbs _).grown hg2 (by simp; omega) (fun g' e => by have := hop4.lt g' e; omega)
                  have hF2 := (hF4.alloc _).grown hg2 (fun e => by have := hop4.lt _ e.symm; omega)
                  go_roundw
                  case rel => exact ⟨j + 1, np + 1, nd, _, _, false, by omega, by go_num, rfl, by omega, by omega, hown2, hov2, hb2, hF2⟩
                  case measure => simp [RowKit.intOf]; omega
                · obtain ⟨q1, q2, q3⟩ := hP4.rules
                  have hP7 := hP4.alloc (.cells expZ 74)
                  have hb7 := hb4.alloc (by have := hb4.size; rw [HB.out] at this; exact this) (.cells expZ 74)
                  have hF7 := hF4.alloc (.cells expZ 74)
                  have hop7 := hop4.alloc (.cells expZ 74)
                  have hov7 := hov4.alloc (.cells expZ 74)
                  obtain ⟨eb, heb⟩ : ∃ x, w4.heap.size = x := ⟨_, rfl⟩
                  obtain ⟨p1, p2, p3⟩ := hP7.rules
                  go_upto_region 20 with (refine wpList_buildSlice rfl 65 74 1 _ rfl expZ ie _ Tryd.underlying65 hie hez0 (by rw [hez1]; decide) (by rw [hez1]; decide) (by rw [hez1, Array.toList_map]; exact fill_exp) ?_)
                  obtain ⟨w7, hw7⟩ : ∃ W', w4.alloc (.cells expZ 74) = W' := ⟨_, rfl⟩
                  rw [hw7] at hP7 hb7 hF7 hop7 hov7 ⊢
                  clear hw7 heb q1 q2 q3 p1 p2 p3 hP4 hb4 hF4 hop4 hov4
                  have hb8 := hb7.setCell (p := ⟨pb, 2, none⟩) hbs3 (.slice (some ⟨eb, 0, none⟩) 1 1)
                  have hF8 := hF7.far (p := ⟨pb, 2, none⟩) hgp (.slice (some ⟨eb, 0, none⟩) 1 1)
                  have hop8 := own_far (p := ⟨pb, 2, none⟩) hop7 hlp8 (.slice (some ⟨eb, 0, none⟩) 1 1)
                  have hov8 := own_far (p := ⟨pb, 2, none⟩) hov7 hlp9 (.slice (some ⟨eb, 0, none⟩) 1 1)
                  have hP8 := hP7.set_ 2 (.slice (some ⟨eb, 0, none⟩) 1 1)
                  obtain ⟨w8, hw8⟩ : ∃ W', w7.setCell ⟨pb, 2, none⟩ (.slice (some ⟨eb, 0, none⟩) 1 1) = W' := ⟨_, rfl⟩
                  rw [hw8] at hb8 hF8 hop8 hov8 hP8 ⊢
                  change Blk w8 pb 67 #[.int .i64 0, .string ⟨y.toArray⟩, .slice (some ⟨eb, 0, none⟩) 1 1] at hP8
                  clear hw8 hb7 hF7 hop7 hov7 hP7
                  as_aux_lemma =>
                  go_wp2_with fail
                  refine (standard_any zt w8).mono ?_
                  rintro e w9 ⟨⟨v, rfl, k', b', B, n', c', t', r', rfl⟩, ba⟩
                  have hb9 := below_then hb8 ba (by have := hb8.size; rw [HB.out] at this; exact this)
                  have hF9 := hF8.belowS ba
                  have hop9 := own_below hop8 ba
                  have hov9 := own_below hov8 ba
                  have hP9 := hP8.belowS ba
                  have hgl := hF9.lt
                  clear ba hb8 hF8 hop8 hov8 hP8
                  go_upto_region 21 with (first | (refine wpList_buildSlice rfl 49 26 1 _ rfl (digC k' b' B n' c' t' r') iv _ Tryd.underlying49 hiv hvz0 (by rw [hvz1]; decide) (by rw [hvz1]; decide) (by rw [hvz1, Array.toList_map]; exact fill_dig _ _ _ _ _ _ _) ?_) | (at_builtin; refine wpList_append_own_at _ rfl (.tmp 70) (.tmp 73) 49 rfl (g + 1) 26 iv _ 7 96 Tryd.underlying49 hiv hvz0 hvz1 hvz2 rfl (by decide) _ _ _ rfl (hov9.alloc _) ⟨w9.heap.size, 0, none⟩ 1 1 (digC k' b' B n' c' t' r').toList rfl rfl (new_dig w9 _ _ _ _ _ _ _ _) (dig_one _ _ _ _ _ _ _) (by unfold maxLen; omega) (by omega) (by simp; omega) ?_; intro v8 w10 hov10 hg8 _ hat8))
                  have hb10 := (hb9.alloc (by have := hb9.size; rw [HB.out] at this; exact this) _).grown hg8 (by simp; omega) (fun g' e => by have := hov9.lt g' e; omega)
                  have hF10 := (hF9.alloc _).grown hg8 (fun e => by have := hov9.lt _ e.symm; omega)
                  have hP10 := (hP9.alloc _).grown hg8 (fun e => by obtain ⟨c1, h1⟩ := own_heap hov9 e.symm; have h2 := hP9; unfold Blk at h2; rw [h1] at h2; injection h2 with h2; injection h2 with h2 h3; exact absurd h3 (by decide))
                  have hop10 := own_grown (hop9.alloc _) hg8 (own_sep hop9 hov9 (by decide))
                  clear hb9 hF9 hP9 hop9 hov9 hg8 hgl hat8
                  obtain ⟨q1, q2, q3⟩ := hP10.rules
                  have hgl := hF10.lt
                  have hbs := hb10.size
                  rw [HB.out] at hbs
                  clear hP10
                  go_wp2_with (at_builtin; refine wpList_append_own_at _ rfl (.tmp 75) (.tmp 77) 48 rfl (g + 1) 67 ip _ 3 48 Tryd.underlying48 hip hpz0 hpz1 hpz2 rfl (by decide) _ _ _ rfl (hop10.alloc _) ⟨w10.heap.size, 0, none⟩ 1 1 [_, _, _] rfl rfl (new_three w10 _ _ _ _) (by simp [Value.oneCell']) (by unfold maxLen; omega) (by omega) (by simp; omega) ?_; intro v2 wz hown2 hg2 _ hat2)
                  have hov2 := own_grown (hov10.alloc _) hg2 (own_sep hov10 hop10 (by decide))
                  have hb2 := (hb10.alloc hbs _).grown hg2 (by simp; omega) (fun g' e => by have := hop10.lt g' e; omega)
                  have hF2 := (hF10.alloc _).grown hg2 (fun e => by have := hop10.lt _ e.symm; omega)
                  go_roundw
                  case rel => exact ⟨j + 1, np + 1, nd + 1, _, _, false, by omega, by go_num, rfl, by omega, by omega, hown2, hov2, hb2, hF2⟩
                  case measure => simp [RowKit.intOf]; omega
              · go_upto_region 18 with fail
                clear q1 q2 q3 hq hq2
                have hb5 := hb4.setCell (p := ⟨pb, 0, none⟩) hbs3 (.int .i64 2)
                have hF5 := hF4.far (p := ⟨pb, 0, none⟩) hgp (.int .i64 2)
                have hop5 := own_far (p := ⟨pb, 0, none⟩) hop4 hlp8 (.int .i64 2)
                have hov5 := own_far (p := ⟨pb, 0, none⟩) hov4 hlp9 (.int .i64 2)
                have hP5 := hP4.set_ 0 (.int .i64 2)
                obtain ⟨w5, hw5⟩ : ∃ W', w4.setCell ⟨pb, 0, none⟩ (.int .i64 2) = W' := ⟨_, rfl⟩
                rw [hw5] at hb5 hF5 hop5 hov5 hP5 ⊢
                change Blk w5 pb 67 #[.int .i64 2, .string ⟨y.toArray⟩, .slice none 0 0] at hP5
                clear hw5 hb4 hF4 hop4 hov4 hP4
                cases xo
                · go_upto_region 21 with fail
                  as_aux_lemma =>
                  obtain ⟨q1, q2, q3⟩ := hP5.rules
                  have hgl := hF5.lt
                  have hbs := hb5.size
                  rw [HB.out] at hbs
                  clear hP5
                  go_wp2_with (at_builtin; refine wpList_append_own_at _ rfl (.tmp 75) (.tmp 77) 48 rfl (g + 1) 67 ip _ 3 48 Tryd.underlying48 hip hpz0 hpz1 hpz2 rfl (by decide) _ _ _ rfl (hop5.alloc _) ⟨w5.heap.size, 0, none⟩ 1 1 [_, _, _] rfl rfl (new_three w5 _ _ _ _) (by simp [Value.oneCell']) (by unfold maxLen; omega) (by omega) (by simp; omega) ?_; intro v2 wz hown2 hg2 _ hat2)
                  have hov2 := own_grown (hov5.alloc _) hg2 (own_sep hov5 hop5 (by decide))
                  have hb2 := (hb5.alloc hbs _).grown hg2 (by simp; omega) (fun g' e => by have := hop5.lt g' e; omega)
                  have hF2 := (hF5.alloc _).grown hg2 (fun e => by have := hop5.lt _ e.symm; omega)
                  go_roundw
                  case rel => exact ⟨j + 1, np + 1, nd, _, _, true, by omega, by go_num, rfl, by omega, by omega, hown2, hov2, hb2, hF2⟩
                  case measure => simp [RowKit.intOf]; omega
                · obtain ⟨q1, q2, q3⟩ := hP5.rules
                  have hP7 := hP5.alloc (.cells expZ 74)
                  have hb7 := hb5.alloc (by have := hb5.size; rw [HB.out] at this; exact this) (.cells expZ 74)
                  have hF7 := hF5.alloc (.cells expZ 74)
                  have hop7 := hop5.alloc (.cells expZ 74)
                  have hov7 := hov5.alloc (.cells expZ 74)
                  obtain ⟨eb, heb⟩ : ∃ x, w5.heap.size = x := ⟨_, rfl⟩
                  obtain ⟨p1, p2, p3⟩ := hP7.rules
                  go_upto_region 20 with (refine wpList_buildSlice rfl 65 74 1 _ rfl expZ ie _ Tryd.underlying65 hie hez0 (by rw [hez1]; decide) (by rw [hez1]; decide) (by rw [hez1, Array.toList_map]; exact fill_exp) ?_)
                  obtain ⟨w7, hw7⟩ : ∃ W', w5.alloc (.cells expZ 74) = W' := ⟨_, rfl⟩
                  rw [hw7] at hP7 hb7 hF7 hop7 hov7 ⊢
                  clear hw7 heb q1 q2 q3 p1 p2 p3 hP5 hb5 hF5 hop5 hov5
                  have hb8 := hb7.setCell (p := ⟨pb, 2, none⟩) hbs3 (.slice (some ⟨eb, 0, none⟩) 1 1)
                  have hF8 := hF7.far (p := ⟨pb, 2, none⟩) hgp (.slice (some ⟨eb, 0, none⟩) 1 1)
                  have hop8 := own_far (p := ⟨pb, 2, none⟩) hop7 hlp8 (.slice (some ⟨eb, 0, none⟩) 1 1)
                  have hov8 := own_far (p := ⟨pb, 2, none⟩) hov7 hlp9 (.slice (some ⟨eb, 0, none⟩) 1 1)
                  have hP8 := hP7.set_ 2 (.slice (some ⟨eb, 0, none⟩) 1 1)
                  obtain ⟨w8, hw8⟩ : ∃ W', w7.setCell ⟨pb, 2, none⟩ (.slice (some ⟨eb, 0, none⟩) 1 1) = W' := ⟨_, rfl⟩
                  rw [hw8] at hb8 hF8 hop8 hov8 hP8 ⊢
                  change Blk w8 pb 67 #[.int .i64 2, .string ⟨y.toArray⟩, .slice (some ⟨eb, 0, none⟩) 1 1] at hP8
                  clear hw8 hb7 hF7 hop7 hov7 hP7
                  as_aux_lemma =>
                  go_wp2_with fail
                  refine (standard_any zt w8).mono ?_
                  rintro e w9 ⟨⟨v, rfl, k', b', B, n', c', t', r', rfl⟩, ba⟩
                  have hb9 := below_then hb8 ba (by have := hb8.size; rw [HB.out] at this; exact this)
                  have hF9 := hF8.belowS ba
                  have hop9 := own_below hop8 ba
                  have hov9 := own_below hov8 ba
                  have hP9 := hP8.belowS ba
                  have hgl := hF9.lt
                  clear ba hb8 hF8 hop8 hov8 hP8
                  go_upto_region 21 with (first | (refine wpList_buildSlice rfl 49 26 1 _ rfl (digC k' b' B n' c' t' r') iv _ Tryd.underlying49 hiv hvz0 (by rw [hvz1]; decide) (by rw [hvz1]; decide) (by rw [hvz1, Array.toList_map]; exact fill_dig _ _ _ _ _ _ _) ?_) | (at_builtin; refine wpList_append_own_at _ rfl (.tmp 70) (.tmp 73) 49 rfl (g + 1) 26 iv _ 7 96 Tryd.underlying49 hiv hvz0 hvz1 hvz2 rfl (by decide) _ _ _ rfl (hov9.alloc _) ⟨w9.heap.size, 0, none⟩ 1 1 (digC k' b' B n' c' t' r').toList rfl rfl (new_dig w9 _ _ _ _ _ _ _ _) (dig_one _ _ _ _ _ _ _) (by unfold maxLen; omega) (by omega) (by simp; omega) ?_; intro v8 w10 hov10 hg8 _ hat8))
                  have hb10 := (hb9.alloc (by have := hb9.size; rw [HB.out] at this; exact this) _).grown hg8 (by simp; omega) (fun g' e => by have := hov9.lt g' e; omega)
                  have hF10 := (hF9.alloc _).grown hg8 (fun e => by have := hov9.lt _ e.symm; omega)
                  have hP10 := (hP9.alloc _).grown hg8 (fun e => by obtain ⟨c1, h1⟩ := own_heap hov9 e.symm; have h2 := hP9; unfold Blk at h2; rw [h1] at h2; injection h2 with h2; injection h2 with h2 h3; exact absurd h3 (by decide))
                  have hop10 := own_grown (hop9.alloc _) hg8 (own_sep hop9 hov9 (by decide))
                  clear hb9 hF9 hP9 hop9 hov9 hg8 hgl hat8
                  obtain ⟨q1, q2, q3⟩ := hP10.rules
                  have hgl := hF10.lt
                  have hbs := hb10.size
                  rw [HB.out] at hbs
                  clear hP10
                  go_wp2_with (at_builtin; refine wpList_append_own_at _ rfl (.tmp 75) (.tmp 77) 48 rfl (g + 1) 67 ip _ 3 48 Tryd.underlying48 hip hpz0 hpz1 hpz2 rfl (by decide) _ _ _ rfl (hop10.alloc _) ⟨w10.heap.size, 0, none⟩ 1 1 [_, _, _] rfl rfl (new_three w10 _ _ _ _) (by simp [Value.oneCell']) (by unfold maxLen; omega) (by omega) (by simp; omega) ?_; intro v2 wz hown2 hg2 _ hat2)
                  have hov2 := own_grown (hov10.alloc _) hg2 (own_sep hov10 hop10 (by decide))
                  have hb2 := (hb10.alloc hbs _).grown hg2 (by simp; omega) (fun g' e => by have := hop10.lt g' e; omega)
                  have hF2 := (hF10.alloc _).grown hg2 (fun e => by have := hop10.lt _ e.symm; omega)
                  go_roundw
                  case rel => exact ⟨j + 1, np + 1, nd + 1, _, _, true, by omega, by go_num, rfl, by omega, by omega, hown2, hov2, hb2, hF2⟩
                  case measure => simp [RowKit.intOf]; omega
          · obtain rfl := beq_iff_eq.1 hze
            go_wp2_with fail
            go_roundw
            case rel => exact ⟨j + 1, np, nd, _, _, on, by omega, by go_num, rfl, by omega, by omega, hop, hov, hb, hF⟩
            case measure => simp [RowKit.intOf]; omega
        · go_wp2_with fail
          go_ret3
          exact ⟨⟨_, _, by rw [HR.out]; rfl⟩, by rw [HB.out]; exact hb⟩
    · have HR : Hid (r = false) := Lib.hid (by rw [HH.out, ho, hs]; rfl)
      rw [hs] at HCA
      clear hs ho HH
      go_wp2_with fail
      refine HCA.out.mono ?_
      rintro e w2 ⟨rfl, ba⟩
      go_wp2_with fail
      go_ret3
      exact ⟨⟨_, _, by rw [HR.out]; rfl⟩, ba⟩
end Go.Proofs.YtfpmnkokmlghmaaDoor
