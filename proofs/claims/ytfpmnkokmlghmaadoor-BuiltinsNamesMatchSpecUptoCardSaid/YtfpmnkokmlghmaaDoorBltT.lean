/- The built-in names: the reference's builtinName and Builtin. Nothing is claimed here. -/
import Derived.Laws.Tables
import Derived.Test.YtfpmnkokmlghmaaDoorBltO
import Derived.Test.YtfpmnkokmlghmaaDoorBltR
namespace Go.Proofs.YtfpmnkokmlghmaaDoor
open Go.RowKit Go.Lib Go.Shelf
set_option linter.unusedVariables false

/-- the reference's heap at its beginning holds the classes -/
def BeginP : Prop := ∀ w : World, Lim w → Env w → Calls Tryd.prog 33 #[] w fun e w' => ∃ (A : Option Addr) (c : Nat) (objs : List Ob), e = .returned (.agg #[.slice A 49 c]) ∧ Hid (objs.map (·.name) = clsL) ∧ Row w' A (objs.flatMap Ob.cells) ∧ Below w.heap.size w w'
set_option maxRecDepth 100000 in
set_option maxHeartbeats 4000000 in
theorem builtinName_of (hBG : BeginP) (n : List UInt8) (w : World) (hn : n.length ≤ 1048576) (hm : Lim w) (he : Env w) : Calls Tryd.prog 19 #[.string ⟨n.toArray⟩] w fun e w' => e = .returned (namedV (namedR (hdrB n) n)) ∧ Below w.heap.size w w' := by
  have HD : Hid (namedR (hdrB n) n = if clsL.contains n then (6, [], (clsL.idxOf n : Int), true) else if n == [112, 97, 115, 115, 95] then (8, [], 0, true) else if hdrB n && !n.contains 46 then (7, n, 0, true) else (0, [], 0, false)) := Lib.hid rfl
  have HHD := Lib.hid (fun W hM hE => header_any n W hn hM hE)
  have HBG := Lib.hid (fun W hM hE => hBG W hM hE)
  obtain ⟨V, hV⟩ : ∃ V, namedR (hdrB n) n = V := ⟨_, rfl⟩
  obtain ⟨sg, hsg⟩ : ∃ sg, hdrB n = sg := ⟨_, rfl⟩
  rw [hV]
  rw [hV, hsg] at HD
  rw [hsg] at HHD
  clear hV hsg hBG hn
  have hT := Blk.new w 26 (valC 0 [] 0)
  have hb0 := (Below.refl w.heap.size w).alloc (Nat.le_refl _) (.cells (valC 0 [] 0) 26)
  have hm0 := hm.keepB hb0
  have he0 := he.keepB hb0
  go_enter Tryd.func19, Tryd.ntmps19
  go_upto_region 1 with fail
  obtain ⟨w0, hw0⟩ : ∃ W', w.alloc (.cells (valC 0 [] 0) 26) = W' := ⟨_, rfl⟩
  have hw0' := hw0
  unfold valC at hw0'
  rw [show (([] : List UInt8).toArray) = #[] from rfl] at hw0'
  rw [hw0']
  rw [hw0] at hT hb0 hm0 he0
  obtain ⟨b, hb⟩ : ∃ b, w.heap.size = b := ⟨_, rfl⟩
  have HB := Lib.hid hb
  rw [hb] at hT hb0 ⊢
  clear hb hw0 hw0' hm he
  go_wp2_with fail
  refine (HBG.out w0 hm0 he0).mono ?_
  rintro e w1 ⟨A, c, objs, rfl, HNM, hrow, ba⟩
  have hT1 := hT.belowS ba
  have hb1 := below_then hb0 ba (by have := hT.lt; omega)
  have hm1 := hm0.keepB ba
  have he1 := he0.keepB ba
  clear ba hT hb0 hm0 he0 HBG
  have hol : objs.length = 49 := by
    have := congrArg List.length HNM.out
    rw [List.length_map] at this
    exact this
  have HR := Lib.hid hrow
  have hs1 := hb1.size
  rw [HB.out] at hs1
  have hTl := hT1.lt
  clear hrow
  have hfld := fun W => heap_field A 49 c W
  go_wp2_with fail
  go_loopw [12] (fun i wr => ∃ (k : Nat), k ≤ 49 ∧ i = .int .i64 (k : Int) ∧ Hid ((clsL.take k).contains n = false) ∧ Below w1.heap.size w1 wr) (fun i _ => 49 - (RowKit.intOf i).toNat)
  case atStart => exact ⟨0, by omega, rfl, Lib.hid rfl, Below.refl _ _⟩
  case round =>
    obtain ⟨k, hk, rfl, HC, hbr⟩ := hrel
    have hb2 := below_then hb1 hbr (by omega)
    have hT2 := hT1.belowS hbr
    by_cases hlt : k < 49
    · obtain ⟨o, ho⟩ : ∃ o, objs[k]? = some o := ⟨objs[k]'(by omega), List.getElem?_eq_getElem (by omega)⟩
      obtain ⟨g, off, rfl, hg, hcl⟩ := row_ob (HR.out.keepB hbr) ho
      have HX : Hid (clsL[k]? = some o.name) := Lib.hid (by rw [← HNM.out, List.getElem?_map, ho]; rfl)
      clear ho
      obtain ⟨nm, ra, rl, rc, ob, on, oc⟩ := o
      have hcm : ∀ i u, (Ob.cells ⟨nm, ra, rl, rc, ob, on, oc⟩)[i]? = some u → wr.cell? ⟨g, off + k * 10 + i, none⟩ = some u := fun i u h => by rw [show off + k * 10 + i = off + (10 * k + i) by omega]; exact hcl i u h
      have c0 := hcm 0 _ rfl
      rw [Nat.add_zero] at c0
      have c1 := hcm 1 _ rfl
      have c2 := hcm 2 _ rfl
      have c3 := hcm 3 _ rfl
      have c4 := hcm 4 _ rfl
      have c5 := hcm 5 _ rfl
      have c6 := hcm 6 _ rfl
      have c7 := hcm 7 _ rfl
      have c8 := hcm 8 _ rfl
      have c9 := hcm 9 _ rfl
      unfold Ob.ord at c4
      unfold Ob.refs at c3
      dsimp only at c1 c3 c4
      clear hcm
      clear hcl
      have hba := hbr.alloc hbr.size (.cells #[.int .i64 9, .string ⟨nm.toArray⟩, .int .i64 0, .slice ra rl rc, .slice (some ⟨ob, 0, none⟩) on oc, .slice none 0 0, .slice none 0 0, .slice none 0 0, .int .i64 0, .int .i64 0] 60)
      have hb3 := hb2.alloc (by have := hT2.lt; omega) (.cells #[.int .i64 9, .string ⟨nm.toArray⟩, .int .i64 0, .slice ra rl rc, .slice (some ⟨ob, 0, none⟩) on oc, .slice none 0 0, .slice none 0 0, .slice none 0 0, .int .i64 0, .int .i64 0] 60)
      have hT3 := hT2.alloc (.cells #[.int .i64 9, .string ⟨nm.toArray⟩, .int .i64 0, .slice ra rl rc, .slice (some ⟨ob, 0, none⟩) on oc, .slice none 0 0, .slice none 0 0, .slice none 0 0, .int .i64 0, .int .i64 0] 60)
      cases hq : (nm == n)
      · have HN : Hid ((clsL.take (k + 1)).contains n = false) := Lib.hid (by
          rw [List.take_add_one, HX.out]
          have h1 := HC.out
          have h2 : (n == nm) = false := by rw [beq_eq_false_iff_ne] at hq ⊢; exact fun e => hq e.symm
          simp only [List.contains_eq_mem, decide_eq_false_iff_not, Option.toList_some, List.mem_append, List.mem_singleton, not_or] at h1 ⊢
          exact ⟨h1, by simpa using h2⟩)
        go_wp2_with fail
        go_roundw
        case rel => exact ⟨k + 1, by omega, by go_num, HN, hba⟩
        case measure => simp [RowKit.intOf]; omega
      · have hnm : nm = n := beq_iff_eq.1 hq
        have hV : Hid (V = (6, [], (k : Int), true)) := Lib.hid (by
          have ht : clsL.contains n = true := by rw [List.contains_iff_mem, ← hnm]; exact List.mem_of_getElem? HX.out
          rw [HD.out, ht, if_pos rfl, idx_at clsL k (by rw [← hnm]; exact HX.out) HC.out])
        clear hnm HD
        go_wp2_with fail
        obtain ⟨wa, hwa⟩ : ∃ W', wr.alloc (.cells #[.int .i64 9, .string ⟨nm.toArray⟩, .int .i64 0, .slice ra rl rc, .slice (some ⟨ob, 0, none⟩) on oc, .slice none 0 0, .slice none 0 0, .slice none 0 0, .int .i64 0, .int .i64 0] 60) = W' := ⟨_, rfl⟩
        rw [hwa] at hT3 hb3 ⊢
        refine (fO_any (k : Int) wa).mono ?_
        rintro e w4 ⟨rfl, bb⟩
        have hT4 := hT3.belowS bb
        have hb4 := below_then hb3 bb (by have := hT3.lt; omega)
        have HV := hV
        clear hwa bb
        go_wp2_with (refine wpList_store_row rfl 26 _ _ rfl b (valC (6) ([]) ((k : Int))) rfl rfl 26 (valC 0 [] 0) hT4 (by kernel_rfl) rfl (by simp [valC, Value.oneCell']) ?_)
        have hF : Blk (w4.setRow b (valC (6) ([]) ((k : Int)))) b 26 (valC (6) ([]) ((k : Int))) := setRow_heap w4 _ _ _ _ _ hT4
        have hBB : Below b w (w4.setRow b (valC (6) ([]) ((k : Int)))) := ⟨hb4.os, hb4.tape, hb4.output, by simpa using hb4.size, fun k hk => (setRow_other _ _ _ _ (by omega)).trans (hb4.block k hk)⟩
        exact ret_blk_tmp rfl rfl hF _ Tryd.underlying26 rfl (by kernel_rfl) rfl (.bool true) rfl ⟨by rw [HV.out]; rfl, by rw [HB.out]; exact hBB⟩
    · have hk9 : k = 49 := by omega
      subst hk9
      have HF : Hid (clsL.contains n = false) := Lib.hid (by have := HC.out; rwa [show clsL.take 49 = clsL from by rw [show 49 = clsL.length from by decide +kernel, List.take_length]] at this)
      have hm2 := hm1.keepB hbr
      have he2 := he1.keepB hbr
      have HV0 : Hid (V = if n == [112, 97, 115, 115, 95] then (8, [], 0, true) else if sg && !n.contains 46 then (7, n, 0, true) else (0, [], 0, false)) := Lib.hid (by rw [HD.out, HF.out]; rfl)
      clear HD HC HR hfld
      cases hp : (n == [112, 97, 115, 115, 95])
      · have HV1 : Hid (V = if sg && !n.contains 46 then (7, n, 0, true) else (0, [], 0, false)) := Lib.hid (by rw [HV0.out, hp, if_neg (by simp)])
        go_wp2_with fail
        refine (HHD.out wr hm2 he2).mono ?_
        rintro e w2 ⟨⟨v1, v2, rfl⟩, ba⟩
        have hT3 := hT2.belowS ba
        have hb3 := below_then hb2 ba (by have := hT2.lt; omega)
        clear ba hT2 hb2 hm2 he2 hp
        cases sg
        · have HV : Hid (V = (0, [], 0, false)) := Lib.hid (by rw [HV1.out]; rfl)
          go_wp2_with (refine wpList_store_row rfl 26 _ _ rfl b (valC (0) ([]) (0)) rfl rfl 26 (valC 0 [] 0) hT3 (by kernel_rfl) rfl (by simp [valC, Value.oneCell']) ?_)
          have hF : Blk (w2.setRow b (valC (0) ([]) (0))) b 26 (valC (0) ([]) (0)) := setRow_heap w2 _ _ _ _ _ hT3
          have hBB : Below b w (w2.setRow b (valC (0) ([]) (0))) := ⟨hb3.os, hb3.tape, hb3.output, by simpa using hb3.size, fun k hk => (setRow_other _ _ _ _ (by omega)).trans (hb3.block k hk)⟩
          exact ret_blk_tmp rfl rfl hF _ Tryd.underlying26 rfl (by kernel_rfl) rfl (.bool false) rfl ⟨by rw [HV.out]; rfl, by rw [HB.out]; exact hBB⟩
        · have HC := Lib.hid (contains_any n 46 w2)
          cases hc : n.contains 46
          · have HV : Hid (V = (7, n, 0, true)) := Lib.hid (by rw [HV1.out, hc]; rfl)
            rw [hc] at HC
            clear hc
            go_wp2_with fail
            refine HC.out.mono ?_
            rintro e w3 ⟨rfl, rfl⟩
            go_wp2_with (refine wpList_store_row rfl 26 _ _ rfl b (valC (7) (n) (0)) rfl rfl 26 (valC 0 [] 0) hT3 (by kernel_rfl) rfl (by simp [valC, Value.oneCell']) ?_)
            have hF : Blk (w2.setRow b (valC (7) (n) (0))) b 26 (valC (7) (n) (0)) := setRow_heap w2 _ _ _ _ _ hT3
            have hBB : Below b w (w2.setRow b (valC (7) (n) (0))) := ⟨hb3.os, hb3.tape, hb3.output, by simpa using hb3.size, fun k hk => (setRow_other _ _ _ _ (by omega)).trans (hb3.block k hk)⟩
            exact ret_blk_tmp rfl rfl hF _ Tryd.underlying26 rfl (by kernel_rfl) rfl (.bool true) rfl ⟨by rw [HV.out]; rfl, by rw [HB.out]; exact hBB⟩
          · have HV : Hid (V = (0, [], 0, false)) := Lib.hid (by rw [HV1.out, hc]; rfl)
            rw [hc] at HC
            clear hc
            go_wp2_with fail
            refine HC.out.mono ?_
            rintro e w3 ⟨rfl, rfl⟩
            go_wp2_with (refine wpList_store_row rfl 26 _ _ rfl b (valC (0) ([]) (0)) rfl rfl 26 (valC 0 [] 0) hT3 (by kernel_rfl) rfl (by simp [valC, Value.oneCell']) ?_)
            have hF : Blk (w2.setRow b (valC (0) ([]) (0))) b 26 (valC (0) ([]) (0)) := setRow_heap w2 _ _ _ _ _ hT3
            have hBB : Below b w (w2.setRow b (valC (0) ([]) (0))) := ⟨hb3.os, hb3.tape, hb3.output, by simpa using hb3.size, fun k hk => (setRow_other _ _ _ _ (by omega)).trans (hb3.block k hk)⟩
            exact ret_blk_tmp rfl rfl hF _ Tryd.underlying26 rfl (by kernel_rfl) rfl (.bool false) rfl ⟨by rw [HV.out]; rfl, by rw [HB.out]; exact hBB⟩
      · have HV : Hid (V = (8, [], 0, true)) := Lib.hid (by rw [HV0.out, hp, if_pos rfl])
        go_wp2_with (refine wpList_store_row rfl 26 _ _ rfl b (valC (8) ([]) (0)) rfl rfl 26 (valC 0 [] 0) hT2 (by kernel_rfl) rfl (by simp [valC, Value.oneCell']) ?_)
        have hF : Blk (wr.setRow b (valC (8) ([]) (0))) b 26 (valC (8) ([]) (0)) := setRow_heap wr _ _ _ _ _ hT2
        have hBB : Below b w (wr.setRow b (valC (8) ([]) (0))) := ⟨hb2.os, hb2.tape, hb2.output, by simpa using hb2.size, fun k hk => (setRow_other _ _ _ _ (by omega)).trans (hb2.block k hk)⟩
        exact ret_blk_tmp rfl rfl hF _ Tryd.underlying26 rfl (by kernel_rfl) rfl (.bool true) rfl ⟨by rw [HV.out]; rfl, by rw [HB.out]; exact hBB⟩
set_option maxRecDepth 100000 in
set_option maxHeartbeats 4000000 in
theorem builtin_of (hBG : BeginP) (n : List UInt8) (w : World) (hn : n.length ≤ 1048576) (hm : Lim w) (he : Env w) : Calls Tryd.prog 5 #[.string ⟨n.toArray⟩] w fun e w' => e = .returned (namedV (namedR (hdrB n) n)) ∧ Below w.heap.size w w' := by
  have HC := Lib.hid (fun W hM hE => builtinName_of hBG n W hn hM hE)
  obtain ⟨V, hV⟩ : ∃ V, namedR (hdrB n) n = V := ⟨_, rfl⟩
  rw [hV] at HC ⊢
  clear hV hBG hn
  obtain ⟨k, t, r, ok⟩ := V
  dsimp only [namedV] at HC
  have hT := Blk.new w 26 (valC 0 [] 0)
  have hb0 := (Below.refl w.heap.size w).alloc (Nat.le_refl _) (.cells (valC 0 [] 0) 26)
  have hm0 := hm.keepB hb0
  have he0 := he.keepB hb0
  go_enter Tryd.func5, Tryd.ntmps5
  go_upto_region 1 with fail
  obtain ⟨w0, hw0⟩ : ∃ W', w.alloc (.cells (valC 0 [] 0) 26) = W' := ⟨_, rfl⟩
  have hw0' := hw0
  unfold valC at hw0'
  rw [show (([] : List UInt8).toArray) = #[] from rfl] at hw0'
  rw [hw0']
  rw [hw0] at hT hb0 hm0 he0
  obtain ⟨b, hb⟩ : ∃ b, w.heap.size = b := ⟨_, rfl⟩
  have HB := Lib.hid hb
  rw [hb] at hT hb0 ⊢
  clear hb hw0 hw0' hm he
  go_wp2_with fail
  refine (HC.out w0 hm0 he0).mono ?_
  rintro e w1 ⟨rfl, ba⟩
  have hT1 := hT.belowS ba
  have hb1 := below_then hb0 ba (by have := hT.lt; omega)
  clear ba hT hb0 hm0 he0 HC
  go_wp2_with (refine wpList_store_row rfl 26 _ _ rfl b (valC (k) (t) (r)) rfl rfl 26 (valC 0 [] 0) hT1 (by kernel_rfl) rfl (by simp [valC, Value.oneCell']) ?_)
  have hF : Blk (w1.setRow b (valC (k) (t) (r))) b 26 (valC (k) (t) (r)) := setRow_heap w1 _ _ _ _ _ hT1
  have hBB : Below b w (w1.setRow b (valC (k) (t) (r))) := ⟨hb1.os, hb1.tape, hb1.output, by simpa using hb1.size, fun k hk => (setRow_other _ _ _ _ (by omega)).trans (hb1.block k hk)⟩
  exact ret_blk_tmp rfl rfl hF _ Tryd.underlying26 rfl (by kernel_rfl) rfl (.bool ok) rfl ⟨rfl, by rw [HB.out]; exact hBB⟩
end Go.Proofs.YtfpmnkokmlghmaaDoor
