/- The built-in names: the reference's heap at its beginning. Nothing is claimed here. -/
import Derived.Deep.DeepCutAuto
import Derived.Test.YtfpmnkokmlghmaaDoorBltSA
import Derived.Test.YtfpmnkokmlghmaaDoorBltT
namespace Go.Proofs.YtfpmnkokmlghmaaDoor
open Go.RowKit Go.Lib Go.Shelf Go.Sort
set_option linter.unusedVariables false
attribute [local go_sem] steady

/-- the end of the round's part for a derived class -/
theorem reg_end {w W w6 : World} {b s k pn g6 c6 on blk : Nat} {objs : List Ob} {v vn : Value} {x : List UInt8} {cs cs6 : Array Value} (HS : BegS w b s k objs v vn W) (hg6 : W.grownBy w6 (Value.slice (some ⟨s, 0, none⟩) 1 1).ownBlock)
    (hO6 : Blk w6 (s + 1) 60 #[.int .i64 9, .string ⟨x.toArray⟩, .int .i64 0, .slice none 0 0, .slice (some ⟨s, 0, none⟩) 1 1, .slice none 0 0, .slice none 0 0, .slice none 0 0, .int .i64 0, .int .i64 0])
    (hB6 : Blk w6 g6 3 cs6) (hc6 : 1 + on ≤ cs6.size) (ht6 : cs6.toList.take (1 + on) = [.int .i64 (k : Int)] ++ cs.toList.take on) (hPo : ∀ u ∈ cs.toList.take on, u.oneCell' = true) (hpn : on ≤ pn + 1) (hpk : pn < k) :
    ∃ O : Ob, O.name = x ∧ BegS w b s k objs v vn ((w6.setCell ⟨s + 1, 3, none⟩ (.slice (some ⟨blk, 0, none⟩) 1 1)).setCell ⟨s + 1, 4, none⟩ (.slice (some ⟨g6, 0, none⟩) (1 + on) c6)) ∧
      Blk ((w6.setCell ⟨s + 1, 3, none⟩ (.slice (some ⟨blk, 0, none⟩) 1 1)).setCell ⟨s + 1, 4, none⟩ (.slice (some ⟨g6, 0, none⟩) (1 + on) c6)) (s + 1) 60 O.cells.toArray ∧
      O.ok ((w6.setCell ⟨s + 1, 3, none⟩ (.slice (some ⟨blk, 0, none⟩) 1 1)).setCell ⟨s + 1, 4, none⟩ (.slice (some ⟨g6, 0, none⟩) (1 + on) c6)) (k + 1) := by
  have HS6 := HS.grown (row := some s) hg6 (fun g e => by injection e with e; omega)
  have HS7 := (HS6.far (p := ⟨s + 1, 3, none⟩) (Nat.le_succ s) (.slice (some ⟨blk, 0, none⟩) 1 1)).far (p := ⟨s + 1, 4, none⟩) (Nat.le_succ s) (.slice (some ⟨g6, 0, none⟩) (1 + on) c6)
  have hne : g6 ≠ s + 1 := by
    intro e
    subst e
    unfold Blk at hO6 hB6
    rw [hO6] at hB6
    injection hB6 with h
    injection h with _ h
    exact absurd h (by decide)
  have hB7 := (hB6.far (p := ⟨s + 1, 3, none⟩) hne (.slice (some ⟨blk, 0, none⟩) 1 1)).far (p := ⟨s + 1, 4, none⟩) hne (.slice (some ⟨g6, 0, none⟩) (1 + on) c6)
  have hO7 := (hO6.set_ 3 (.slice (some ⟨blk, 0, none⟩) 1 1)).set_ 4 (.slice (some ⟨g6, 0, none⟩) (1 + on) c6)
  refine ⟨⟨x, some ⟨blk, 0, none⟩, 1, 1, g6, 1 + on, c6⟩, rfl, HS7, hO7, rfl, by show 1 ≤ 1 + on; omega, by show 1 + on ≤ k + 1; omega, cs6, hB7, hc6, ?_⟩
  show ∀ u ∈ cs6.toList.take (1 + on), u.oneCell' = true
  rw [ht6]
  intro u hu
  rcases List.mem_append.1 hu with hu | hu
  · rw [List.mem_singleton.1 hu]; rfl
  · exact hPo u hu
theorem reg_alloc {w W : World} {b s k : Nat} {objs : List Ob} {v vn : Value} {x : List UInt8} {o : Obj} (h : ∃ O : Ob, O.name = x ∧ BegS w b s k objs v vn W ∧ Blk W (s + 1) 60 O.cells.toArray ∧ O.ok W (k + 1)) :
    ∃ O : Ob, O.name = x ∧ BegS w b s k objs v vn (W.alloc o) ∧ Blk (W.alloc o) (s + 1) 60 O.cells.toArray ∧ O.ok (W.alloc o) (k + 1) := by
  obtain ⟨O, h1, h2, h3, h4⟩ := h
  exact ⟨O, h1, h2.alloc o, h3.alloc o, h4.below ((Below.refl W.heap.size W).alloc (Nat.le_refl _) o)⟩

set_option maxRecDepth 100000 in
set_option maxHeartbeats 4000000 in
theorem begin_any (w : World) (hm : Lim w) (he : Env w) : Calls Tryd.prog 33 #[] w fun e w' => ∃ (A : Option Addr) (c : Nat) (objs : List Ob), e = .returned (.agg #[.slice A 49 c]) ∧ Hid (objs.map (·.name) = clsL) ∧ Row w' A (objs.flatMap Ob.cells) ∧ Below w.heap.size w w' := by
  obtain ⟨io, hio, hoz0, hoz1, hoz2⟩ := info_parts info_obj
  obtain ⟨ii, hii, hiz0, hiz1, hiz2⟩ := info_parts info_intH
  obtain ⟨is, his, hsz0, hsz1, hsz2⟩ := info_parts info_str
  obtain ⟨b, hbb⟩ : ∃ b, w.heap.size = b := ⟨_, rfl⟩
  have HB := Lib.hid hbb
  have HLM : Hid (∀ w', Below b w w' → Lim w') := Lib.hid (fun w' h => hm.keepB (by rw [hbb]; exact h))
  clear hm
  go_enter Tryd.func33, Tryd.ntmps33
  go_wp2_with fail
  have hT0 := (Blk.new w 56 #[.slice none 0 0]).alloc (.cells #[.slice none 0 0] 56)
  have hT1 := Blk.new (w.alloc (.cells #[.slice none 0 0] 56)) 56 #[.slice none 0 0]
  have hb := ((Below.refl w.heap.size w).alloc (Nat.le_refl _) (.cells #[.slice none 0 0] 56)).alloc (by simp) (.cells #[.slice none 0 0] 56)
  have hs : ((w.alloc (.cells #[.slice none 0 0] 56)).alloc (.cells #[.slice none 0 0] 56)).heap.size = b + 2 := by simp [hbb]
  have hs1 : (w.alloc (.cells #[.slice none 0 0] 56)).heap.size = b + 1 := by simp [hbb]
  have he1 := he.keepB hb
  rw [hbb] at hT0 hb
  rw [hs1] at hT1
  obtain ⟨w1, hw1⟩ : ∃ x, (w.alloc (.cells #[.slice none 0 0] 56)).alloc (.cells #[.slice none 0 0] 56) = x := ⟨_, rfl⟩
  rw [hw1] at hT0 hT1 hb hs he1 ⊢
  clear hw1 hs1 hbb he
  refine Calls.cast (b := #[.string treV]) (by kernel_rfl) ((treFields_any w1 he1).mono ?_)
  rintro e w2 ⟨rfl, hw2⟩
  have hN := Blk.new w1 9 (strs treL).toArray
  have hT0b := hT0.alloc (.cells (strs treL).toArray 9)
  have hT1b := hT1.alloc (.cells (strs treL).toArray 9)
  have hb2 := hb.alloc (by omega) (.cells (strs treL).toArray 9)
  rw [← hw2] at hN hT0b hT1b hb2
  rw [hs] at hN ⊢
  clear hw2 hT0 hT1 hb he1 hs
  go_wp2_with fail
  go_loopw [2, 12] (fun vn i wr => ∃ (k : Nat) (objs : List Ob) (v : Value), k ≤ 49 ∧ i = .int .i64 (k : Int) ∧ Hid (objs.map (·.name) = clsL.take k) ∧ objs.length = k ∧ BegS w b wr.heap.size k objs v vn wr) (fun _ i _ => 49 - (RowKit.intOf i).toNat)
  case atStart =>
    have hN3 := hN.lt
    exact ⟨0, [], .slice none 0 0, by omega, rfl, Lib.hid rfl, rfl, ⟨Lib.hid (by simp), World.ownsRow_nil _ _ _ _, World.ownsRow_nil _ _ _ _, hT0b, hT1b, hN, hb2, (fun g e => by cases e), (fun g e => by cases e), Lib.hid (by simp), by omega, Nat.le_refl _⟩⟩
  case round =>
    clear hN hT0b hT1b hb2
    obtain ⟨k, objs, v, hk, rfl, HNM, hol, HS⟩ := hrel
    have hlen : clsL.length = 49 := by decide +kernel
    have hlen2 : treL.length = 49 := by decide +kernel
    by_cases hlt : k < 49
    · obtain ⟨tx, htx⟩ : ∃ tx, treL[k]? = some tx := ⟨treL[k], List.getElem?_eq_getElem (by omega)⟩
      obtain ⟨x, hx⟩ : ∃ x, clsL[k]? = some x := ⟨clsL[k], List.getElem?_eq_getElem (by omega)⟩
      have hdat := List.all_eq_true.1 tre_data k (List.mem_range.2 hlt)
      rw [show treL.getD k [] = tx from by rw [List.getD_eq_getElem?_getD, htx]; rfl, show clsL.getD k [] = x from by rw [List.getD_eq_getElem?_getD, hx]; rfl] at hdat
      simp only [Bool.and_eq_true, decide_eq_true_eq, beq_iff_eq] at hdat
      obtain ⟨⟨htl, hhd⟩, hpr⟩ := hdat
      have HPR := Lib.hid hpr
      have hcell : wr.cell? ⟨b + 2, k, none⟩ = some (.string ⟨tx.toArray⟩) := by
        rw [HS.n.cell k]
        simp [strs, htx]
      have HNX := Lib.hid (show clsL.take (k + 1) = clsL.take k ++ [x] from by rw [List.take_add_one, hx]; rfl)
      have HHD := Lib.hid hhd
      obtain ⟨s, hs⟩ : ∃ s, wr.heap.size = s := ⟨_, rfl⟩
      rw [hs] at HS
      have HSH := Lib.hid HS
      have hb0 := HS.bel
      clear hx htx hpr hhd HS
      go_wp2_with fail
      refine (cut_any tx 58 wr (by omega) (HLM.out wr hb0)).mono ?_
      rintro e w3 ⟨rfl, q, rfl⟩
      rw [HHD.out]
      have HSd := HSH.out.drewN q
      have hsd : (wr.drewN q).heap.size = s := hs
      generalize wr.drewN q = wd at HSd hsd ⊢
      clear hb0 HSH hs hcell HHD
      cases hdv : tx.contains 58
      · simp only [Bool.false_eq_true, if_false]
        go_upto_region 11 with fail
        have hI := (Blk.new wd 3 #[.int .i64 (k : Int)]).alloc (.cells #[.int .i64 9, .string ⟨x.toArray⟩, .int .i64 0, .slice none 0 0, .slice (some ⟨s, 0, none⟩) 1 1, .slice none 0 0, .slice none 0 0, .slice none 0 0, .int .i64 0, .int .i64 0] 60)
        have hO := Blk.new (wd.alloc (.cells #[.int .i64 (k : Int)] 3)) 60 #[.int .i64 9, .string ⟨x.toArray⟩, .int .i64 0, .slice none 0 0, .slice (some ⟨s, 0, none⟩) 1 1, .slice none 0 0, .slice none 0 0, .slice none 0 0, .int .i64 0, .int .i64 0]
        have HS4 := (HSd.alloc (.cells #[.int .i64 (k : Int)] 3)).alloc (.cells #[.int .i64 9, .string ⟨x.toArray⟩, .int .i64 0, .slice none 0 0, .slice (some ⟨s, 0, none⟩) 1 1, .slice none 0 0, .slice none 0 0, .slice none 0 0, .int .i64 0, .int .i64 0] 60)
        have hss : (wd.alloc (.cells #[.int .i64 (k : Int)] 3)).heap.size = s + 1 := by simp [hsd]
        have hss4 : ((wd.alloc (.cells #[.int .i64 (k : Int)] 3)).alloc (.cells #[.int .i64 9, .string ⟨x.toArray⟩, .int .i64 0, .slice none 0 0, .slice (some ⟨s, 0, none⟩) 1 1, .slice none 0 0, .slice none 0 0, .slice none 0 0, .int .i64 0, .int .i64 0] 60)).heap.size = s + 2 := by simp [hsd]
        rw [hsd] at hI
        rw [hss] at hO
        obtain ⟨w4, hw4⟩ : ∃ W', (wd.alloc (.cells #[.int .i64 (k : Int)] 3)).alloc (.cells #[.int .i64 9, .string ⟨x.toArray⟩, .int .i64 0, .slice none 0 0, .slice (some ⟨s, 0, none⟩) 1 1, .slice none 0 0, .slice none 0 0, .slice none 0 0, .int .i64 0, .int .i64 0] 60) = W' := ⟨_, rfl⟩
        rw [hw4] at hI hO HS4 hss4 ⊢
        clear hw4 hss hsd HSd
        change Blk w4 (s + 1) 60 (⟨x, none, 0, 0, s, 1, 1⟩ : Ob).cells.toArray at hO
        have hok : (⟨x, none, 0, 0, s, 1, 1⟩ : Ob).ok w4 (k + 1) := ⟨rfl, Nat.le_refl _, by show 1 ≤ k + 1; omega, #[.int .i64 (k : Int)], hI, Nat.le_refl _, by intro u hu; simp at hu; subst hu; rfl⟩
        have hsq : s ≤ s + 1 := by omega
        clear hI hss4
        have hnx := HS4.nam
        have htx := HS4.t1
        have hbx := HS4.bs
        have hsx := HS4.sz
        have hlnx := HS4.ln
        have HX := Lib.hid HS4
        have HOK := Lib.hid hok
        have HRO := Lib.hid (hok).1
        have HQ := Lib.hid hO
        clear hok
        go_upto_region 12 with (at_builtin; refine wpList_append_own_at _ rfl (.tmp 44) (.tmp 46) 31 rfl (b + 3) 9 is _ 1 16 Tryd.underlying31 his hsz0 hsz1 hsz2 rfl (by decide) _ k _ rfl (hnx.alloc _) ⟨w4.heap.size, 0, none⟩ 1 1 [.string ⟨x.toArray⟩] rfl rfl (cell_one_new w4 _ _) (by intro u hu; simp at hu; subst hu; rfl) (by unfold maxLen; omega) (by omega) (by simp; omega) ?_; intro v8 w8 hown8 hg8 _ hat8)
        have HM := HX.out.mid hsq HQ.out HOK.out HNX.out hown8 hg8
        clear hnx htx hbx hsx hlnx HX HOK HQ HS4 hO hown8 hg8 hat8
        have hown := HM.own
        have hT1 := HM.t1
        have hgs := HM.n.lt
        have hbs := HM.bel.size
        rw [HB.out] at hbs
        have hOx := HM.o
        dsimp only [Ob.cells, Ob.ord, Ob.refs] at hOx
        obtain ⟨q1, q2, q3⟩ := hOx.rules
        clear hOx
        obtain ⟨r1, r2, r3⟩ := hT1.rules
        have hlv := fun g e => (hown.lt g e).1
        have HMH := Lib.hid HM
        clear HM
        as_aux_lemma =>
        go_wp2_with (first | (refine wpList_buildSlice rfl 54 60 1 _ rfl ((⟨x, none, 0, 0, s, 1, 1⟩ : Ob)).cells.toArray io _ Tryd.underlying54 hio hoz0 (by rw [hoz1]; decide) (by rw [hoz1]; decide) (by rw [hoz1, Array.toList_map]; exact fill_obj _ _ _ _ _ _ _ _ _ _) ?_) | (at_builtin; refine wpList_append_own_at _ rfl (.tmp 49) (.tmp 51) 54 rfl (b + 3) 60 io _ 10 168 Tryd.underlying54 hio hoz0 hoz1 hoz2 rfl (by decide) _ k _ rfl (hown.alloc _) ⟨w8.heap.size, 0, none⟩ 1 1 ((⟨x, none, 0, 0, s, 1, 1⟩ : Ob)).cells rfl rfl (new_ob w8 ((⟨x, none, 0, 0, s, 1, 1⟩ : Ob)) _) (ob_one _ HRO.out) (by unfold maxLen; omega) (by omega) (by simp; omega) ?_; intro v9 w9 hown9 hg9 _ hat9; obtain ⟨A9, c9, rfl, _, _⟩ := own_form hown9; have hT18 := (hT1.alloc (.cells ((⟨x, none, 0, 0, s, 1, 1⟩ : Ob)).cells.toArray 60)).grown hg9 (fun e => by have := (hlv _ e.symm); omega); obtain ⟨t1, t2, t3⟩ := hT18.rules))
        have HF := HMH.out.fin hol hown9 hg9
        go_roundw
        case rel => exact ⟨k + 1, objs ++ [((⟨x, none, 0, 0, s, 1, 1⟩ : Ob))], .slice A9 (k + 1) c9, by omega, by go_num, Lib.hid (by rw [List.map_append, HNM.out, HNX.out]; rfl), by rw [List.length_append, hol]; rfl, HF⟩
        case measure => simp [RowKit.intOf]; omega
      · rw [hdv] at HPR
        have hpr := HPR.out
        simp only [Bool.not_true, Bool.false_or, Bool.and_eq_true, decide_eq_true_eq] at hpr
        obtain ⟨hp0, hp1⟩ := hpr
        simp only [if_true]
        generalize tl 58 tx = bs at hp0 hp1 ⊢
        go_upto_region 9 with fail
        have hI := (Blk.new wd 3 #[.int .i64 (k : Int)]).alloc (.cells #[.int .i64 9, .string ⟨x.toArray⟩, .int .i64 0, .slice none 0 0, .slice (some ⟨s, 0, none⟩) 1 1, .slice none 0 0, .slice none 0 0, .slice none 0 0, .int .i64 0, .int .i64 0] 60)
        have hO := Blk.new (wd.alloc (.cells #[.int .i64 (k : Int)] 3)) 60 #[.int .i64 9, .string ⟨x.toArray⟩, .int .i64 0, .slice none 0 0, .slice (some ⟨s, 0, none⟩) 1 1, .slice none 0 0, .slice none 0 0, .slice none 0 0, .int .i64 0, .int .i64 0]
        have HS4 := (HSd.alloc (.cells #[.int .i64 (k : Int)] 3)).alloc (.cells #[.int .i64 9, .string ⟨x.toArray⟩, .int .i64 0, .slice none 0 0, .slice (some ⟨s, 0, none⟩) 1 1, .slice none 0 0, .slice none 0 0, .slice none 0 0, .int .i64 0, .int .i64 0] 60)
        have hss : (wd.alloc (.cells #[.int .i64 (k : Int)] 3)).heap.size = s + 1 := by simp [hsd]
        have hss4 : ((wd.alloc (.cells #[.int .i64 (k : Int)] 3)).alloc (.cells #[.int .i64 9, .string ⟨x.toArray⟩, .int .i64 0, .slice none 0 0, .slice (some ⟨s, 0, none⟩) 1 1, .slice none 0 0, .slice none 0 0, .slice none 0 0, .int .i64 0, .int .i64 0] 60)).heap.size = s + 2 := by simp [hsd]
        rw [hsd] at hI
        rw [hss] at hO
        obtain ⟨w4, hw4⟩ : ∃ W', (wd.alloc (.cells #[.int .i64 (k : Int)] 3)).alloc (.cells #[.int .i64 9, .string ⟨x.toArray⟩, .int .i64 0, .slice none 0 0, .slice (some ⟨s, 0, none⟩) 1 1, .slice none 0 0, .slice none 0 0, .slice none 0 0, .int .i64 0, .int .i64 0] 60) = W' := ⟨_, rfl⟩
        rw [hw4] at hI hO HS4 hss4 ⊢
        clear hw4 hss hsd HSd
        obtain ⟨NA, nc, rfl, hnrow, _⟩ := own_form HS4.nam
        have hkp : 0 < k := by omega
        have htl2 : (clsL.take k).length = k := by rw [List.length_take, hlen]; omega
        have hne : clsL.take k ≠ [] := by
          intro e
          rw [e] at htl2
          simp at htl2
          omega
        obtain ⟨nb, noff, rfl, hncl⟩ := row_bas hnrow hne
        have hbl : (bas (clsL.take k)).length = k := by unfold bas; rw [List.length_map, htl2]
        have HIX := Lib.hid (Tryd.slices_Index_string nb noff k nc (bas (clsL.take k)) ⟨bs.toArray⟩ w4 (by omega) (by omega) hncl)
        rw [show (bas (clsL.take k)).take k = bas (clsL.take k) from List.take_of_length_le (by omega)] at HIX
        obtain ⟨pn, hpn⟩ : ∃ pn : Nat, Lib.idxOfS (bas (clsL.take k)) ⟨bs.toArray⟩ = (pn : Int) := ⟨(Lib.idxOfS (bas (clsL.take k)) ⟨bs.toArray⟩).toNat, by omega⟩
        rw [hpn] at HIX hp1
        clear hpn hp0 hnrow hne hncl hbl
        have hpk : pn < k := by omega
        have HSH := Lib.hid HS4
        clear HS4
        go_wp2_with fail
        refine HIX.out.mono ?_
        rintro e w5 ⟨rfl, rfl⟩
        clear HIX
        have HS4 := HSH.out
        clear HSH
        obtain ⟨P, hP⟩ : ∃ P, objs[pn]? = some P := ⟨objs[pn]'(by omega), List.getElem?_eq_getElem (by omega)⟩
        obtain ⟨hPr, hP1, hPn, cs, hPB, hPc, hPo⟩ := HS4.ok.out pn P hP
        obtain ⟨lb, lc, rfl, hlb, hlc⟩ := own_ob HS4.own hP
        have hc4 : w5.cell? ⟨lb, pn * 10 + 4, none⟩ = some (.slice (some ⟨P.ob, 0, none⟩) P.on P.oc) := by rw [Nat.mul_comm]; exact (hlc 4 (by decide)).trans rfl
        clear hlc hP
        go_upto_region 10 with fail
        have hI5o := own_one (base := s) hI (Nat.le_refl _)
        have hnl : (cs.toList.take P.on).length = P.on * 1 := by simp; omega
        obtain ⟨q1, q2, q3⟩ := hO.rules
        have hT14 := HS4.t1
        obtain ⟨r1, r2, r3⟩ := hT14.rules
        have HNW : Hid (∀ W, Blk W P.ob 3 cs → ∀ j u, (cs.toList.take P.on)[j]? = some u → W.cell? ((⟨P.ob, 0, none⟩ : Addr).add j) = some u) := Lib.hid (by
          intro W hW j u h
          rw [show ((⟨P.ob, 0, none⟩ : Addr).add j) = ⟨P.ob, j, none⟩ from by simp [Addr.add]; omega]
          rw [hW.cell j]
          rw [List.getElem?_take] at h
          split at h
          · simpa using h
          · cases h)
        have hI5d : w5.drew.ownsRow s 3 1 (.slice (some ⟨s, 0, none⟩) 1 1) 1 [.int .i64 (k : Int)] := hI5o
        have hPBd : Blk w5.drew P.ob 3 cs := hPB
        have hOd := hO.drew
        have hI5a : ((w5.alloc (.cells #[.int .i64 (pn : Int)] 3)).drew).ownsRow s 3 1 (.slice (some ⟨s, 0, none⟩) 1 1) 1 [.int .i64 (k : Int)] := hI5o.alloc _
        have hPBa : Blk ((w5.alloc (.cells #[.int .i64 (pn : Int)] 3)).drew) P.ob 3 cs := hPB.alloc _
        have hOa : Blk ((w5.alloc (.cells #[.int .i64 (pn : Int)] 3)).drew) (s + 1) 60 _ := hO.alloc _
        have HSN := Lib.hid HS4
        have hsd : w5.drew.heap.size = s + 2 := hss4
        have hsa : ((w5.alloc (.cells #[.int .i64 (pn : Int)] 3)).drew).heap.size = s + 3 := by show (w5.alloc (.cells #[.int .i64 (pn : Int)] 3)).heap.size = s + 3; simp [hss4]
        have r4 : b + 1 < s + 2 := by omega
        have r5 : lb < s + 2 := by rw [← hss4]; exact hlb
        have i1 : (pn : Int) < (k : Int) := by omega
        have i2 : (0 : Int) ≤ (pn : Int) := by omega
        clear HS4
        go_cut [12] (fun s12 wx => s12 = .int .i64 (k : Int) ∧ ∃ O : Ob, O.name = x ∧ BegS w b s k objs (.slice (some ⟨lb, 0, none⟩) k lc) (.slice (some ⟨nb, noff, none⟩) k nc) wx ∧ Blk wx (s + 1) 60 O.cells.toArray ∧ O.ok wx (k + 1))
        case first =>
          go_region_law (refine step_append_own rfl (.tmp 34) (.tmp 40) 58 rfl s 3 ii _ 1 8 Tryd.underlying58 hii hiz0 hiz1 hiz2 rfl (by decide) (.slice (some ⟨s, 0, none⟩) 1 1) 1 [.int .i64 (k : Int)] (by simp [Act.eval, Act.put]) (by first | exact hI5d | exact hI5a) ⟨P.ob, 0, none⟩ P.on P.oc (cs.toList.take P.on) (by simp [Act.eval, Act.put]) hnl (by first | exact HNW.out _ hPBd | exact HNW.out _ hPBa) hPo (by unfold maxLen; omega) (by omega) (by first | (rw [hsd]; omega) | (rw [hsa]; omega)) ?_; intro v6 w6 hown6 hg6; obtain ⟨g6, c6, cs6, rfl, hb6, hB6, hc6, ht6, _⟩ := own_some hown6 (by omega); have hO6 : Blk w6 (s + 1) 60 #[.int .i64 9, .string ⟨x.toArray⟩, .int .i64 0, .slice none 0 0, .slice (some ⟨s, 0, none⟩) 1 1, .slice none 0 0, .slice none 0 0, .slice none 0 0, .int .i64 0, .int .i64 0] := (by first | exact hOd.grown hg6 (fun e => by have h : some (s + 1) = some s := e; simp at h) | exact hOa.grown hg6 (fun e => by have h : some (s + 1) = some s := e; simp at h)); obtain ⟨t1, t2, t3⟩ := hO6.rules)
          all_goals (first | (have hg7 : ((w5.alloc (.cells #[.int .i64 (pn : Int)] 3)).drew).grownBy w6 (Value.slice (some ⟨s, 0, none⟩) 1 1).ownBlock := (by with_reducible exact hg6); have HE := reg_end (c6 := c6) (blk := s + 2) ((HSN.out.alloc (.cells #[.int .i64 (pn : Int)] 3)).drew) hg7 hO6 hB6 hc6 ht6 hPo hPn hpk) | (have hg7 : w5.drew.grownBy w6 (Value.slice (some ⟨s, 0, none⟩) 1 1).ownBlock := (by with_reducible exact hg6); have HE := reg_alloc (o := .cells #[.int .i64 (pn : Int)] 3) (reg_end (c6 := c6) (blk := w6.heap.size) HSN.out.drew hg7 hO6 hB6 hc6 ht6 hPo hPn hpk)))
          all_goals clear q1 q2 q3 r1 r2 r3 t1 t2 t3
          all_goals (go_wp2_with fail; go_meet; exact ⟨rfl, HE⟩)
        case rest =>
          obtain ⟨rfl, ⟨nm, ra, rl, rc, ob, on, oc⟩, hnm, HS7, hO7, hok⟩ := hcut
          obtain rfl : x = nm := hnm.symm
          have hsq : s ≤ s + 1 := by omega
          clear q1 q2 q3 r1 r2 r3 hI5o hnl HNW hI5d hPBd hOd hI5a hPBa hOa HSN hsd hsa hI hO hss4 hPB hPc hPo hc4 hlb
          have hnx := HS7.nam
          have htx := HS7.t1
          have hbx := HS7.bs
          have hsx := HS7.sz
          have hlnx := HS7.ln
          have HX := Lib.hid HS7
          have HOK := Lib.hid hok
          have HRO := Lib.hid (hok).1
          have HQ := Lib.hid hO7
          clear hok
          go_upto_region 12 with (at_builtin; refine wpList_append_own_at _ rfl (.tmp 44) (.tmp 46) 31 rfl (b + 3) 9 is _ 1 16 Tryd.underlying31 his hsz0 hsz1 hsz2 rfl (by decide) _ k _ rfl (hnx.alloc _) ⟨wc.heap.size, 0, none⟩ 1 1 [.string ⟨x.toArray⟩] rfl rfl (cell_one_new wc _ _) (by intro u hu; simp at hu; subst hu; rfl) (by unfold maxLen; omega) (by omega) (by simp; omega) ?_; intro v8 w8 hown8 hg8 _ hat8)
          have HM := HX.out.mid hsq HQ.out HOK.out HNX.out hown8 hg8
          clear hnx htx hbx hsx hlnx HX HOK HQ HS7 hO7 hown8 hg8 hat8
          have hown := HM.own
          have hT1 := HM.t1
          have hgs := HM.n.lt
          have hbs := HM.bel.size
          rw [HB.out] at hbs
          have hOx := HM.o
          dsimp only [Ob.cells, Ob.ord, Ob.refs] at hOx
          obtain ⟨q1, q2, q3⟩ := hOx.rules
          clear hOx
          obtain ⟨r1, r2, r3⟩ := hT1.rules
          have hlv := fun g e => (hown.lt g e).1
          have HMH := Lib.hid HM
          clear HM
          as_aux_lemma =>
          go_wp2_with (first | (refine wpList_buildSlice rfl 54 60 1 _ rfl ((⟨x, ra, rl, rc, ob, on, oc⟩ : Ob)).cells.toArray io _ Tryd.underlying54 hio hoz0 (by rw [hoz1]; decide) (by rw [hoz1]; decide) (by rw [hoz1, Array.toList_map]; exact fill_obj _ _ _ _ _ _ _ _ _ _) ?_) | (at_builtin; refine wpList_append_own_at _ rfl (.tmp 49) (.tmp 51) 54 rfl (b + 3) 60 io _ 10 168 Tryd.underlying54 hio hoz0 hoz1 hoz2 rfl (by decide) _ k _ rfl (hown.alloc _) ⟨w8.heap.size, 0, none⟩ 1 1 ((⟨x, ra, rl, rc, ob, on, oc⟩ : Ob)).cells rfl rfl (new_ob w8 ((⟨x, ra, rl, rc, ob, on, oc⟩ : Ob)) _) (ob_one _ HRO.out) (by unfold maxLen; omega) (by omega) (by simp; omega) ?_; intro v9 w9 hown9 hg9 _ hat9; obtain ⟨A9, c9, rfl, _, _⟩ := own_form hown9; have hT18 := (hT1.alloc (.cells ((⟨x, ra, rl, rc, ob, on, oc⟩ : Ob)).cells.toArray 60)).grown hg9 (fun e => by have := (hlv _ e.symm); omega); obtain ⟨t1, t2, t3⟩ := hT18.rules))
          have HF := HMH.out.fin hol hown9 hg9
          go_roundw
          case rel => exact ⟨k + 1, objs ++ [((⟨x, ra, rl, rc, ob, on, oc⟩ : Ob))], .slice A9 (k + 1) c9, by omega, by go_num, Lib.hid (by rw [List.map_append, HNM.out, HNX.out]; rfl), by rw [List.length_append, hol]; rfl, HF⟩
          case measure => simp [RowKit.intOf]; omega
    · have hk9 : k = 49 := by omega
      have HNM9 : Hid (objs.map (·.name) = clsL) := Lib.hid (by rw [HNM.out, hk9, ← hlen, List.take_length])
      subst hk9
      have hT0 := HS.t0
      have hT1 := HS.t1
      have hown := HS.own
      have hb := HS.bel
      obtain ⟨q1, q2, q3⟩ := hT1.rules
      obtain ⟨r1, r2, r3⟩ := hT0.rules
      obtain ⟨A, c, rfl, _, _⟩ := own_form hown
      clear HS
      go_wp2_with fail
      have hown9 := own_far (p := ⟨b, 0, none⟩) hown (fun g e => by have := hown.lt g e; simp; omega) (.slice A 49 c)
      exact ret_blk rfl rfl (hT0.set_ 0 (.slice A 49 c)) _ Tryd.underlying56 rfl (by kernel_rfl) rfl ⟨A, c, objs, rfl, HNM9, Row.of_own hown9, by rw [HB.out]; exact hb.setCell (p := ⟨b, 0, none⟩) (Nat.le_refl _) _⟩
end Go.Proofs.YtfpmnkokmlghmaaDoor
