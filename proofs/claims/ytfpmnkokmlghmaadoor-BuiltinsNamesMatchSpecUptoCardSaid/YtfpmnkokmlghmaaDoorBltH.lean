/- The built-in names: has the library a function of a name; the heap at its beginning. Nothing is claimed here. -/
import Derived.Test.YtfpmnkokmlghmaaDoorBltG
import Derived.Great.BuildSlice
import Derived.Test.YtfpmnkokmlghmaaDoorQTail
namespace Go.Proofs.YtfpmnkokmlghmaaDoor
open Go.RowKit Go.Lib Go.Shelf Go.Sort
set_option linter.unusedVariables false
attribute [local go_sem] steady

theorem has_any (n : List UInt8) (w : World) (hm : Lim w) (he : Env w) : Calls Tryd.prog 10 #[.string ⟨n.toArray⟩] w fun e w' => e = .returned (.bool (libH.contains n)) ∧ Below w.heap.size w w' := by
  have HC := Lib.hid (lsig_any n w hm he)
  generalize libH.contains n = r at HC ⊢
  go_enter Tryd.func10, Tryd.ntmps10
  go_wp2_with fail
  refine HC.out.mono ?_
  rintro e w1 ⟨⟨v1, v2, rfl⟩, hb⟩
  go_wp2_with fail
  go_ret
  exact ⟨rfl, hb⟩

/-- a class among the objects of a heap: its name, its bases, its order -/
structure Ob where
  name : List UInt8
  ra : Option Addr
  rl : Nat
  rc : Nat
  ob : Nat
  on : Nat
  oc : Nat
def Ob.refs (o : Ob) : Value := .slice o.ra o.rl o.rc
def Ob.ord (o : Ob) : Value := .slice (some ⟨o.ob, 0, none⟩) o.on o.oc
def Ob.cells (o : Ob) : List Value := [.int .i64 9, .string ⟨o.name.toArray⟩, .int .i64 0, o.refs, o.ord, .slice none 0 0, .slice none 0 0, .slice none 0 0, .int .i64 0, .int .i64 0]
/-- its order can be read -/
def Ob.ok (w : World) (m : Nat) (o : Ob) : Prop := o.refs.oneCell' = true ∧ 1 ≤ o.on ∧ o.on ≤ m ∧ ∃ cs : Array Value, Blk w o.ob 3 cs ∧ o.on ≤ cs.size ∧ ∀ u ∈ cs.toList.take o.on, u.oneCell' = true
theorem Ob.ok.heap {w w' : World} {m : Nat} {o : Ob} (h : o.ok w m) (hb : ∀ (g : Nat) (cs : Array Value), w.heap[g]? = some (Obj.cells cs 3) → w'.heap[g]? = w.heap[g]?) : o.ok w' m := by
  obtain ⟨h1, h2, h3, cs, h4, h5⟩ := h
  exact ⟨h1, h2, h3, cs, (hb _ _ h4).trans h4, h5⟩
theorem Ob.ok.below {w w' : World} {m : Nat} {o : Ob} (h : o.ok w m) (hb : Below w.heap.size w w') : o.ok w' m :=
  h.heap fun g cs hg => hb.block g (Array.getElem?_eq_some_iff.1 hg).1
theorem Ob.ok.far {w : World} {m : Nat} {o : Ob} (h : o.ok w m) {p : Addr} {t : TypeId} {cs : Array Value} (hp : Blk w p.block t cs) (ht : t ≠ 3) (u : Value) : o.ok (w.setCell p u) m := by
  refine h.heap fun g cs' hg => Below.heap_setCell w p u g fun e => ?_
  unfold Blk at hp
  rw [e, hp] at hg
  injection hg with hg
  injection hg with _ hg
  exact ht hg
theorem Ob.ok.grown {w w' : World} {m : Nat} {o : Ob} (h : o.ok w m) {base size n : Nat} {v : Value} {xs : List Value} {e : TypeId} (ho : w.ownsRow base e size v n xs) (he : e ≠ 3) (hg : w.grownBy w' v.ownBlock) : o.ok w' m := by
  refine h.heap fun g cs hc => hg.block g (Array.getElem?_eq_some_iff.1 hc).1 fun e' => ?_
  obtain ⟨cur, h2⟩ := own_heap ho e'.symm
  rw [hc] at h2
  injection h2 with h2
  injection h2 with _ h2
  exact he h2.symm
theorem info_obj : (Tryd.prog.info? 60).map (fun i => (i.zero, i.size, i.bytes)) = some (some (.agg #[.int .i64 0, .string ⟨#[]⟩, .int .i64 0, .slice none 0 0, .slice none 0 0, .slice none 0 0, .slice none 0 0, .slice none 0 0, .int .i64 0, .int .i64 0]), 10, 168) := by kernel_rfl
theorem info_intH : (Tryd.prog.info? 3).map (fun i => (i.zero, i.size, i.bytes)) = some (some (.int .i64 0), 1, 8) := by kernel_rfl
theorem clsFields_any (w : World) (he : Env w) : Calls Tryd.prog 42 #[.string clsV] w fun e w' => e = .returned (.slice (some ⟨w.heap.size, 0, none⟩) 49 49) ∧ w' = w.alloc (.cells (strs clsL).toArray 9) := by
  refine (Tryd.strings_Fields clsV w (by decide +kernel) (all_ascii (by decide +kernel)) he).mono ?_
  rintro e w' ⟨rfl, rfl⟩
  rw [cls_fields]
  exact ⟨rfl, rfl⟩
theorem treFields_any (w : World) (he : Env w) : Calls Tryd.prog 42 #[.string treV] w fun e w' => e = .returned (.slice (some ⟨w.heap.size, 0, none⟩) 49 49) ∧ w' = w.alloc (.cells (strs treL).toArray 9) := by
  refine (Tryd.strings_Fields treV w (by decide +kernel) (all_ascii (by decide +kernel)) he).mono ?_
  rintro e w' ⟨rfl, rfl⟩
  rw [tre_fields]
  exact ⟨rfl, rfl⟩
theorem Ob.ok.grownAt {w w' : World} {m : Nat} {o : Ob} {row : Option Nat} (h : o.ok w m) (hg : w.grownBy w' row) (hne : some o.ob ≠ row) : o.ok w' m := by
  obtain ⟨h1, h2, h3, cs, h4, h5⟩ := h
  exact ⟨h1, h2, h3, cs, h4.grown hg hne, h5⟩
theorem new_ob (w : World) (o : Ob) (t : TypeId) : ∀ j u, o.cells[j]? = some u → (w.alloc (.cells o.cells.toArray t)).cell? ((⟨w.heap.size, 0, none⟩ : Addr).add j) = some u := by
  intro j u h
  have := (Blk.new w t o.cells.toArray).cell j
  rw [show ((⟨w.heap.size, 0, none⟩ : Addr).add j) = ⟨w.heap.size, j, none⟩ from by simp [Addr.add]; omega, this]
  simpa using h
theorem ob_one (o : Ob) (h : o.refs.oneCell' = true) : ∀ u ∈ o.cells, u.oneCell' = true := by
  intro u hu
  simp only [Ob.cells, List.mem_cons, List.not_mem_nil, or_false] at hu
  rcases hu with rfl | rfl | rfl | rfl | rfl | rfl | rfl | rfl | rfl | rfl <;> first | rfl | exact h
theorem fill_obj (a b c d e f g h i j : Value) : Instr.fill (fun i => some (i * 10, 10)) (Array.map (fun x => (Value.agg #[.int .i64 0, .string ⟨#[]⟩, .int .i64 0, .slice none 0 0, .slice none 0 0, .slice none 0 0, .slice none 0 0, .slice none 0 0, .int .i64 0, .int .i64 0]).cells[x % (Value.agg #[.int .i64 0, .string ⟨#[]⟩, .int .i64 0, .slice none 0 0, .slice none 0 0, .slice none 0 0, .slice none 0 0, .slice none 0 0, .int .i64 0, .int .i64 0]).cells.size]!) (Array.range (1 * 10))) [(0, .agg #[a, b, c, d, e, f, g, h, i, j])] = some #[a, b, c, d, e, f, g, h, i, j] := by kernel_rfl
theorem own_one {w : World} {base g t : Nat} {u : Value} (h : Blk w g t #[u]) (hb : base ≤ g) : w.ownsRow base t 1 (.slice (some ⟨g, 0, none⟩) 1 1) 1 [u] :=
  ⟨rfl, .inr ⟨g, 1, #[u], rfl, hb, h, Nat.le_refl _, by decide, rfl, rfl⟩⟩
theorem own_someH {w : World} {base : Nat} {e : TypeId} {n : Nat} {v : Value} {xs : List Value} (h : w.ownsRow base e 1 v n xs) (hn : n ≠ 0) :
    ∃ g c cs, v = .slice (some ⟨g, 0, none⟩) n c ∧ base ≤ g ∧ Blk w g e cs ∧ n ≤ cs.size ∧ cs.toList.take n = xs := by
  rcases h.2 with ⟨_, h2⟩ | ⟨g, cap, cur, hv, hb, hh, hnc, _, hsz, ht⟩
  · exact absurd h2 hn
  · exact ⟨g, cap, cur, hv, hb, hh, by omega, by rw [Nat.mul_one] at ht; exact ht⟩
theorem flat_ob : ∀ (l : List Ob) (j i : Nat) (o : Ob), l[j]? = some o → i < 10 → (l.flatMap Ob.cells)[10 * j + i]? = o.cells[i]?
  | [], _, _, _, h, _ => by simp at h
  | p :: l, 0, i, o, h, hi => by
    have : p = o := by simpa using h
    subst this
    rw [List.flatMap_cons, Nat.mul_zero, Nat.zero_add, List.getElem?_append_left (by simpa [Ob.cells] using hi)]
  | p :: l, j + 1, i, o, h, hi => by
    have hl : p.cells.length = 10 := rfl
    rw [List.flatMap_cons, List.getElem?_append_right (by rw [hl]; omega), hl, show 10 * (j + 1) + i - 10 = 10 * j + i by omega]
    exact flat_ob l j i o (by simpa using h) hi
/-- where a list of objects lies -/
theorem own_ob {w : World} {base n : Nat} {v : Value} {objs : List Ob} (h : w.ownsRow base 60 10 v n (objs.flatMap Ob.cells)) {j : Nat} {o : Ob} (ho : objs[j]? = some o) :
    ∃ g c, v = .slice (some ⟨g, 0, none⟩) n c ∧ g < w.heap.size ∧ ∀ i, i < 10 → w.cell? ⟨g, 10 * j + i, none⟩ = o.cells[i]? := by
  obtain ⟨A, c, rfl, hr, _⟩ := own_form h
  have hj : j < objs.length := (List.getElem?_eq_some_iff.1 ho).1
  have hlen : (objs.flatMap Ob.cells).length = 10 * objs.length := by
    clear h ho hj hr
    induction objs with
    | nil => rfl
    | cons a l ih => rw [List.flatMap_cons, List.length_append, ih, List.length_cons, show a.cells.length = 10 from rfl]; omega
  rcases h.2 with ⟨hv, _⟩ | ⟨g, cap, cur, hv, _, hh, _⟩
  · exfalso
    rcases hr with hr | ⟨b, off, e, _, _⟩
    · rw [hr] at hlen; simp at hlen; omega
    · rw [e] at hv; cases hv
  · obtain ⟨rfl, _⟩ : A = some ⟨g, 0, none⟩ ∧ True := by injection hv with hv; exact ⟨hv, trivial⟩
    rcases hr with hr | ⟨b, off, e, hlt, hc⟩
    · rw [hr] at hlen; simp at hlen; omega
    · injection e with e
      injection e with e1 e2
      subst e1 e2
      refine ⟨g, c, rfl, hlt, fun i hi => ?_⟩
      obtain ⟨u, hu⟩ : ∃ u, o.cells[i]? = some u := ⟨o.cells[i]'hi, List.getElem?_eq_getElem hi⟩
      have := hc (10 * j + i) u ((flat_ob objs j i o ho hi).trans hu)
      rw [Nat.zero_add] at this
      rw [this, hu]
set_option maxRecDepth 100000 in
set_option maxHeartbeats 4000000 in
theorem start_any (w : World) (he : Env w) : Calls Tryd.prog 31 #[] w fun e w' => ∃ (A : Option Addr) (c : Nat) (objs : List Ob), e = .returned (.agg #[.slice A 49 c]) ∧ Hid (objs.map (·.name) = clsL) ∧ Row w' A (objs.flatMap Ob.cells) ∧ Below w.heap.size w w' := by
  obtain ⟨io, hio, hoz0, hoz1, hoz2⟩ := info_parts info_obj
  obtain ⟨ii, hii, hiz0, hiz1, hiz2⟩ := info_parts info_intH
  obtain ⟨b, hbb⟩ : ∃ b, w.heap.size = b := ⟨_, rfl⟩
  have HB := Lib.hid hbb
  go_enter Tryd.func31, Tryd.ntmps31
  go_wp2_with fail
  have hT0 := (Blk.new w 56 #[.slice none 0 0]).alloc (.cells #[.slice none 0 0] 56)
  have hT1 := Blk.new (w.alloc (.cells #[.slice none 0 0] 56)) 56 #[.slice none 0 0]
  have hb := ((Below.refl w.heap.size w).alloc (Nat.le_refl _) (.cells #[.slice none 0 0] 56)).alloc (by simp) (.cells #[.slice none 0 0] 56)
  have hs : ((w.alloc (.cells #[.slice none 0 0] 56)).alloc (.cells #[.slice none 0 0] 56)).heap.size = b + 2 := by simp [hbb]
  have hs1 : (w.alloc (.cells #[.slice none 0 0] 56)).heap.size = b + 1 := by simp [hbb]
  have he1 := he.keepB hb
  rw [hbb] at hT0 hb
  rw [hs1] at hT1
  obtain ⟨w1, hw1⟩ : ∃ x, (w.alloc (.cells #[.slice none 0 0] 56)).alloc (.cells #[.slice none 0 0] 56) = x := ⟨_, rfl⟩
  rw [hw1] at hT0 hT1 hb hs he1 ⊢
  clear hw1 hs1 hbb he
  refine Calls.cast (b := #[.string clsV]) (by kernel_rfl) ((clsFields_any w1 he1).mono ?_)
  rintro e w2 ⟨rfl, hw2⟩
  have hN := Blk.new w1 9 (strs clsL).toArray
  have hT0b := hT0.alloc (.cells (strs clsL).toArray 9)
  have hT1b := hT1.alloc (.cells (strs clsL).toArray 9)
  have hb2 := hb.alloc (by omega) (.cells (strs clsL).toArray 9)
  rw [← hw2] at hN hT0b hT1b hb2
  rw [hs] at hN ⊢
  clear hw2 hT0 hT1 hb he1 hs
  go_wp2_with fail
  go_loopw [8] (fun i wr => ∃ (k : Nat) (objs : List Ob) (v : Value), k ≤ 49 ∧ i = .int .i64 (k : Int) ∧ Hid (objs.map (·.name) = clsL.take k) ∧ Hid (∀ (j : Nat) (o : Ob), objs[j]? = some o → o.ok wr (j + 1)) ∧ objs.length = k ∧ wr.ownsRow (b + 3) 60 10 v k (objs.flatMap Ob.cells) ∧ Blk wr b 56 #[.slice none 0 0] ∧ Blk wr (b + 1) 56 #[v] ∧ Blk wr (b + 2) 9 (strs clsL).toArray ∧ Below b w wr) (fun i _ => 49 - (RowKit.intOf i).toNat)
  case atStart => exact ⟨0, [], .slice none 0 0, by omega, rfl, Lib.hid rfl, Lib.hid (by simp), rfl, World.ownsRow_nil _ _ _ _, hT0b, hT1b, hN, hb2⟩
  case round =>
    clear hN hT0b hT1b hb2
    obtain ⟨k, objs, v, hk, rfl, HNM, HOK, hol, hown, hT0, hT1, hN, hb⟩ := hrel
    have hlen : clsL.length = 49 := by decide +kernel
    by_cases hlt : k < 49
    · obtain ⟨x, hx⟩ : ∃ x, clsL[k]? = some x := ⟨clsL[k], List.getElem?_eq_getElem (by omega)⟩
      have hcell : wr.cell? ⟨b + 2, k, none⟩ = some (.string ⟨x.toArray⟩) := by
        rw [hN.cell k]
        simp [strs, hx]
      have HNX := Lib.hid (show clsL.take (k + 1) = clsL.take k ++ [x] from by rw [List.take_add_one, hx]; rfl)
      clear hx
      by_cases hk0 : k = 0
      · have hkn : ¬ 0 < k := by omega
        clear hk0
        go_upto_region 10 with fail
        obtain ⟨s, hs⟩ : ∃ s, wr.heap.size = s := ⟨_, rfl⟩
        have hI := (Blk.new wr 3 #[.int .i64 (k : Int)]).alloc (.cells #[.int .i64 9, .string ⟨x.toArray⟩, .int .i64 0, .slice none 0 0, .slice (some ⟨s, 0, none⟩) 1 1, .slice none 0 0, .slice none 0 0, .slice none 0 0, .int .i64 0, .int .i64 0] 60)
        have hO := Blk.new (wr.alloc (.cells #[.int .i64 (k : Int)] 3)) 60 #[.int .i64 9, .string ⟨x.toArray⟩, .int .i64 0, .slice none 0 0, .slice (some ⟨s, 0, none⟩) 1 1, .slice none 0 0, .slice none 0 0, .slice none 0 0, .int .i64 0, .int .i64 0]
        have hba := ((Below.refl wr.heap.size wr).alloc (Nat.le_refl _) (.cells #[.int .i64 (k : Int)] 3)).alloc (by simp) (.cells #[.int .i64 9, .string ⟨x.toArray⟩, .int .i64 0, .slice none 0 0, .slice (some ⟨s, 0, none⟩) 1 1, .slice none 0 0, .slice none 0 0, .slice none 0 0, .int .i64 0, .int .i64 0] 60)
        have hss : (wr.alloc (.cells #[.int .i64 (k : Int)] 3)).heap.size = s + 1 := by simp [hs]
        have hbs := hb.size
        rw [HB.out, hs] at hbs
        have hN3 := hN.lt
        have HLT : Hid (∀ (j : Nat) (o : Ob), objs[j]? = some o → o.ob < s) := Lib.hid fun j o h => by obtain ⟨_, _, _, _, h4, _⟩ := HOK.out j o h; have := h4.lt; omega
        have hlv : ∀ g, v.ownBlock = some g → b + 3 ≤ g ∧ g < s := fun g e => by have := hown.lt g e; omega
        rw [hs] at hI hN3 ⊢
        rw [hss] at hO
        have hss4 : ((wr.alloc (.cells #[.int .i64 (k : Int)] 3)).alloc (.cells #[.int .i64 9, .string ⟨x.toArray⟩, .int .i64 0, .slice none 0 0, .slice (some ⟨s, 0, none⟩) 1 1, .slice none 0 0, .slice none 0 0, .slice none 0 0, .int .i64 0, .int .i64 0] 60)).heap.size = s + 2 := by simp [hs]
        obtain ⟨w4, hw4⟩ : ∃ W', (wr.alloc (.cells #[.int .i64 (k : Int)] 3)).alloc (.cells #[.int .i64 9, .string ⟨x.toArray⟩, .int .i64 0, .slice none 0 0, .slice (some ⟨s, 0, none⟩) 1 1, .slice none 0 0, .slice none 0 0, .slice none 0 0, .int .i64 0, .int .i64 0] 60) = W' := ⟨_, rfl⟩
        rw [hw4] at hI hO hba hss4 ⊢
        have hb4 := below_then hb hba (by rw [hs]; exact hbs)
        have hT04 := hT0.belowS hba
        have hT14 := hT1.belowS hba
        have hN4 := hN.belowS hba
        have hown4 := own_below hown hba
        have HOK4 : Hid (∀ (j : Nat) (o : Ob), objs[j]? = some o → o.ok w4 (j + 1)) := Lib.hid fun j o h => (HOK.out j o h).below hba
        clear hw4 hba hT0 hT1 hN hown HOK hss hs hcell hb
        change Blk w4 (s + 1) 60 (⟨x, none, 0, 0, s, 1, 1⟩ : Ob).cells.toArray at hO
        have hok : (⟨x, none, 0, 0, s, 1, 1⟩ : Ob).ok w4 (k + 1) := ⟨rfl, Nat.le_refl _, by show 1 ≤ k + 1; omega, #[.int .i64 (k : Int)], hI, Nat.le_refl _, by intro u hu; simp at hu; subst hu; rfl⟩
        clear hI HLT hss4 hkn
        have hgs := hN4.lt
        have hbs := hb4.size
        rw [HB.out] at hbs
        have hOx := hO
        dsimp only [Ob.cells, Ob.ord, Ob.refs] at hOx
        obtain ⟨q1, q2, q3⟩ := hOx.rules
        clear hOx
        obtain ⟨r1, r2, r3⟩ := hT14.rules
        have HRO := Lib.hid (hok).1
        as_aux_lemma =>
        go_wp2_with (first | (refine wpList_buildSlice rfl 54 60 1 _ rfl ((⟨x, none, 0, 0, s, 1, 1⟩ : Ob)).cells.toArray io _ Tryd.underlying54 hio hoz0 (by rw [hoz1]; decide) (by rw [hoz1]; decide) (by rw [hoz1, Array.toList_map]; exact fill_obj _ _ _ _ _ _ _ _ _ _) ?_) | (at_builtin; refine wpList_append_own_at _ rfl (.tmp 35) (.tmp 37) 54 rfl (b + 3) 60 io _ 10 168 Tryd.underlying54 hio hoz0 hoz1 hoz2 rfl (by decide) _ k _ rfl (hown4.alloc _) ⟨w4.heap.size, 0, none⟩ 1 1 ((⟨x, none, 0, 0, s, 1, 1⟩ : Ob)).cells rfl rfl (new_ob w4 ((⟨x, none, 0, 0, s, 1, 1⟩ : Ob)) _) (ob_one _ HRO.out) (by unfold maxLen; omega) (by omega) (by simp; omega) ?_; intro v8 w8 hown8 hg8 _ hat8; obtain ⟨A8, c8, rfl, _, _⟩ := own_form hown8; have hT18 := (hT14.alloc (.cells ((⟨x, none, 0, 0, s, 1, 1⟩ : Ob)).cells.toArray 60)).grown hg8 (fun e => by have := (hlv _ e.symm).1; omega); obtain ⟨t1, t2, t3⟩ := hT18.rules))
        have hal := (Below.refl w4.heap.size w4).alloc (Nat.le_refl _) (.cells ((⟨x, none, 0, 0, s, 1, 1⟩ : Ob)).cells.toArray 60)
        have hown7a := hown4.alloc (.cells ((⟨x, none, 0, 0, s, 1, 1⟩ : Ob)).cells.toArray 60)
        have OK8 : ∀ (m : Nat) (o : Ob), o.ok w4 m → o.ok (w8.setCell ⟨b + 1, 0, none⟩ (.slice A8 (k + 1) c8)) m := fun m o h => ((h.below hal).grown hown7a (by decide) hg8).far (p := ⟨b + 1, 0, none⟩) hT18 (by decide) _
        have hT08 := ((hT04.alloc (.cells ((⟨x, none, 0, 0, s, 1, 1⟩ : Ob)).cells.toArray 60)).grown hg8 (fun e => by have := (hlv _ e.symm).1; omega)).far (p := ⟨b + 1, 0, none⟩) (by simp) (.slice A8 (k + 1) c8)
        have hN8 := ((hN4.alloc (.cells ((⟨x, none, 0, 0, s, 1, 1⟩ : Ob)).cells.toArray 60)).grown hg8 (fun e => by have := (hlv _ e.symm).1; omega)).far (p := ⟨b + 1, 0, none⟩) (by simp) (.slice A8 (k + 1) c8)
        have hown9 := own_far (p := ⟨b + 1, 0, none⟩) hown8 (fun g e => by have := hown8.lt g e; simp; omega) (.slice A8 (k + 1) c8)
        have hb9 := ((hb4.alloc hbs (.cells ((⟨x, none, 0, 0, s, 1, 1⟩ : Ob)).cells.toArray 60)).grown hg8 (by simp; omega) (fun g e => by have := (hlv _ e).1; omega)).setCell (p := ⟨b + 1, 0, none⟩) (by simp) (.slice A8 (k + 1) c8)
        have hT19 : Blk (w8.setCell ⟨b + 1, 0, none⟩ (.slice A8 (k + 1) c8)) (b + 1) 56 #[.slice A8 (k + 1) c8] := hT18.set_ 0 (.slice A8 (k + 1) c8)
        go_roundw
        case rel =>
          refine ⟨k + 1, objs ++ [((⟨x, none, 0, 0, s, 1, 1⟩ : Ob))], .slice A8 (k + 1) c8, by omega, by go_num, Lib.hid (by rw [List.map_append, HNM.out, HNX.out]; rfl), Lib.hid (fun j o h => ?_), by rw [List.length_append, hol]; rfl, by rw [List.flatMap_append, List.flatMap_singleton]; exact hown9, hT08, hT19, hN8, hb9⟩
          rcases Nat.lt_or_ge j objs.length with hj | hj
          · rw [List.getElem?_append_left hj] at h
            exact OK8 _ _ (HOK4.out j o h)
          · rw [List.getElem?_append_right hj] at h
            have hj0 : j - objs.length = 0 := by
              rcases Nat.eq_zero_or_pos (j - objs.length) with h0 | h0
              · exact h0
              · rw [List.getElem?_eq_none (by simp; omega)] at h; cases h
            rw [hj0] at h
            obtain rfl : ((⟨x, none, 0, 0, s, 1, 1⟩ : Ob)) = o := by simpa using h
            have : j = k := by omega
            subst this
            exact OK8 _ _ hok
        case measure => simp [RowKit.intOf]; omega
      · go_upto_region 7 with fail
        obtain ⟨s, hs⟩ : ∃ s, wr.heap.size = s := ⟨_, rfl⟩
        have hI := (Blk.new wr 3 #[.int .i64 (k : Int)]).alloc (.cells #[.int .i64 9, .string ⟨x.toArray⟩, .int .i64 0, .slice none 0 0, .slice (some ⟨s, 0, none⟩) 1 1, .slice none 0 0, .slice none 0 0, .slice none 0 0, .int .i64 0, .int .i64 0] 60)
        have hO := Blk.new (wr.alloc (.cells #[.int .i64 (k : Int)] 3)) 60 #[.int .i64 9, .string ⟨x.toArray⟩, .int .i64 0, .slice none 0 0, .slice (some ⟨s, 0, none⟩) 1 1, .slice none 0 0, .slice none 0 0, .slice none 0 0, .int .i64 0, .int .i64 0]
        have hba := ((Below.refl wr.heap.size wr).alloc (Nat.le_refl _) (.cells #[.int .i64 (k : Int)] 3)).alloc (by simp) (.cells #[.int .i64 9, .string ⟨x.toArray⟩, .int .i64 0, .slice none 0 0, .slice (some ⟨s, 0, none⟩) 1 1, .slice none 0 0, .slice none 0 0, .slice none 0 0, .int .i64 0, .int .i64 0] 60)
        have hss : (wr.alloc (.cells #[.int .i64 (k : Int)] 3)).heap.size = s + 1 := by simp [hs]
        have hbs := hb.size
        rw [HB.out, hs] at hbs
        have hN3 := hN.lt
        have HLT : Hid (∀ (j : Nat) (o : Ob), objs[j]? = some o → o.ob < s) := Lib.hid fun j o h => by obtain ⟨_, _, _, _, h4, _⟩ := HOK.out j o h; have := h4.lt; omega
        have hlv : ∀ g, v.ownBlock = some g → b + 3 ≤ g ∧ g < s := fun g e => by have := hown.lt g e; omega
        rw [hs] at hI hN3 ⊢
        rw [hss] at hO
        have hss4 : ((wr.alloc (.cells #[.int .i64 (k : Int)] 3)).alloc (.cells #[.int .i64 9, .string ⟨x.toArray⟩, .int .i64 0, .slice none 0 0, .slice (some ⟨s, 0, none⟩) 1 1, .slice none 0 0, .slice none 0 0, .slice none 0 0, .int .i64 0, .int .i64 0] 60)).heap.size = s + 2 := by simp [hs]
        obtain ⟨w4, hw4⟩ : ∃ W', (wr.alloc (.cells #[.int .i64 (k : Int)] 3)).alloc (.cells #[.int .i64 9, .string ⟨x.toArray⟩, .int .i64 0, .slice none 0 0, .slice (some ⟨s, 0, none⟩) 1 1, .slice none 0 0, .slice none 0 0, .slice none 0 0, .int .i64 0, .int .i64 0] 60) = W' := ⟨_, rfl⟩
        rw [hw4] at hI hO hba hss4 ⊢
        have hb4 := below_then hb hba (by rw [hs]; exact hbs)
        have hT04 := hT0.belowS hba
        have hT14 := hT1.belowS hba
        have hN4 := hN.belowS hba
        have hown4 := own_below hown hba
        have HOK4 : Hid (∀ (j : Nat) (o : Ob), objs[j]? = some o → o.ok w4 (j + 1)) := Lib.hid fun j o h => (HOK.out j o h).below hba
        clear hw4 hba hT0 hT1 hN hown HOK hss hs hcell hb
        go_wp2_with fail
        refine (parent_any (k : Int) w4).mono ?_
        rintro e w5 ⟨⟨p, rfl, hp0, hp1⟩, rfl⟩
        obtain ⟨pn, rfl⟩ : ∃ pn : Nat, p = (pn : Int) := ⟨p.toNat, by omega⟩
        have hpk : pn < k := by omega
        clear hp0 hp1
        obtain ⟨q1, q2, q3⟩ := hO.rules
        go_upto_region 9 with fail
        have hO5 := (hO.set_ 3 (.slice (some ⟨s + 2, 0, none⟩) 1 1)).alloc (.cells #[.int .i64 (pn : Int)] 3)
        have hI5 := (hI.far (p := ⟨s + 1, 3, none⟩) (by simp) (.slice (some ⟨s + 2, 0, none⟩) 1 1)).alloc (.cells #[.int .i64 (pn : Int)] 3)
        have hT05 := (hT04.far (p := ⟨s + 1, 3, none⟩) (by simp; omega) (.slice (some ⟨s + 2, 0, none⟩) 1 1)).alloc (.cells #[.int .i64 (pn : Int)] 3)
        have hT15 := (hT14.far (p := ⟨s + 1, 3, none⟩) (by simp; omega) (.slice (some ⟨s + 2, 0, none⟩) 1 1)).alloc (.cells #[.int .i64 (pn : Int)] 3)
        have hN5 := (hN4.far (p := ⟨s + 1, 3, none⟩) (by simp; omega) (.slice (some ⟨s + 2, 0, none⟩) 1 1)).alloc (.cells #[.int .i64 (pn : Int)] 3)
        have hown5 := (own_far (p := ⟨s + 1, 3, none⟩) hown4 (fun g e => by have := hlv g e; simp; omega) (.slice (some ⟨s + 2, 0, none⟩) 1 1)).alloc (.cells #[.int .i64 (pn : Int)] 3)
        have hss5 : ((w4.setCell ⟨s + 1, 3, none⟩ (.slice (some ⟨s + 2, 0, none⟩) 1 1))).heap.size = s + 2 := by simp [World.setCell, hss4]
        have hba5 := (Below.refl (w4.setCell ⟨s + 1, 3, none⟩ (.slice (some ⟨s + 2, 0, none⟩) 1 1)).heap.size (w4.setCell ⟨s + 1, 3, none⟩ (.slice (some ⟨s + 2, 0, none⟩) 1 1))).alloc (Nat.le_refl _) (.cells #[.int .i64 (pn : Int)] 3)
        have HOK5 : Hid (∀ (j : Nat) (o : Ob), objs[j]? = some o → o.ok ((w4.setCell ⟨s + 1, 3, none⟩ (.slice (some ⟨s + 2, 0, none⟩) 1 1)).alloc (.cells #[.int .i64 (pn : Int)] 3)) (j + 1)) := Lib.hid fun j o h => ((HOK4.out j o h).far (p := ⟨s + 1, 3, none⟩) hO (by decide) _).below hba5
        have hb5 := (hb4.setCell (p := ⟨s + 1, 3, none⟩) (by simp; omega) (.slice (some ⟨s + 2, 0, none⟩) 1 1)).alloc (by rw [hss5]; omega) (.cells #[.int .i64 (pn : Int)] 3)
        have hss6 : ((w4.setCell ⟨s + 1, 3, none⟩ (.slice (some ⟨s + 2, 0, none⟩) 1 1)).alloc (.cells #[.int .i64 (pn : Int)] 3)).heap.size = s + 3 := by simp [World.setCell, hss4]
        obtain ⟨w5, hw5⟩ : ∃ W', (w4.setCell ⟨s + 1, 3, none⟩ (.slice (some ⟨s + 2, 0, none⟩) 1 1)).alloc (.cells #[.int .i64 (pn : Int)] 3) = W' := ⟨_, rfl⟩
        rw [hw5] at hO5 hI5 hT05 hT15 hN5 hown5 HOK5 hb5 hss6 ⊢
        clear hw5 hba5 hss5 HOK4 hown4 hT04 hT14 hN4 hO hI hb4 hss4 q1 q2 q3
        change Blk w5 (s + 1) 60 #[.int .i64 9, .string ⟨x.toArray⟩, .int .i64 0, .slice (some ⟨s + 2, 0, none⟩) 1 1, .slice (some ⟨s, 0, none⟩) 1 1, .slice none 0 0, .slice none 0 0, .slice none 0 0, .int .i64 0, .int .i64 0] at hO5
        obtain ⟨P, hP⟩ : ∃ P, objs[pn]? = some P := ⟨objs[pn]'(by omega), List.getElem?_eq_getElem (by omega)⟩
        obtain ⟨hPr, hP1, hPn, cs, hPB, hPc, hPo⟩ := HOK5.out pn P hP
        obtain ⟨lb, lc, rfl, hlb, hlc⟩ := own_ob hown5 hP
        have hc4 : w5.cell? ⟨lb, pn * 10 + 4, none⟩ = some (.slice (some ⟨P.ob, 0, none⟩) P.on P.oc) := by rw [Nat.mul_comm]; exact (hlc 4 (by decide)).trans rfl
        clear hlc hP
        have G1 : ∀ (p : Held (fun w' => Blk w' (s + 1) 60 #[.int .i64 9, .string ⟨x.toArray⟩, .int .i64 0, .slice (some ⟨s + 2, 0, none⟩) 1 1, .slice (some ⟨s, 0, none⟩) 1 1, .slice none 0 0, .slice none 0 0, .slice none 0 0, .int .i64 0, .int .i64 0] ∧ Blk w' (b + 1) 56 #[.slice (some ⟨lb, 0, none⟩) k lc] ∧ w'.cell? ⟨lb, pn * 10 + 4, none⟩ = some (.slice (some ⟨P.ob, 0, none⟩) P.on P.oc))) (i : Nat), p.w.cell? ⟨s + 1, i, none⟩ = (#[.int .i64 9, .string ⟨x.toArray⟩, .int .i64 0, .slice (some ⟨s + 2, 0, none⟩) 1 1, .slice (some ⟨s, 0, none⟩) 1 1, .slice none 0 0, .slice none 0 0, .slice none 0 0, .int .i64 0, .int .i64 0] : Array Value)[i]? := fun p i => p.h.1.cell i
        have G2 : ∀ (p : Held (fun w' => Blk w' (s + 1) 60 #[.int .i64 9, .string ⟨x.toArray⟩, .int .i64 0, .slice (some ⟨s + 2, 0, none⟩) 1 1, .slice (some ⟨s, 0, none⟩) 1 1, .slice none 0 0, .slice none 0 0, .slice none 0 0, .int .i64 0, .int .i64 0] ∧ Blk w' (b + 1) 56 #[.slice (some ⟨lb, 0, none⟩) k lc] ∧ w'.cell? ⟨lb, pn * 10 + 4, none⟩ = some (.slice (some ⟨P.ob, 0, none⟩) P.on P.oc))) (i : Nat), p.w.cell? ⟨b + 1, i, none⟩ = (#[.slice (some ⟨lb, 0, none⟩) k lc] : Array Value)[i]? := fun p i => p.h.2.1.cell i
        have G3 : ∀ (p : Held (fun w' => Blk w' (s + 1) 60 #[.int .i64 9, .string ⟨x.toArray⟩, .int .i64 0, .slice (some ⟨s + 2, 0, none⟩) 1 1, .slice (some ⟨s, 0, none⟩) 1 1, .slice none 0 0, .slice none 0 0, .slice none 0 0, .int .i64 0, .int .i64 0] ∧ Blk w' (b + 1) 56 #[.slice (some ⟨lb, 0, none⟩) k lc] ∧ w'.cell? ⟨lb, pn * 10 + 4, none⟩ = some (.slice (some ⟨P.ob, 0, none⟩) P.on P.oc))), p.w.cell? ⟨lb, pn * 10 + 4, none⟩ = some (.slice (some ⟨P.ob, 0, none⟩) P.on P.oc) := fun p => p.h.2.2
        as_aux_lemma =>
        refine wp_region_steady_tail 8 8 (by kernel_rfl) (by kernel_rfl) (fun w' => ∃ p : Held (fun w' => Blk w' (s + 1) 60 #[.int .i64 9, .string ⟨x.toArray⟩, .int .i64 0, .slice (some ⟨s + 2, 0, none⟩) 1 1, .slice (some ⟨s, 0, none⟩) 1 1, .slice none 0 0, .slice none 0 0, .slice none 0 0, .int .i64 0, .int .i64 0] ∧ Blk w' (b + 1) 56 #[.slice (some ⟨lb, 0, none⟩) k lc] ∧ w'.cell? ⟨lb, pn * 10 + 4, none⟩ = some (.slice (some ⟨P.ob, 0, none⟩) P.on P.oc)), w' = p.w) (isHeld_mk ⟨hO5.drew, hT15.drew, hc4⟩) (fun c a d v w h => by cases d <;> exact h) ?_
        simp only [List.take_succ_cons, List.take_zero, List.drop_succ_cons, List.drop_zero]
        repeat (refine wpSteady_step (fun K hK => ?_)
                go_simp
                first
                  | (refine ⟨_, fun _ => rfl, hK _ ?_⟩; clear hK K)
                  | (refine hK _ ?_; clear hK K))
        refine wpSteady_nil ?_
        refine tailM_zero ?_
        have hI5o := own_one (base := s) hI5 (Nat.le_refl _)
        have hnews : ∀ j u, (cs.toList.take P.on)[j]? = some u → w5.drew.cell? ((⟨P.ob, 0, none⟩ : Addr).add j) = some u := by
          intro j u h
          rw [show ((⟨P.ob, 0, none⟩ : Addr).add j) = ⟨P.ob, j, none⟩ from by simp [Addr.add]; omega]
          have := hPB.drew.cell j
          rw [this]
          rw [List.getElem?_take] at h
          split at h
          · simpa using h
          · cases h
        have hnl : (cs.toList.take P.on).length = P.on * 1 := by simp; omega
        go_upto_region 10 with (at_builtin; refine wpList_append_own_at _ rfl (.tmp 25) (.tmp 31) 58 rfl s 3 ii _ 1 8 Tryd.underlying58 hii hiz0 hiz1 hiz2 rfl (by decide) _ 1 [.int .i64 (k : Int)] rfl hI5o ⟨P.ob, 0, none⟩ P.on P.oc (cs.toList.take P.on) rfl hnl hnews hPo (by unfold maxLen; omega) (by omega) (by simp; omega) ?_; intro v6 w6 hown6 hg6 _ hat6; have hO6 := hO5.drew.grown hg6 (fun e => by have h : some (s + 1) = some s := e; simp at h); obtain ⟨g6, c6, cs6, rfl, hb6, hB6, hc6, ht6⟩ := own_someH hown6 (by omega); obtain ⟨q1, q2, q3⟩ := hO6.rules)
        have hne6 := hB6.ne_ hO6 (by decide)
        have hlsd : lb ≠ s := by have := (hlv lb rfl).2; omega
        have hb7 := (hb5.drew.grown hg6 (by show b ≤ w5.heap.size; omega) (fun k e => by have h : some s = some k := e; injection h with h; omega)).setCell (p := ⟨s + 1, 4, none⟩) (by simp; omega) (.slice (some ⟨g6, 0, none⟩) (1 + P.on) c6)
        have hO7 := hO6.set_ 4 (.slice (some ⟨g6, 0, none⟩) (1 + P.on) c6)
        have hT07 := (hT05.drew.grown hg6 (fun e => by have h : some b = some s := e; injection h with h; omega)).far (p := ⟨s + 1, 4, none⟩) (by simp; omega) (.slice (some ⟨g6, 0, none⟩) (1 + P.on) c6)
        have hT17 := (hT15.drew.grown hg6 (fun e => by have h : some (b + 1) = some s := e; injection h with h; omega)).far (p := ⟨s + 1, 4, none⟩) (by simp; omega) (.slice (some ⟨g6, 0, none⟩) (1 + P.on) c6)
        have hN7 := (hN5.drew.grown hg6 (fun e => by have h : some (b + 2) = some s := e; injection h with h; omega)).far (p := ⟨s + 1, 4, none⟩) (by simp; omega) (.slice (some ⟨g6, 0, none⟩) (1 + P.on) c6)
        have hB7 := hB6.far (p := ⟨s + 1, 4, none⟩) hne6 (.slice (some ⟨g6, 0, none⟩) (1 + P.on) c6)
        have hown5d : w5.drew.ownsRow (b + 3) 60 10 (.slice (some ⟨lb, 0, none⟩) k lc) k (objs.flatMap Ob.cells) := hown5
        have hown7 := own_far (p := ⟨s + 1, 4, none⟩) (own_grown hown5d hg6 (fun g e e' => by have h1 := hlv g e; have h : some g = some s := e'; injection h with h; omega)) (fun g e => by have := hlv g e; simp; omega) (.slice (some ⟨g6, 0, none⟩) (1 + P.on) c6)
        have HOK7 : Hid (∀ (j : Nat) (o : Ob), objs[j]? = some o → o.ok (w6.setCell ⟨s + 1, 4, none⟩ (.slice (some ⟨g6, 0, none⟩) (1 + P.on) c6)) (j + 1)) := Lib.hid fun j o h => by
          have h1 : o.ok w5.drew (j + 1) := HOK5.out j o h
          have h2 := h1.grownAt hg6 (fun e => by have h : some o.ob = some s := e; injection h with h'; have := HLT.out j o ‹_›; omega)
          exact h2.far (p := ⟨s + 1, 4, none⟩) hO6 (by decide) _
        obtain ⟨w7, hw7⟩ : ∃ W', w6.setCell ⟨s + 1, 4, none⟩ (.slice (some ⟨g6, 0, none⟩) (1 + P.on) c6) = W' := ⟨_, rfl⟩
        rw [hw7] at hb7 hO7 hT07 hT17 hN7 hB7 hown7 HOK7 ⊢
        change Blk w7 (s + 1) 60 (⟨x, some ⟨s + 2, 0, none⟩, 1, 1, g6, 1 + P.on, c6⟩ : Ob).cells.toArray at hO7
        have hok : (⟨x, some ⟨s + 2, 0, none⟩, 1, 1, g6, 1 + P.on, c6⟩ : Ob).ok w7 (k + 1) := by
          refine ⟨rfl, by show 1 ≤ 1 + P.on; omega, by show 1 + P.on ≤ k + 1; omega, cs6, hB7, hc6, ?_⟩
          rw [ht6]
          intro u hu
          rcases List.mem_append.1 hu with hu | hu
          · rw [List.mem_singleton.1 hu]; rfl
          · exact hPo u hu
        clear hw7 hne6 hlsd hown5d hg6 hown6 hat6 hB6 hc6 ht6 hO6 q1 q2 q3 hI5o hnews hnl hb5 hO5 hT05 hT15 hN5 hown5 HOK5 hI5 hPB hPc hPo hc4 hlb G1 G2 G3 hB7
        have hgs := hN7.lt
        have hbs := hb7.size
        rw [HB.out] at hbs
        have hOx := hO7
        dsimp only [Ob.cells, Ob.ord, Ob.refs] at hOx
        obtain ⟨q1, q2, q3⟩ := hOx.rules
        clear hOx
        obtain ⟨r1, r2, r3⟩ := hT17.rules
        have HRO := Lib.hid (hok).1
        as_aux_lemma =>
        go_wp2_with (first | (refine wpList_buildSlice rfl 54 60 1 _ rfl ((⟨x, some ⟨s + 2, 0, none⟩, 1, 1, g6, 1 + P.on, c6⟩ : Ob)).cells.toArray io _ Tryd.underlying54 hio hoz0 (by rw [hoz1]; decide) (by rw [hoz1]; decide) (by rw [hoz1, Array.toList_map]; exact fill_obj _ _ _ _ _ _ _ _ _ _) ?_) | (at_builtin; refine wpList_append_own_at _ rfl (.tmp 35) (.tmp 37) 54 rfl (b + 3) 60 io _ 10 168 Tryd.underlying54 hio hoz0 hoz1 hoz2 rfl (by decide) _ k _ rfl (hown7.alloc _) ⟨w7.heap.size, 0, none⟩ 1 1 ((⟨x, some ⟨s + 2, 0, none⟩, 1, 1, g6, 1 + P.on, c6⟩ : Ob)).cells rfl rfl (new_ob w7 ((⟨x, some ⟨s + 2, 0, none⟩, 1, 1, g6, 1 + P.on, c6⟩ : Ob)) _) (ob_one _ HRO.out) (by unfold maxLen; omega) (by omega) (by simp; omega) ?_; intro v8 w8 hown8 hg8 _ hat8; obtain ⟨A8, c8, rfl, _, _⟩ := own_form hown8; have hT18 := (hT17.alloc (.cells ((⟨x, some ⟨s + 2, 0, none⟩, 1, 1, g6, 1 + P.on, c6⟩ : Ob)).cells.toArray 60)).grown hg8 (fun e => by have := (hlv _ e.symm).1; omega); obtain ⟨t1, t2, t3⟩ := hT18.rules))
        have hal := (Below.refl w7.heap.size w7).alloc (Nat.le_refl _) (.cells ((⟨x, some ⟨s + 2, 0, none⟩, 1, 1, g6, 1 + P.on, c6⟩ : Ob)).cells.toArray 60)
        have hown7a := hown7.alloc (.cells ((⟨x, some ⟨s + 2, 0, none⟩, 1, 1, g6, 1 + P.on, c6⟩ : Ob)).cells.toArray 60)
        have OK8 : ∀ (m : Nat) (o : Ob), o.ok w7 m → o.ok (w8.setCell ⟨b + 1, 0, none⟩ (.slice A8 (k + 1) c8)) m := fun m o h => ((h.below hal).grown hown7a (by decide) hg8).far (p := ⟨b + 1, 0, none⟩) hT18 (by decide) _
        have hT08 := ((hT07.alloc (.cells ((⟨x, some ⟨s + 2, 0, none⟩, 1, 1, g6, 1 + P.on, c6⟩ : Ob)).cells.toArray 60)).grown hg8 (fun e => by have := (hlv _ e.symm).1; omega)).far (p := ⟨b + 1, 0, none⟩) (by simp) (.slice A8 (k + 1) c8)
        have hN8 := ((hN7.alloc (.cells ((⟨x, some ⟨s + 2, 0, none⟩, 1, 1, g6, 1 + P.on, c6⟩ : Ob)).cells.toArray 60)).grown hg8 (fun e => by have := (hlv _ e.symm).1; omega)).far (p := ⟨b + 1, 0, none⟩) (by simp) (.slice A8 (k + 1) c8)
        have hown9 := own_far (p := ⟨b + 1, 0, none⟩) hown8 (fun g e => by have := hown8.lt g e; simp; omega) (.slice A8 (k + 1) c8)
        have hb9 := ((hb7.alloc hbs (.cells ((⟨x, some ⟨s + 2, 0, none⟩, 1, 1, g6, 1 + P.on, c6⟩ : Ob)).cells.toArray 60)).grown hg8 (by simp; omega) (fun g e => by have := (hlv _ e).1; omega)).setCell (p := ⟨b + 1, 0, none⟩) (by simp) (.slice A8 (k + 1) c8)
        have hT19 : Blk (w8.setCell ⟨b + 1, 0, none⟩ (.slice A8 (k + 1) c8)) (b + 1) 56 #[.slice A8 (k + 1) c8] := hT18.set_ 0 (.slice A8 (k + 1) c8)
        go_roundw
        case rel =>
          refine ⟨k + 1, objs ++ [((⟨x, some ⟨s + 2, 0, none⟩, 1, 1, g6, 1 + P.on, c6⟩ : Ob))], .slice A8 (k + 1) c8, by omega, by go_num, Lib.hid (by rw [List.map_append, HNM.out, HNX.out]; rfl), Lib.hid (fun j o h => ?_), by rw [List.length_append, hol]; rfl, by rw [List.flatMap_append, List.flatMap_singleton]; exact hown9, hT08, hT19, hN8, hb9⟩
          rcases Nat.lt_or_ge j objs.length with hj | hj
          · rw [List.getElem?_append_left hj] at h
            exact OK8 _ _ (HOK7.out j o h)
          · rw [List.getElem?_append_right hj] at h
            have hj0 : j - objs.length = 0 := by
              rcases Nat.eq_zero_or_pos (j - objs.length) with h0 | h0
              · exact h0
              · rw [List.getElem?_eq_none (by simp; omega)] at h; cases h
            rw [hj0] at h
            obtain rfl : ((⟨x, some ⟨s + 2, 0, none⟩, 1, 1, g6, 1 + P.on, c6⟩ : Ob)) = o := by simpa using h
            have : j = k := by omega
            subst this
            exact OK8 _ _ hok
        case measure => simp [RowKit.intOf]; omega
    · have hk9 : k = 49 := by omega
      have HNM9 : Hid (objs.map (·.name) = clsL) := Lib.hid (by rw [HNM.out, hk9, ← hlen, List.take_length])
      subst hk9
      obtain ⟨q1, q2, q3⟩ := hT1.rules
      obtain ⟨r1, r2, r3⟩ := hT0.rules
      obtain ⟨A, c, rfl, _, _⟩ := own_form hown
      go_wp2_with fail
      have hown9 := own_far (p := ⟨b, 0, none⟩) hown (fun g e => by have := hown.lt g e; simp; omega) (.slice A 49 c)
      exact ret_blk rfl rfl (hT0.set_ 0 (.slice A 49 c)) _ Tryd.underlying56 rfl (by kernel_rfl) rfl ⟨A, c, objs, rfl, HNM9, Row.of_own hown9, by rw [HB.out]; exact hb.setCell (p := ⟨b, 0, none⟩) (Nat.le_refl _) _⟩
end Go.Proofs.YtfpmnkokmlghmaaDoor
