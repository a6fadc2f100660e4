/- The scanner's lists of words, and what is deferred in Scan. Nothing is claimed here. -/
import Derived.Recover
import Derived.Test.YtjoeojdciogcgaaDoorScanL
namespace Go.Proofs.YtjoeojdciogcgaaDoor
open Go.RowKit Go.Shelf Go.Lib Go.Maps
set_option linter.unusedVariables false

/-- what the library's variables hold -/
def Env (w : World) : Prop := Tabs w ∧ Lib.TabIs Tryd.prog w "strings.asciiSpace" .u8 Lib.asciiSpaceTab
theorem tab_keep {P : Program} {w w' : World} {n : String} {k : IntKind} {zs : List Int} (h : Lib.TabIs P w n k zs) (hb : Below w.heap.size w w') : Lib.TabIs P w' n k zs := by
  unfold Lib.TabIs World.var? at h ⊢
  cases hg : P.globalNamed n with
  | none => rw [hg] at h; simp at h
  | some g =>
    rw [hg] at h
    simp only [Option.bind_some] at h ⊢
    have hlt : g < w.heap.size := by
      rcases Nat.lt_or_ge g w.heap.size with hlt | hge
      · exact hlt
      · rw [Array.getElem?_eq_none hge] at h; simp at h
    rw [hb.block g hlt]
    exact h
theorem Env.keepB {w w' : World} (h : Env w) (hb : Below w.heap.size w w') : Env w' := ⟨h.1.keepB hb, tab_keep h.2 hb⟩

/-- words with a blank between two -/
def spaced : List (List UInt8) → List UInt8
  | [] => []
  | [x] => x
  | x :: y :: l => x ++ 32 :: spaced (y :: l)
theorem fields_lit (F : List (List UInt8)) (n : Nat) (s : ByteArray) (w : World) (h : s.data.toList = spaced F) (hn : F.length = n) (hF : Lib.fields (spaced F) = F) (ha : (spaced F).all (fun b => decide (b.toNat < 128)) = true) (hl : (spaced F).length < 1000) (he : Env w) :
    Calls Tryd.prog 28 #[.string s] w fun e w' => e = .returned (.slice (some ⟨w.heap.size, 0, none⟩) n n) ∧ w' = w.alloc (.cells (strs F).toArray 9) := by
  have hsz : s.size < 1000 := by
    show s.data.size < 1000
    rw [← Array.length_toList, h]
    exact hl
  have ha : ∀ (j : Nat) b, s.data.toList[j]? = some b → b.toNat < 128 := by
    intro j b hj
    rw [h] at hj
    have := List.all_eq_true.1 ha b (List.mem_of_getElem? hj)
    simpa using this
  refine (Tryd.strings_Fields s w (by omega) ha he.2).mono ?_
  rintro e w' ⟨rfl, rfl⟩
  rw [h, hF, hn]
  exact ⟨rfl, rfl⟩
theorem keywords_any (w : World) (he : Env w) : Calls Tryd.prog 12 #[] w fun e w' => e = .returned (.slice (some ⟨w.heap.size, 0, none⟩) 38 38) ∧ w' = w.alloc (.cells (strs kws).toArray 9) := by
  go_enter Tryd.func12, Tryd.ntmps12
  go_wp2_with fail
  refine (fields_lit kws 38 _ _ (by kernel_rfl) (by kernel_rfl) (by kernel_rfl) (by kernel_rfl) (of_decide_eq_true (by kernel_rfl)) he).mono ?_
  rintro e w1 ⟨rfl, rfl⟩
  go_wp2_with fail
  go_ret
  exact ⟨rfl, rfl⟩
theorem signs_any (w : World) (he : Env w) : Calls Tryd.prog 17 #[] w fun e w' => e = .returned (.slice (some ⟨w.heap.size, 0, none⟩) 43 43) ∧ w' = w.alloc (.cells (strs sgs).toArray 9) := by
  go_enter Tryd.func17, Tryd.ntmps17
  go_wp2_with fail
  refine (fields_lit sgs 43 _ _ (by kernel_rfl) (by kernel_rfl) (by kernel_rfl) (by kernel_rfl) (of_decide_eq_true (by kernel_rfl)) he).mono ?_
  rintro e w1 ⟨rfl, rfl⟩
  go_wp2_with fail
  go_ret
  exact ⟨rfl, rfl⟩

/-- the words' map, one word more -/
theorem wordsF_snoc : ∀ (l : List (List UInt8)) (x : List UInt8) (k : Nat) (D : DataW Unit), wordsF (l ++ [x]) k D = (wordsF l k D).put (.string x) (.lit (.int .i64 ((k + l.length : Nat) : Int)))
  | [], x, k, D => by simp [wordsF]
  | y :: l, x, k, D => by
    show wordsF (l ++ [x]) (k + 1) _ = _
    rw [wordsF_snoc l x (k + 1) _]
    rw [show k + 1 + l.length = k + (y :: l).length from by simp; omega]
    rfl
def wordsK (k : Nat) : DataW Unit := wordsF (kws.take k) 0 (.map [])
theorem wordsK_succ (k : Nat) (hk : k < 38) (x : List UInt8) (hx : kws[k]? = some x) : wordsK (k + 1) = (wordsK k).put (.string x) (.lit (.int .i64 (k : Int))) := by
  unfold wordsK
  rw [List.take_add_one, hx]
  show wordsF (List.take k kws ++ [x]) 0 _ = _
  rw [wordsF_snoc]
  have hl : kws.length = 38 := rfl
  rw [List.length_take, Nat.min_eq_left (by omega), Nat.zero_add]
theorem wordsK_all : wordsK 38 = wordsD := rfl
theorem kws_at (k : Nat) (hk : k < 38) : ∃ x, Hid (kws[k]? = some x) ∧ x.length < 10 := by
  have hl : kws.length = 38 := rfl
  refine ⟨kws[k], Lib.hid (List.getElem?_eq_getElem (by omega)), ?_⟩
  have h : kws.all (fun x => decide (x.length < 10)) = true := by decide
  have := List.all_eq_true.1 h _ (List.getElem_mem (by omega : k < kws.length))
  exact of_decide_eq_true this

set_option maxRecDepth 100000 in
set_option maxHeartbeats 2000000 in
/-- the deferred closure behind a fault that was thrown: the fault is laid into the results -/
theorem scanD_pan (p q : Nat) (c i : Int) (x : Value) (a b : Int) (w : World) (hp : Blk w p 23 #[x]) (hq : Blk w q 25 #[.int .i64 a, .int .i64 b]) :
    CallsD Tryd.prog 18 #[.pointer (some ⟨p, 0, none⟩), .pointer (some ⟨q, 0, none⟩)] (.panicking [{ v := probV c i, recovered := false }]) w fun e u' w' =>
      e = .returned (.tuple #[]) ∧ u' = .panicking [{ v := probV c i, recovered := true }] ∧ Blk w' p 23 #[.slice none 0 0] ∧ Blk w' q 25 #[.int .i64 c, .int .i64 i] ∧ ∀ B W, B ≤ p → B ≤ q → Below B W w → Below B W w' := by
  refine callsD_of_wpS Tryd.func18 rfl fun c₀ cs hu => ?_
  simp only [Tryd.ntmps18, List.size_toArray, List.length_cons, List.length_nil, Nat.reduceAdd, Nat.reduceSub, Array.replicate_succ, Array.replicate_zero, List.push_toArray, List.append_toArray, List.nil_append, List.cons_append]
  apply wpS_seq
  apply wpS_region
  simp [wpOpsS, go_sem, recoverD, hu, Exit.thenS]
  refine wpS_of_wp ?_
  obtain ⟨q1, q2, q3⟩ := hp.rules
  obtain ⟨p1, p2, p3⟩ := hq.rules
  generalize hQ : (fun (e : Exit) (a' : Act) (w' : World) => bodyPostS Tryd.prog Tryd.f18 c₀ cs _ e a' _ w') = Q
  have HQ := Lib.hid hQ
  clear hQ
  unfold probV
  have hta : ∀ (t : TypeId) (v : Value) (w : World), (Instr.typeAssert (.iface 47 v) t 47 true).run Tryd.prog w = .ok (.tuple #[v, .bool true]) w := fun t v w => by kernel_rfl
  go_wp2_with fail
  have hk0 : ∀ B W, B ≤ p → B ≤ q → Below B W w → Below B W (w.alloc (.cells #[.int .i64 c, .int .i64 i] 47)) := fun B W h1 h2 h3 => h3.alloc (by omega) _
  have hA := Blk.new w 47 #[.int .i64 c, .int .i64 i]
  have hp1 := hp.alloc (.cells #[.int .i64 c, .int .i64 i] 47)
  have hq1 := hq.alloc (.cells #[.int .i64 c, .int .i64 i] 47)
  obtain ⟨w1, hw1⟩ : ∃ w1, w.alloc (.cells #[.int .i64 c, .int .i64 i] 47) = w1 := ⟨_, rfl⟩
  obtain ⟨r, hr⟩ : ∃ r, w.heap.size = r := ⟨_, rfl⟩
  rw [hw1] at hA hp1 hq1 hk0 ⊢
  rw [hr] at hA ⊢
  clear hw1 hr q1 q2 q3 p1 p2 p3 hp hq hta
  have HK := Lib.hid hk0
  have hpq : p ≠ q := hp1.ne_ hq1 (by decide)
  have hpr : p ≠ r := hp1.ne_ hA (by decide)
  have hqr : q ≠ r := hq1.ne_ hA (by decide)
  clear hk0
  obtain ⟨q1, q2, q3⟩ := hp1.rules
  obtain ⟨p1, p2, p3⟩ := hq1.rules
  obtain ⟨r1, r2, r3⟩ := hA.rules
  go_region
  all_goals go_wp2_with fail
  all_goals
    rw [← HQ.out]
    refine ⟨rfl, _, rfl, .tuple #[], by simp [results, Tryd.results18], rfl, rfl, ((((hp1.set_ 0 (.slice none 0 0)).far (p := ⟨q, 0, none⟩) hpq (.int .i64 c)).far (p := ⟨q, 1, none⟩) hpq (.int .i64 i))).drew, (((hq1.far (p := ⟨p, 0, none⟩) hpq.symm (.slice none 0 0)).set_ 0 (.int .i64 c)).set_ 1 (.int .i64 i)).drew, ?_⟩
    intro B W h1 h2 h3
    have h4 := (((HK.out B W h1 h2 h3).setCell (p := ⟨p, 0, none⟩) h1 (.slice none 0 0)).setCell (p := ⟨q, 0, none⟩) h2 (.int .i64 c)).setCell (p := ⟨q, 1, none⟩) h2 (.int .i64 i)
    exact below_drewN h4 1
set_option maxHeartbeats 2000000 in
theorem scanD_idle (p q : Nat) (w : World) :
    CallsD Tryd.prog 18 #[.pointer (some ⟨p, 0, none⟩), .pointer (some ⟨q, 0, none⟩)] .returning w fun e u' w' => e = .returned (.tuple #[]) ∧ u' = .returning ∧ w' = w := by
  refine callsD_of_wpS Tryd.func18 rfl fun c₀ cs hu => ?_
  simp only [Tryd.ntmps18, List.size_toArray, List.length_cons, List.length_nil, Nat.reduceAdd, Nat.reduceSub, Array.replicate_succ, Array.replicate_zero, List.push_toArray, List.append_toArray, List.nil_append, List.cons_append]
  apply wpS_seq
  apply wpS_region
  simp [wpOpsS, go_sem, recoverD, hu, Exit.thenS]
  refine wpS_of_wp ?_
  go_wp2_with fail
  cases c₀
  simp_all [bodyPostS, results, Tryd.results18]

end Go.Proofs.YtjoeojdciogcgaaDoor
