/- Walks: catches are found and packed. Nothing is claimed here. -/
import Derived.Test.YtionmlkefheocaaTabF
import Derived.Test.YtionmlkefheocaaCatB
namespace Go.Proofs.Ytionmlkefheocaa
open Go.RowKit
set_option linter.unusedVariables false

theorem cfGo_ne : ∀ (l : List Catch) (i : Nat), cfGo i l = (0, 0) ∨ (cfGo i l).1 = 4
  | [], _ => .inl rfl
  | c :: l, i => by
    rw [cfGo]
    split
    · exact cfGo_ne l _
    · exact .inr rfl
theorem catchesFault_ne (l : List Catch) : catchesFault l = (0, 0) ∨ (catchesFault l).1 ≠ 0 := by
  unfold catchesFault
  split
  · exact .inr (by decide)
  · rcases cfGo_ne l 0 with h | h
    · exact .inl h
    · exact .inr (by rw [h]; decide)
theorem cfGo_ok : ∀ (l : List Catch) (i : Nat), cfGo i l = (0, 0) → ∀ c ∈ l, okC c
  | [], _, _, c, hc => by simp at hc
  | x :: l, i, h, c, hc => by
    rw [cfGo] at h
    split at h
    · rename_i hx
      rcases List.mem_cons.1 hc with rfl | hc
      · exact hx
      · exact cfGo_ok l _ h c hc
    · simp at h
theorem okC_all {l : List Catch} (h : catchesFault l = (0, 0)) : (∀ c ∈ l, okC c) ∧ l.length ≤ 60000 := by
  unfold catchesFault at h
  split at h
  · simp at h
  · exact ⟨cfGo_ok l 0 h, by omega⟩

theorem checkC_at (A : Option Addr) (c : Nat) (l : List Catch) (fc fi : Int) (w : World) (hl : l.length ≤ 9223372036854775807) (hm : Row w A (l.flatMap ctc)) (hf : Hid (catchesFault l = (fc, fi))) :
    Calls Try.prog 39 #[.slice A l.length c] w fun e w' => e = .returned (.agg #[.int .i64 fc, .int .i64 fi]) ∧ Below w.heap.size w w' := by
  have := checkCatches_any A c l w hl hm
  rw [hf.out] at this
  exact this
theorem catchesFault_at (A : Option Addr) (c : Nat) (l : List Catch) (fc fi : Int) (w : World) (hl : l.length ≤ 9223372036854775807) (hm : Row w A (l.flatMap ctc)) (hf : Hid (catchesFault l = (fc, fi))) :
    Calls Try.prog 19 #[.slice A l.length c] w fun e w' => e = .returned (.agg #[.int .i64 fc, .int .i64 fi]) ∧ Below w.heap.size w w' := by
  have := catchesFault_any A c l w hl hm
  rw [hf.out] at this
  exact this

set_option maxHeartbeats 400000 in
theorem packCatches_bad (A : Option Addr) (c : Nat) (l : List Catch) (fc fi : Int) (w : World) (hl : l.length ≤ 9223372036854775807) (hm : Row w A (l.flatMap ctc)) (hf : Hid (catchesFault l = (fc, fi))) (hfc : (fc == 0) = false) :
    Calls Try.prog 21 #[.slice A l.length c] w fun e w' => e = .returned (.tuple #[.slice none 0 0, .agg #[.int .i64 fc, .int .i64 fi]]) ∧ Below w.heap.size w w' := by
  have hB : Blk (w.alloc (.cells #[.int .i64 0, .int .i64 0] 24)) w.heap.size 24 #[.int .i64 0, .int .i64 0] := Blk.new _ _ _
  have HB := Lib.hid hB
  clear hB
  have hm1 : Row (w.alloc (.cells #[.int .i64 0, .int .i64 0] 24)) A (l.flatMap ctc) := hm.keepB ((Below.refl _ _).alloc (Nat.le_refl _) _)
  go_enter Try.func21, Try.ntmps21
  go_wp2_with fail
  refine (checkC_at _ _ _ fc fi _ hl hm1 hf).mono ?_
  rintro e w' ⟨rfl, hb'⟩
  have hB' := HB.out.belowS hb'
  obtain ⟨hc', hf', hz'⟩ := hB'.rules
  go_wp2_with fail
  go_region
  go_wp2_with fail
  refine ret_tmp_blk Try.results21 rfl ((((hB'.set_ 0 _).set_ 1 _).alloc _).drew) _ Try.underlying24 rfl (by kernel_rfl) rfl _ rfl ⟨rfl, ?_⟩
  exact (Below.alloc (((below_then ((Below.refl _ _).alloc (Nat.le_refl _) _) hb' (by simp)).setCell (Nat.le_refl _) _).setCell (Nat.le_refl _) _) (by simp; omega) _).drew

set_option maxHeartbeats 400000 in
theorem shadowed_bad (A : Option Addr) (c : Nat) (l : List Catch) (fc fi : Int) (w : World) (hl : l.length ≤ 9223372036854775807) (hm : Row w A (l.flatMap ctc)) (hf : Hid (catchesFault l = (fc, fi))) (hfc : (fc == 0) = false) :
    Calls Try.prog 23 #[.slice A l.length c] w fun e w' => e = .returned (.tuple #[.slice none 0 0, .agg #[.int .i64 fc, .int .i64 fi]]) ∧ Below w.heap.size w w' := by
  have hB : Blk (w.alloc (.cells #[.int .i64 0, .int .i64 0] 24)) w.heap.size 24 #[.int .i64 0, .int .i64 0] := Blk.new _ _ _
  have HB := Lib.hid hB
  clear hB
  have hm1 : Row (w.alloc (.cells #[.int .i64 0, .int .i64 0] 24)) A (l.flatMap ctc) := hm.keepB ((Below.refl _ _).alloc (Nat.le_refl _) _)
  go_enter Try.func23, Try.ntmps23
  go_wp2_with fail
  refine (checkC_at _ _ _ fc fi _ hl hm1 hf).mono ?_
  rintro e w' ⟨rfl, hb'⟩
  have hB' := HB.out.belowS hb'
  obtain ⟨hc', hf', hz'⟩ := hB'.rules
  go_wp2_with fail
  go_region
  go_wp2_with fail
  refine ret_tmp_blk Try.results23 rfl ((((hB'.set_ 0 _).set_ 1 _).alloc _).drew) _ Try.underlying24 rfl (by kernel_rfl) rfl _ rfl ⟨rfl, ?_⟩
  exact (Below.alloc (((below_then ((Below.refl _ _).alloc (Nat.le_refl _) _) hb' (by simp)).setCell (Nat.le_refl _) _).setCell (Nat.le_refl _) _) (by simp; omega) _).drew

set_option maxHeartbeats 400000 in
theorem find_any (A : Option Addr) (c : Nat) (l : List Catch) (a fc fi : Int) (w : World) (hl : l.length ≤ 9223372036854775807) (hm : Row w A (l.flatMap ctc)) (hf : Hid (catchesFault l = (fc, fi))) (r : Int) (hfc : Hid ((fc ≠ 0 ∧ r = 0) ∨ (fc = 0 ∧ fi = 0 ∧ r = findGo a 0 l))) :
    Calls Try.prog 22 #[.slice A l.length c, .int .i64 a] w fun e w' => e = .returned (.tuple #[.int .i64 r, .agg #[.int .i64 fc, .int .i64 fi]]) ∧ Below w.heap.size w w' := by
  have hB : Blk ((w.alloc (.cells #[.int .i64 a] 3)).alloc (.cells #[.int .i64 0, .int .i64 0] 24)) (w.heap.size + 1) 24 #[.int .i64 0, .int .i64 0] := by
    simpa using Blk.new (w.alloc (.cells #[.int .i64 a] 3)) 24 #[.int .i64 0, .int .i64 0]
  have hA : Blk ((w.alloc (.cells #[.int .i64 a] 3)).alloc (.cells #[.int .i64 0, .int .i64 0] 24)) w.heap.size 3 #[.int .i64 a] := (Blk.new w 3 #[.int .i64 a]).alloc _
  have HB := Lib.hid hB
  have HA := Lib.hid hA
  clear hB hA
  have hbs : Below w.heap.size w ((w.alloc (.cells #[.int .i64 a] 3)).alloc (.cells #[.int .i64 0, .int .i64 0] 24)) := ((Below.refl _ _).alloc (Nat.le_refl _) _).alloc (by simp) _
  rcases hfc.out with ⟨h0, rfl⟩ | ⟨rfl, rfl, rfl⟩
  · have hfc1 : (fc == 0) = false := by simpa using h0
    clear h0
    go_enter Try.func22, Try.ntmps22
    go_wp2_with fail
    refine (checkC_at _ _ _ fc fi _ hl (hm.keepB hbs) hf).mono ?_
    rintro e w' ⟨rfl, hb'⟩
    have hB' := HB.out.belowS hb'
    have hbw := below_then hbs hb' hbs.size
    obtain ⟨hc', hf', hz'⟩ := hB'.rules
    go_wp2_with fail
    go_region
    go_wp2_with fail
    refine ret_tmp_blk Try.results22 rfl ((((hB'.set_ 0 _).set_ 1 _).alloc _).drew) _ Try.underlying24 rfl (by kernel_rfl) rfl _ rfl ⟨rfl, ?_⟩
    exact (Below.alloc ((hbw.setCell (by simp) _).setCell (by simp) _) (by simp; omega) _).drew
  · go_enter Try.func22, Try.ntmps22
    go_wp2_with fail
    refine (checkC_at _ _ _ 0 0 _ hl (hm.keepB hbs) hf).mono ?_
    rintro e w' ⟨rfl, hb'⟩
    have hB' := HB.out.belowS hb'
    have hA' := HA.out.belowS hb'
    have hbw := below_then hbs hb' hbs.size
    go_wp2_with fail
    have hbx := hbw.alloc hbw.size (.cells #[.int .i64 0, .int .i64 0] 24)
    refine (indexFind_any A c w.heap.size l a _ hl (hm.keepB hbx) ((hA'.alloc _).cell 0)).mono ?_
    rintro e w2 ⟨rfl, hb2⟩
    have hB2 := (hB'.alloc _).belowS hb2
    have hbz := below_then hbx hb2 hbx.size
    obtain ⟨hc', hf', hz'⟩ := hB2.rules
    go_wp2_with fail
    refine ret_tmp_blk Try.results22 rfl ((hB2.set_ 0 _).set_ 1 _) _ Try.underlying24 rfl (by kernel_rfl) rfl _ rfl ⟨rfl, ?_⟩
    exact (hbz.setCell (by simp) _).setCell (by simp) _

theorem fold_rg {n : Int} (h0 : -1000000 ≤ n) (h1 : n ≤ 1000000) : 0 ≤ foldI n ∧ foldI n < 2097152 := by unfold foldI; split <;> omega

def packCGo : Int → List Catch → List Int
  | _, [] => []
  | f, c :: l => sp (foldI (c.1 - f)) ++ (sp (c.2.1 - c.1) ++ (sp (foldI (c.2.2.1 - c.2.1)) ++ (sp c.2.2.2 ++ packCGo c.1 l)))

def PackCRel (l : List Catch) (w : World) (v x i : Value) (wr : World) : Prop :=
  ∃ (k : Nat) (f : Int) (d : List Int), k ≤ l.length ∧ i = .int .i64 k ∧ x = .int .i64 f ∧ packCGo 0 l = d ++ packCGo f (l.drop k) ∧
    wr.ownsRow (w.heap.size + 1) 5 1 v d.length (bcs d) ∧ d.length ≤ 12 * k ∧ 0 ≤ f ∧ f ≤ 60000 ∧ Below w.heap.size w wr ∧ Blk wr w.heap.size 24 #[.int .i64 0, .int .i64 0]

def PackCIn (d vs : List Int) (w : World) (gc : Nat) (cs : Array Value) (gv : Nat) (vc : Array Value) (v i : Value) (wr : World) : Prop :=
  ∃ (j : Nat) (d' : List Int), j ≤ 4 ∧ i = .int .i64 j ∧ d' = d ++ (vs.take j).flatMap sp ∧ wr.ownsRow (w.heap.size + 1) 5 1 v d'.length (bcs d') ∧ Below w.heap.size w wr ∧ Blk wr w.heap.size 24 #[.int .i64 0, .int .i64 0] ∧
    Blk wr gc 51 cs ∧ Blk wr gv 3 vc


set_option maxHeartbeats 2000000 in
theorem packCatches_ok (A : Option Addr) (c : Nat) (l : List Catch) (w : World) (hm : Row w A (l.flatMap ctc)) (hf : Hid (catchesFault l = (0, 0))) :
    Calls Try.prog 21 #[.slice A l.length c] w (PackPost (packCGo 0 l) w) := by
  obtain ⟨hok, hl⟩ := okC_all hf.out
  have HO := Lib.hid hok
  clear hok
  have hB : Blk (w.alloc (.cells #[.int .i64 0, .int .i64 0] 24)) w.heap.size 24 #[.int .i64 0, .int .i64 0] := Blk.new _ _ _
  have HB := Lib.hid hB
  clear hB
  have hm1 : Row (w.alloc (.cells #[.int .i64 0, .int .i64 0] 24)) A (l.flatMap ctc) := hm.keepB ((Below.refl _ _).alloc (Nat.le_refl _) _)
  go_enter Try.func21, Try.ntmps21
  go_wp2_with fail
  refine (checkC_at _ _ _ 0 0 _ (by omega) hm1 hf).mono ?_
  rintro e w' ⟨rfl, hb'⟩
  have hB' := HB.out.belowS hb'
  have hbw : Below w.heap.size w w' := below_then ((Below.refl _ _).alloc (Nat.le_refl _) _) hb' (by simp)
  clear hm1 HB hb'
  go_wp2_with fail
  go_loopw [5, 6, 19] (fun v x i wr => PackCRel l w v x i wr) (fun _ _ i _ => l.length - (intOf i).toNat)
  case atStart => exact ⟨0, 0, [], Nat.zero_le _, rfl, rfl, rfl, World.ownsRow_nil _ _ _ _, by simp, by omega, by omega, hbw.alloc hbw.size _, hB'.alloc _⟩
  case round =>
    clear hB' hbw
    obtain ⟨k, f, d, hk, rfl, rfl, he, hown, hd, f0, f1, hb0, hB⟩ := hrel
    have He := Lib.hid he
    clear he
    by_cases hlt : k < l.length
    · obtain ⟨bb, off, rfl, had, h1, h2, h3, h4⟩ := (hm.keepB hb0).catch_ hlt
      obtain ⟨o1, o2, o3, o4, o5, o6, o7⟩ := HO.out l[k] (List.getElem_mem hlt)
      have w1 : IntKind.i64.wrap (l[k].1 - f) = l[k].1 - f := IntWalk.i64_in _ (by omega)
      have w2 : IntKind.i64.wrap (l[k].2.1 - l[k].1) = l[k].2.1 - l[k].1 := IntWalk.i64_in _ (by omega)
      have w3 : IntKind.i64.wrap (l[k].2.2.1 - l[k].2.1) = l[k].2.2.1 - l[k].2.1 := IntWalk.i64_in _ (by omega)
      go_wp2_with fail
      go_region_held3 (fun w' => w'.cell? ⟨wr.heap.size, 0, none⟩ = some (.int .i64 l[k].1) ∧ w'.cell? ⟨wr.heap.size, 1, none⟩ = some (.int .i64 l[k].2.1) ∧ w'.cell? ⟨wr.heap.size, 2, none⟩ = some (.int .i64 l[k].2.2.1) ∧ w'.cell? ⟨wr.heap.size, 3, none⟩ = some (.int .i64 l[k].2.2.2))
        (first | go_keep)
        (first | (go_at_call 32; refine (fold_any _ _ (by omega) (by omega)).mono ?_; rintro e w' ⟨rfl, rfl⟩) | fail)
      have hownX := ownsRow_drewN (((hown.alloc (.cells #[.int .i64 l[k].1, .int .i64 l[k].2.1, .int .i64 l[k].2.2.1, .int .i64 l[k].2.2.2] 51)).alloc (.cells #[.int .i64 (foldI (l[k].1 - f)), .int .i64 (l[k].2.1 - l[k].1), .int .i64 (foldI (l[k].2.2.1 - l[k].2.1)), .int .i64 l[k].2.2.2] 3))) 1
      have hs0 := hb0.size
      have hC : Blk (((wr.alloc (.cells #[.int .i64 l[k].1, .int .i64 l[k].2.1, .int .i64 l[k].2.2.1, .int .i64 l[k].2.2.2] 51)).alloc (.cells #[.int .i64 (foldI (l[k].1 - f)), .int .i64 (l[k].2.1 - l[k].1), .int .i64 (foldI (l[k].2.2.1 - l[k].2.1)), .int .i64 l[k].2.2.2] 3))).drew wr.heap.size 51 #[.int .i64 l[k].1, .int .i64 l[k].2.1, .int .i64 l[k].2.2.1, .int .i64 l[k].2.2.2] := ((Blk.new _ _ _).alloc _).drew
      have hV : Blk (((wr.alloc (.cells #[.int .i64 l[k].1, .int .i64 l[k].2.1, .int .i64 l[k].2.2.1, .int .i64 l[k].2.2.2] 51)).alloc (.cells #[.int .i64 (foldI (l[k].1 - f)), .int .i64 (l[k].2.1 - l[k].1), .int .i64 (foldI (l[k].2.2.1 - l[k].2.1)), .int .i64 l[k].2.2.2] 3))).drew (wr.heap.size + 1) 3 #[.int .i64 (foldI (l[k].1 - f)), .int .i64 (l[k].2.1 - l[k].1), .int .i64 (foldI (l[k].2.2.1 - l[k].2.1)), .int .i64 l[k].2.2.2] := by
        have := (Blk.new (wr.alloc (.cells #[.int .i64 l[k].1, .int .i64 l[k].2.1, .int .i64 l[k].2.2.1, .int .i64 l[k].2.2.2] 51)) 3 #[.int .i64 (foldI (l[k].1 - f)), .int .i64 (l[k].2.1 - l[k].1), .int .i64 (foldI (l[k].2.2.1 - l[k].2.1)), .int .i64 l[k].2.2.2]).drew
        simpa using this
      have hBX := ((hB.alloc (.cells #[.int .i64 l[k].1, .int .i64 l[k].2.1, .int .i64 l[k].2.2.1, .int .i64 l[k].2.2.2] 51)).alloc (.cells #[.int .i64 (foldI (l[k].1 - f)), .int .i64 (l[k].2.1 - l[k].1), .int .i64 (foldI (l[k].2.2.1 - l[k].2.1)), .int .i64 l[k].2.2.2] 3)).drew
      have hbX := ((hb0.alloc hs0 (.cells #[.int .i64 l[k].1, .int .i64 l[k].2.1, .int .i64 l[k].2.2.1, .int .i64 l[k].2.2.2] 51)).alloc (by simp; omega) (.cells #[.int .i64 (foldI (l[k].1 - f)), .int .i64 (l[k].2.1 - l[k].1), .int .i64 (foldI (l[k].2.2.1 - l[k].2.1)), .int .i64 l[k].2.2.2] 3)).drew
      have F0 := fold_rg (n := l[k].1 - f) (by omega) (by omega)
      have F1 := fold_rg (n := l[k].2.2.1 - l[k].2.1) (by omega) (by omega)
      have HX := Lib.hid hownX
      have HC := Lib.hid hC
      have HV := Lib.hid hV
      have HB := Lib.hid hBX
      obtain ⟨wo, hwo⟩ : ∃ wo : World, wo = wr := ⟨_, rfl⟩
      clear hownX hC hV hBX w1 w2 w3 hown hB h1 h2 h3 h4
      subst hwo
      go_wp2_with fail
      go_loopw [5, 43] (fun v i wr => PackCIn d [foldI (l[k].1 - f), l[k].2.1 - l[k].1, foldI (l[k].2.2.1 - l[k].2.1), l[k].2.2.2] w wo.heap.size #[.int .i64 l[k].1, .int .i64 l[k].2.1, .int .i64 l[k].2.2.1, .int .i64 l[k].2.2.2] (wo.heap.size + 1) #[.int .i64 (foldI (l[k].1 - f)), .int .i64 (l[k].2.1 - l[k].1), .int .i64 (foldI (l[k].2.2.1 - l[k].2.1)), .int .i64 l[k].2.2.2] v i wr) (fun _ i _ => 4 - (intOf i).toNat)
      case atStart => exact ⟨0, d, by omega, rfl, by simp, HX.out, hbX, HB.out, HC.out, HV.out⟩
      case round =>
        clear HX HC HV HB hbX
        obtain ⟨j, d', hj, rfl, hd', hown1, hb1, hB1, hC1, hV1⟩ := hrel
        have hs1 := hb1.size
        have hz1 := hB1.lt
        have hdl : d'.length ≤ d.length + 12 := by
          rw [hd']
          have hj' : j = 0 ∨ j = 1 ∨ j = 2 ∨ j = 3 ∨ j = 4 := by omega
          have a0 := sp_len (foldI (l[k].1 - f))
          have a1 := sp_len (l[k].2.1 - l[k].1)
          have a2 := sp_len (foldI (l[k].2.2.1 - l[k].2.1))
          have a3 := sp_len l[k].2.2.2
          rcases hj' with rfl | rfl | rfl | rfl | rfl <;> simp <;> omega
        obtain ⟨s1, s2, s3⟩ := hV1.rules
        have hj' : j = 0 ∨ j = 1 ∨ j = 2 ∨ j = 3 ∨ j = 4 := by omega
        rcases hj' with rfl | rfl | rfl | rfl | rfl
        · have HD := Lib.hid hd'
          clear hd'
          go_wp2_with fail
          refine (varint_any (w.heap.size + 1) u5 _ _ (foldI (l[k].1 - f)) _ (by omega) (by omega) (by omega) hown1 (by omega)).mono ?_
          rintro e w2 ⟨v2, rfl, hown2, hg2, hm2⟩
          have hbz := hb1.grown hg2 hb1.size (fun g e => by have := hown1.lt g e; omega)
          have hBz := hB1.grown hg2 (fun e => by have := hown1.lt _ e.symm; omega)
          have hCz := hC1.grown hg2 (fun e => own_blk_ne hown1 hC1 (by decide) e.symm)
          have hVz := hV1.grown hg2 (fun e => own_blk_ne hown1 hV1 (by decide) e.symm)
          clear s1 s2 s3
          go_wp2_with fail
          go_roundw
          case rel => exact ⟨0 + 1, d' ++ sp (foldI (l[k].1 - f)), by omega, rfl, by rw [HD.out]; simp, by simpa [bcs] using hown2, hbz, hBz, hCz, hVz⟩
          case measure => simp [intOf]
        · have HD := Lib.hid hd'
          clear hd'
          go_wp2_with fail
          refine (varint_any (w.heap.size + 1) u5 _ _ (l[k].2.1 - l[k].1) _ (by omega) (by omega) (by omega) hown1 (by omega)).mono ?_
          rintro e w2 ⟨v2, rfl, hown2, hg2, hm2⟩
          have hbz := hb1.grown hg2 hb1.size (fun g e => by have := hown1.lt g e; omega)
          have hBz := hB1.grown hg2 (fun e => by have := hown1.lt _ e.symm; omega)
          have hCz := hC1.grown hg2 (fun e => own_blk_ne hown1 hC1 (by decide) e.symm)
          have hVz := hV1.grown hg2 (fun e => own_blk_ne hown1 hV1 (by decide) e.symm)
          clear s1 s2 s3
          go_wp2_with fail
          go_roundw
          case rel => exact ⟨1 + 1, d' ++ sp (l[k].2.1 - l[k].1), by omega, rfl, by rw [HD.out]; simp, by simpa [bcs] using hown2, hbz, hBz, hCz, hVz⟩
          case measure => simp [intOf]
        · have HD := Lib.hid hd'
          clear hd'
          go_wp2_with fail
          refine (varint_any (w.heap.size + 1) u5 _ _ (foldI (l[k].2.2.1 - l[k].2.1)) _ (by omega) (by omega) (by omega) hown1 (by omega)).mono ?_
          rintro e w2 ⟨v2, rfl, hown2, hg2, hm2⟩
          have hbz := hb1.grown hg2 hb1.size (fun g e => by have := hown1.lt g e; omega)
          have hBz := hB1.grown hg2 (fun e => by have := hown1.lt _ e.symm; omega)
          have hCz := hC1.grown hg2 (fun e => own_blk_ne hown1 hC1 (by decide) e.symm)
          have hVz := hV1.grown hg2 (fun e => own_blk_ne hown1 hV1 (by decide) e.symm)
          clear s1 s2 s3
          go_wp2_with fail
          go_roundw
          case rel => exact ⟨2 + 1, d' ++ sp (foldI (l[k].2.2.1 - l[k].2.1)), by omega, rfl, by rw [HD.out]; simp, by simpa [bcs] using hown2, hbz, hBz, hCz, hVz⟩
          case measure => simp [intOf]
        · have HD := Lib.hid hd'
          clear hd'
          go_wp2_with fail
          refine (varint_any (w.heap.size + 1) u5 _ _ l[k].2.2.2 _ (by omega) (by omega) (by omega) hown1 (by omega)).mono ?_
          rintro e w2 ⟨v2, rfl, hown2, hg2, hm2⟩
          have hbz := hb1.grown hg2 hb1.size (fun g e => by have := hown1.lt g e; omega)
          have hBz := hB1.grown hg2 (fun e => by have := hown1.lt _ e.symm; omega)
          have hCz := hC1.grown hg2 (fun e => own_blk_ne hown1 hC1 (by decide) e.symm)
          have hVz := hV1.grown hg2 (fun e => own_blk_ne hown1 hV1 (by decide) e.symm)
          clear s1 s2 s3
          go_wp2_with fail
          go_roundw
          case rel => exact ⟨3 + 1, d' ++ sp l[k].2.2.2, by omega, rfl, by rw [HD.out]; simp, by simpa [bcs] using hown2, hbz, hBz, hCz, hVz⟩
          case measure => simp [intOf]
        · have HD := Lib.hid hd'
          clear hd' s1 s2 s3
          obtain ⟨s1, s2, s3⟩ := hC1.rules
          go_wp2_with fail
          go_roundw
          case rel =>
            refine ⟨k + 1, l[k].1, d', by omega, by go_num, rfl, ?_, hown1, by omega, o1, by omega, hb1, hB1⟩
            rw [He.out, drop_cons hlt, packCGo, HD.out]; simp
          case measure => simp [intOf]; omega
    · obtain ⟨Av, cv, rfl, hrow, hc⟩ := own_form hown
      obtain ⟨s1, s2, s3⟩ := hB.rules
      go_wp2_with fail
      refine ret_tmp_blk Try.results21 rfl ((hB.set_ 0 _).set_ 1 _) _ Try.underlying24 rfl (by kernel_rfl) rfl _ rfl ?_
      have e : packCGo 0 l = d := by rw [He.out, List.drop_of_length_le (by omega), packCGo, List.append_nil]
      rw [e]
      exact ⟨Av, cv, rfl, Row.of_own (ownsRow_setCell_below (ownsRow_setCell_below hown (a := ⟨w.heap.size, 0, none⟩) (by simp) _) (a := ⟨w.heap.size, 1, none⟩) (by simp) _), (hb0.setCell (Nat.le_refl _) _).setCell (Nat.le_refl _) _⟩

end Go.Proofs.Ytionmlkefheocaa
