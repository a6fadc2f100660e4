/- Walks: the reference's packing of catches; equality of slices. Nothing is claimed here. -/
import Derived.Test.YtionmlkefheocaaTabI
import Derived.Test.YtionmlkefheocaaCatC
namespace Go.Proofs.Ytionmlkefheocaa
open Go.RowKit
set_option linter.unusedVariables false

def PackedCRel (l : List Catch) (w : World) (v x i : Value) (wr : World) : Prop :=
  ∃ (k : Nat) (f : Int) (d : List Int), k ≤ l.length ∧ i = .int .i64 k ∧ x = .int .i64 f ∧ packCGo 0 l = d ++ packCGo f (l.drop k) ∧
    wr.ownsRow w.heap.size 5 1 v d.length (bcs d) ∧ d.length ≤ 12 * k ∧ 0 ≤ f ∧ f ≤ 60000 ∧ Below w.heap.size w wr


theorem sp_one (x : Int) : 1 ≤ (sp x).length := by unfold sp; split; simp; split <;> simp

theorem concat5 (w : World) (A0 A1 A2 A3 A4 : Option Addr) (c0 c1 c2 c3 c4 : Nat) (l0 l1 l2 l3 l4 : List Int) (h0 : Row w A0 (bcs l0)) (h1 : Row w A1 (bcs l1)) (h2 : Row w A2 (bcs l2)) (h3 : Row w A3 (bcs l3)) (h4 : Row w A4 (bcs l4))
    (hp : 1 ≤ l4.length) (ht : l0.length + l1.length + l2.length + l3.length + l4.length ≤ 1000000000) :
    Calls Try.prog 43 #[.slice (some ⟨w.heap.size, 0, none⟩) 5 5] (w.alloc (.cells #[.slice A0 l0.length c0, .slice A1 l1.length c1, .slice A2 l2.length c2, .slice A3 l3.length c3, .slice A4 l4.length c4] 29))
      (OwnPost (l0 ++ (l1 ++ (l2 ++ (l3 ++ l4)))) (w.alloc (.cells #[.slice A0 l0.length c0, .slice A1 l1.length c1, .slice A2 l2.length c2, .slice A3 l3.length c3, .slice A4 l4.length c4] 29))) := by
  have hk : ∀ (A : Option Addr) (xs : List Value) (o : Obj), Row w A xs → Row (w.alloc o) A xs := fun A xs o h => h.keepB ((Below.refl _ _).alloc (Nat.le_refl _) _)
  have := concat_any (some ⟨w.heap.size, 0, none⟩) 5 [(A0, c0, l0), (A1, c1, l1), (A2, c2, l2), (A3, c3, l3), (A4, c4, l4)] _ (by simp) (by simp only [tot]; omega) (by simp only [tot]; omega) (Row.new w #[.slice A0 l0.length c0, .slice A1 l1.length c1, .slice A2 l2.length c2, .slice A3 l3.length c3, .slice A4 l4.length c4] 29)
    (fun p hp => by
      simp only [List.mem_cons, List.not_mem_nil, or_false] at hp
      rcases hp with rfl | rfl | rfl | rfl | rfl
      · exact hk _ _ _ h0
      · exact hk _ _ _ h1
      · exact hk _ _ _ h2
      · exact hk _ _ _ h3
      · exact hk _ _ _ h4)
  have e : joined [(A0, c0, l0), (A1, c1, l1), (A2, c2, l2), (A3, c3, l3), (A4, c4, l4)] = l0 ++ (l1 ++ (l2 ++ (l3 ++ l4))) := by simp [joined]
  rw [e] at this
  exact this

set_option maxHeartbeats 2000000 in
theorem packedCatches_any (A : Option Addr) (c : Nat) (l : List Catch) (w : World) (hm : Row w A (l.flatMap ctc)) (hf : Hid (catchesFault l = (0, 0))) :
    Calls Try.prog 25 #[.slice A l.length c] w (BytesPost (packCGo 0 l) w) := by
  obtain ⟨hok, hl⟩ := okC_all hf.out
  have HO := Lib.hid hok
  clear hok
  go_enter Try.func25, Try.ntmps25
  go_wp2_with fail
  go_loopw [3, 4, 9] (fun v x i wr => PackedCRel l w v x i wr) (fun _ _ i _ => l.length - (intOf i).toNat)
  case atStart => exact ⟨0, 0, [], Nat.zero_le _, rfl, rfl, rfl, World.ownsRow_nil _ _ _ _, by simp, by omega, by omega, Below.refl _ _⟩
  case round =>
    obtain ⟨k, f, d, hk, rfl, rfl, he, hown, hd, f0, f1, hb0⟩ := hrel
    have He := Lib.hid he
    clear he
    obtain ⟨Av, cv, rfl, hrv, hcv⟩ := own_form hown
    by_cases hlt : k < l.length
    · obtain ⟨bb, off, rfl, had, h1, h2, h3, h4⟩ := (hm.keepB hb0).catch_ hlt
      obtain ⟨o1, o2, o3, o4, o5, o6, o7⟩ := HO.out l[k] (List.getElem_mem hlt)
      have u1 : IntKind.i64.wrap (l[k].1 - f) = l[k].1 - f := IntWalk.i64_in _ (by omega)
      have u2 : IntKind.i64.wrap (l[k].2.1 - l[k].1) = l[k].2.1 - l[k].1 := IntWalk.i64_in _ (by omega)
      have u3 : IntKind.i64.wrap (l[k].2.2.1 - l[k].2.1) = l[k].2.2.1 - l[k].2.1 := IntWalk.i64_in _ (by omega)
      have z0 := sp_len (foldI (l[k].1 - f))
      have z2 := sp_len (l[k].2.1 - l[k].1)
      have z3 := sp_len (foldI (l[k].2.2.1 - l[k].2.1))
      have z4 := sp_len l[k].2.2.2
      have z1 := sp_one l[k].2.2.2
      have tok1 : True := trivial
      have tok2 : True := trivial
      have HC := Lib.hid ((Blk.new wr 51 #[.int .i64 l[k].1, .int .i64 l[k].2.1, .int .i64 l[k].2.2.1, .int .i64 l[k].2.2.2]).drew)
      go_wp2_with fail
      go_region_held3 (fun w' => w'.cell? ⟨wr.heap.size, 0, none⟩ = some (.int .i64 l[k].1) ∧ w'.cell? ⟨wr.heap.size, 1, none⟩ = some (.int .i64 l[k].2.1) ∧ w'.cell? ⟨wr.heap.size, 2, none⟩ = some (.int .i64 l[k].2.2.1) ∧ w'.cell? ⟨wr.heap.size, 3, none⟩ = some (.int .i64 l[k].2.2.2))
        (first | go_keep | (exact ⟨(HC6.out.alloc _).cell 0, (HC6.out.alloc _).cell 1, (HC6.out.alloc _).cell 2, (HC6.out.alloc _).cell 3⟩) | (exact ⟨HC7.out.cell 0, HC7.out.cell 1, HC7.out.cell 2, HC7.out.cell 3⟩) | (exact ⟨HC6.out.cell 0, HC6.out.cell 1, HC6.out.cell 2, HC6.out.cell 3⟩) | (exact ⟨HC5.out.cell 0, HC5.out.cell 1, HC5.out.cell 2, HC5.out.cell 3⟩) | (exact ⟨HC4.out.cell 0, HC4.out.cell 1, HC4.out.cell 2, HC4.out.cell 3⟩) | (exact ⟨HC3.out.cell 0, HC3.out.cell 1, HC3.out.cell 2, HC3.out.cell 3⟩))
        (first
          | (go_at_call 35
             have _t := tok1
             refine (signedSeptets_any _ _ (by omega) (by omega)).mono ?_
             rintro e w3 ⟨v3, rfl, hown3, hb3⟩
             clear tok1
             obtain ⟨A3, c3, rfl, hr3, _⟩ := own_form hown3
             have HC3 := Lib.hid (HC.out.belowS hb3))
          | (go_at_call 34
             have _t := tok2
             refine (septets_any _ _ (by omega) (by omega)).mono ?_
             rintro e w4 ⟨v4, rfl, hown4, hb4⟩
             clear tok2
             obtain ⟨A4, c4, rfl, hr4, _⟩ := own_form hown4
             have HC4 := Lib.hid (HC3.out.belowS hb4))
          | (go_at_call 35
             refine (signedSeptets_any _ _ (by omega) (by omega)).mono ?_
             rintro e w5 ⟨v5, rfl, hown5, hb5⟩
             obtain ⟨A5, c5, rfl, hr5, _⟩ := own_form hown5
             have HC5 := Lib.hid (HC4.out.belowS hb5))
          | (go_at_call 34
             refine (septets_any _ _ (by omega) (by omega)).mono ?_
             rintro e w6 ⟨v6, rfl, hown6, hb6⟩
             obtain ⟨A6, c6, rfl, hr6, _⟩ := own_form hown6
             have HC6 := Lib.hid (HC5.out.belowS hb6))
          | (go_at_call 43
             have r6 : Row w6 Av (bcs d) := (((hrv.keepB ((Below.refl _ _).alloc (Nat.le_refl _) (.cells #[.int .i64 l[k].1, .int .i64 l[k].2.1, .int .i64 l[k].2.2.1, .int .i64 l[k].2.2.2] 51)).drew).keepB hb3).keepB hb4).keepB (below_then hb5 hb6 hb5.size)
             refine (concat5 w6 Av A3 A4 A5 A6 cv c3 c4 c5 c6 d (sp (foldI (l[k].1 - f))) (sp (l[k].2.1 - l[k].1)) (sp (foldI (l[k].2.2.1 - l[k].2.1))) (sp l[k].2.2.2) r6 (((hr3.keepB hb4).keepB hb5).keepB hb6) ((hr4.keepB hb5).keepB hb6) (hr5.keepB hb6) hr6 z1 (by omega)).mono ?_
             rintro e w7 ⟨v7, rfl, hown7, hb7⟩
             have HC7 := Lib.hid ((HC6.out.alloc _).belowS hb7))
          | fail)
      have hb3' : Below w.heap.size w w3 := below_then ((hb0.alloc hb0.size _).drew) hb3 (by have := hb0.size; simp; omega)
      have hb4' := below_then hb3' hb4 hb3'.size
      have hb5' := below_then hb4' hb5 hb4'.size
      have hb6' := below_then hb5' hb6 hb5'.size
      have hb7' := below_then (hb6'.alloc hb6'.size _) hb7 (by have := hb6'.size; simp; omega)
      have hown7' := own_base (base' := w.heap.size) hown7 (by have := hb6'.size; simp; omega)
      have H7 := Lib.hid hown7'
      obtain ⟨s1, s2, s3⟩ := HC7.out.rules
      clear hown7 hown7' hb7 hb6 hb5 hb4 hb3 hown3 hown4 hown5 hown6 hr3 hr4 hr5 hr6 hrv u1 u2 u3 h1 h2 h3 h4 HC HC3 HC4 HC5 HC6 hown
      go_wp2_with fail
      go_roundw
      case rel =>
        refine ⟨k + 1, l[k].1, d ++ (sp (foldI (l[k].1 - f)) ++ (sp (l[k].2.1 - l[k].1) ++ (sp (foldI (l[k].2.2.1 - l[k].2.1)) ++ sp l[k].2.2.2))), by omega, by go_num, rfl, ?_, H7.out, by simp; omega, o1, by omega, hb7'⟩
        rw [He.out, drop_cons hlt, packCGo]; simp
      case measure => simp [intOf]; omega
    · go_wp2_with fail
      go_ret
      have e : packCGo 0 l = d := by rw [He.out, List.drop_of_length_le (by omega), packCGo, List.append_nil]
      rw [e]
      exact ⟨Av, cv, rfl, hrv, hb0⟩

def ics (l : List Int) : List Value := l.map (Value.int .i64)
theorem Row.int_ {w : World} {A : Option Addr} {l : List Int} (h : Row w A (ics l)) {k : Nat} (hk : k < l.length) :
    ∃ b off, A = some ⟨b, off, none⟩ ∧ b < w.heap.size ∧ w.cell? ⟨b, off + k, none⟩ = some (.int .i64 l[k]) := by
  obtain ⟨b, off, e, hlt, hc⟩ := h.at_ (k := k) (by simpa [ics] using hk)
  exact ⟨b, off, e, hlt, hc k _ (by simp [ics, hk])⟩


set_option maxHeartbeats 400000 in
theorem eqInts_any (A B : Option Addr) (c d : Nat) (l m : List Int) (w : World) (hl : l.length ≤ 9223372036854775807) (hm : m.length ≤ 9223372036854775807) (ha : Row w A (ics l)) (hb : Row w B (ics m)) :
    Calls Try.prog 44 #[.slice A l.length c, .slice B m.length d] w fun e w' => e = .returned (.bool (decide (l = m))) ∧ Below w.heap.size w w' := by
  by_cases hlen : l.length = m.length
  · have h0 : ((l.length : Int) != m.length) = false := by simp [hlen]
    have Hlen := Lib.hid hlen
    clear hlen
    go_enter Try.func44, Try.ntmps44
    go_wp2_with fail
    go_loopw [13] (fun i wr => ∃ k : Nat, k ≤ l.length ∧ i = .int .i64 k ∧ l.take k = m.take k ∧ Below w.heap.size w wr) (fun i _ => l.length - (intOf i).toNat)
    case atStart => exact ⟨0, Nat.zero_le _, rfl, by simp, Below.refl _ _⟩
    case round =>
      obtain ⟨k, hk, rfl, ht, hb0⟩ := hrel
      have Ht := Lib.hid ht
      clear ht
      by_cases hlt : k < l.length
      · have hlt' : k < m.length := by rw [← Hlen.out]; exact hlt
        obtain ⟨b, off, rfl, had, h1⟩ := (ha.keepB hb0).int_ hlt
        obtain ⟨b', off', rfl, had', h3⟩ := (hb.keepB hb0).int_ hlt'
        have i1 : (k : Int) < l.length := by omega
        have i2 : (k : Int) < m.length := by omega
        by_cases he : l[k] = m[k]
        · have e1 : (l[k] != m[k]) = false := by simp [he]
          have He := Lib.hid he
          clear he
          go_wp2_with fail
          go_quiet (fail)
          go_wp2_with fail
          go_roundw
          case rel => exact ⟨k + 1, by omega, by go_num, list_eq_step hlt hlt' Ht.out He.out, below_drewN hb0 _⟩
          case measure => simp [intOf]; omega
        · have e1 : (l[k] != m[k]) = true := by simp [he]
          have He := Lib.hid he
          clear he
          go_wp2_with fail
          go_quiet (fail)
          go_wp2_with fail
          go_ret
          exact ⟨ret_bool (by simp [list_ne_at hlt hlt' He.out]), below_drewN hb0 _⟩
      · go_wp2_with fail
        go_ret
        have e : l = m := by
          have h := Ht.out
          rwa [List.take_of_length_le (by omega), List.take_of_length_le (by have := Hlen.out; omega)] at h
        exact ⟨ret_bool (by simp [e]), hb0⟩
  · have h0 : ((l.length : Int) != m.length) = true := by
      rw [bne_iff_ne]; omega
    have Hlen := Lib.hid hlen
    clear hlen
    go_enter Try.func44, Try.ntmps44
    go_wp2_with fail
    go_ret
    refine ⟨ret_bool ?_, Below.refl _ _⟩
    rw [decide_eq_false]
    rintro rfl
    exact Hlen.out rfl

set_option maxHeartbeats 400000 in
theorem ints_any (A B : Option Addr) (c d : Nat) (l m : List Int) (w : World) (hl : l.length ≤ 9223372036854775807) (hm : m.length ≤ 9223372036854775807) (ha : Row w A (ics l)) (hb : Row w B (ics m)) :
    Calls Try.prog 26 #[.slice A l.length c, .slice B m.length d] w fun e w' => e = .returned (.bool (decide (l = m))) ∧ Below w.heap.size w w' := by
  go_enter Try.func26, Try.ntmps26
  go_wp2_with fail
  refine (eqInts_any A B c d l m _ hl hm ha hb).mono ?_
  rintro e w1 ⟨rfl, hb1⟩
  go_wp2_with fail
  go_ret
  exact ⟨rfl, hb1⟩

set_option maxHeartbeats 1000000 in
theorem eqCatches_any (A B : Option Addr) (c d : Nat) (l m : List Catch) (w : World) (hl : l.length ≤ 9223372036854775807) (hm : m.length ≤ 9223372036854775807) (ha : Row w A (l.flatMap ctc)) (hb : Row w B (m.flatMap ctc)) :
    Calls Try.prog 20 #[.slice A l.length c, .slice B m.length d] w fun e w' => e = .returned (.bool (decide (l = m))) ∧ Below w.heap.size w w' := by
  by_cases hlen : l.length = m.length
  · have h0 : ((l.length : Int) != m.length) = false := by simp [hlen]
    have Hlen := Lib.hid hlen
    clear hlen
    go_enter Try.func20, Try.ntmps20
    go_wp2_with fail
    go_loopw [13] (fun i wr => ∃ k : Nat, k ≤ l.length ∧ i = .int .i64 k ∧ l.take k = m.take k ∧ Below w.heap.size w wr) (fun i _ => l.length - (intOf i).toNat)
    case atStart => exact ⟨0, Nat.zero_le _, rfl, by simp, Below.refl _ _⟩
    case round =>
      obtain ⟨k, hk, rfl, ht, hb0⟩ := hrel
      have Ht := Lib.hid ht
      clear ht
      by_cases hlt : k < l.length
      · have hlt' : k < m.length := by rw [← Hlen.out]; exact hlt
        obtain ⟨b, off, rfl, had, h1, h2, h3, h4⟩ := (ha.keepB hb0).catch_ hlt
        obtain ⟨b', off', rfl, had', h5, h6, h7, h8⟩ := (hb.keepB hb0).catch_ hlt'
        have i1 : (k : Int) < l.length := by omega
        have i2 : (k : Int) < m.length := by omega
        by_cases he1 : l[k].1 = m[k].1
        · have e1 : (l[k].1 == m[k].1) = true := by simp [he1]
          by_cases he2 : l[k].2.1 = m[k].2.1
          · have e2 : (l[k].2.1 == m[k].2.1) = true := by simp [he2]
            by_cases he3 : l[k].2.2.1 = m[k].2.2.1
            · have e3 : (l[k].2.2.1 == m[k].2.2.1) = true := by simp [he3]
              by_cases he4 : l[k].2.2.2 = m[k].2.2.2
              · have e4 : (l[k].2.2.2 == m[k].2.2.2) = true := by simp [he4]
                have He := Lib.hid (show l[k] = m[k] from Prod.ext he1 (Prod.ext he2 (Prod.ext he3 he4)))
                clear he1 he2 he3 he4
                go_wp2_with fail
                go_quiet (fail)
                go_wp2_with fail
                go_roundw
                case rel => exact ⟨k + 1, by omega, by go_num, list_eq_step hlt hlt' Ht.out He.out, below_drewN hb0 _⟩
                case measure => simp [intOf]; omega
              · have e4 : (l[k].2.2.2 == m[k].2.2.2) = false := by simp [he4]
                have He := Lib.hid (show l[k] ≠ m[k] from fun e => he4 (by rw [e]))
                clear he1 he2 he3 he4
                go_wp2_with fail
                go_quiet (fail)
                go_wp2_with fail
                go_ret
                exact ⟨ret_bool (by simp [list_ne_at hlt hlt' He.out]), below_drewN hb0 _⟩
            · have e3 : (l[k].2.2.1 == m[k].2.2.1) = false := by simp [he3]
              have He := Lib.hid (show l[k] ≠ m[k] from fun e => he3 (by rw [e]))
              clear he1 he2 he3
              go_wp2_with fail
              go_quiet (fail)
              go_wp2_with fail
              go_ret
              exact ⟨ret_bool (by simp [list_ne_at hlt hlt' He.out]), below_drewN hb0 _⟩
          · have e2 : (l[k].2.1 == m[k].2.1) = false := by simp [he2]
            have He := Lib.hid (show l[k] ≠ m[k] from fun e => he2 (by rw [e]))
            clear he1 he2
            go_wp2_with fail
            go_quiet (fail)
            go_wp2_with fail
            go_ret
            exact ⟨ret_bool (by simp [list_ne_at hlt hlt' He.out]), below_drewN hb0 _⟩
        · have e1 : (l[k].1 == m[k].1) = false := by simp [he1]
          have He := Lib.hid (show l[k] ≠ m[k] from fun e => he1 (by rw [e]))
          clear he1
          go_wp2_with fail
          go_quiet (fail)
          go_wp2_with fail
          go_ret
          exact ⟨ret_bool (by simp [list_ne_at hlt hlt' He.out]), below_drewN hb0 _⟩
      · go_wp2_with fail
        go_ret
        have e : l = m := by
          have h := Ht.out
          rwa [List.take_of_length_le (by omega), List.take_of_length_le (by have := Hlen.out; omega)] at h
        exact ⟨ret_bool (by simp [e]), hb0⟩
  · have h0 : ((l.length : Int) != m.length) = true := by
      rw [bne_iff_ne]; omega
    have Hlen := Lib.hid hlen
    clear hlen
    go_enter Try.func20, Try.ntmps20
    go_wp2_with fail
    go_ret
    refine ⟨ret_bool ?_, Below.refl _ _⟩
    rw [decide_eq_false]
    rintro rfl
    exact Hlen.out rfl

end Go.Proofs.Ytionmlkefheocaa
