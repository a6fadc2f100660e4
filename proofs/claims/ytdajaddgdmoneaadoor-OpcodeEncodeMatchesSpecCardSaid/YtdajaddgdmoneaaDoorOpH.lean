/- Walks: the program's decoding of what was encoded. Nothing is claimed here. -/
import Derived.Test.YtdajaddgdmoneaaDoorOpG
namespace Go.Proofs.YtdajaddgdmoneaaDoor
open Go.RowKit
set_option linter.unusedVariables false

theorem Row.byteq {w : World} {A : Option Addr} {B : List Int} (h : Row w A (bcs B)) {p : Nat} {v : Int} {r : List Int} (hd : B.drop p = v :: r) :
    ∃ b off, A = some ⟨b, off, none⟩ ∧ b < w.heap.size ∧ w.cell? ⟨b, off + p, none⟩ = some (.int .u8 v) := by
  have hp : p < B.length := by
    rcases Nat.lt_or_ge p B.length with h | h
    · exact h
    · rw [List.drop_of_length_le h] at hd; simp at hd
  have hv : B[p] = v := by
    rw [drop_cons hp] at hd
    injection hd
  have := h.byte hp
  rwa [hv] at this
theorem drop_lt {B : List Int} {p : Nat} {v : Int} {r : List Int} (hd : B.drop p = v :: r) : p < B.length := by
  rcases Nat.lt_or_ge p B.length with h | h
  · exact h
  · rw [List.drop_of_length_le h] at hd; simp at hd
theorem drop_next {B : List Int} {p : Nat} {v : Int} {r : List Int} (hd : B.drop p = v :: r) : B.drop (p + 1) = r := by
  have h := congrArg (List.drop 1) hd
  rwa [List.drop_drop, List.drop_one, List.tail_cons] at h

theorem encF_all : ∀ (l : List Ins) (i : Nat), encF i l = (0, 0) → ∀ x ∈ l, kindOk x ∧ rangeOk x
  | [], _, _ => by simp
  | y :: l, i, h => by
    rw [encF] at h
    split at h
    · split at h
      · rename_i h1 h2
        intro x hx
        rcases List.mem_cons.1 hx with rfl | hx
        · exact ⟨h1, h2⟩
        · exact encF_all l (i + 1) h x hx
      · simp at h
    · simp at h
theorem encFault_ok {l : List Ins} (h : encFault l = (0, 0)) : l.length ≤ 60000 ∧ ∀ x ∈ l, kindOk x ∧ rangeOk x := by
  unfold encFault at h
  split at h
  · simp at h
  · exact ⟨by omega, encF_all l 0 h⟩

theorem info_instr : (Tryd.prog.info? 30).map (fun i => (i.zero, i.size, i.bytes)) = some (some (.agg #[.int .i64 0, .int .i64 0, .int .i64 0]), 3, 24) := by kernel_rfl

def DecPost (l : List Ins) (w : World) (e : Ending) (w' : World) : Prop :=
  ∃ A c, e = .returned (.tuple #[.slice A l.length c, aggF (0, 0)]) ∧ Row w' A (l.flatMap insc) ∧ Below w.heap.size w w'

def DecRel (l : List Ins) (w1 : World) (v i : Value) (wr : World) : Prop :=
  ∃ k p : Nat, k ≤ l.length ∧ p ≤ (encB l).length ∧ i = .int .i64 p ∧ (encB l).drop p = encB (l.drop k) ∧ wr.ownsRow w1.heap.size 30 3 v k ((l.take k).flatMap insc) ∧ Below w1.heap.size w1 wr

/-- while the operands of one instruction are read -/
def DecIn (p0 : Nat) (B R : List Int) (w1 : World) (g q n : Nat) (a bb : Int) (v : Value) (k : Nat) (xs : List Value) (at_ i : Value) (wr : World) : Prop :=
  ∃ j p : Nat, p0 < p ∧ j ≤ n ∧ p ≤ B.length ∧ i = .int .i64 j ∧ at_ = .int .i64 p ∧ B.drop p = (([a, bb].take n).drop j).flatMap sp ++ R ∧
    Blk wr g 30 #[.int .i64 q, .int .i64 (if 0 < j then a else 0), .int .i64 (if 1 < j then bb else 0)] ∧ wr.ownsRow w1.heap.size 30 3 v k xs ∧ some g ≠ v.ownBlock ∧ Below w1.heap.size w1 wr

theorem cells_new (w : World) (xs : List Value) (t : TypeId) : ∀ j u, xs[j]? = some u → (w.alloc (.cells xs.toArray t)).cell? ((⟨w.heap.size, 0, none⟩ : Addr).add j) = some u := by
  intro j u hj
  rw [Go.WideShapes.add_plain]
  have h := (Blk.new w t xs.toArray).cell (0 + j)
  rw [h]
  simpa using hj
theorem insc_one (x : Ins) : ∀ u ∈ insc x, u.oneCell' = true := by
  intro u hu
  simp [insc] at hu
  rcases hu with rfl | rfl | rfl <;> rfl

theorem grown_setCell (w : World) (g i : Nat) (u : Value) : w.grownBy (w.setCell ⟨g, i, none⟩ u) (some g) :=
  ⟨rfl, rfl, rfl, by simp [World.setCell], fun i hi hne => Below.heap_setCell w ⟨g, _, none⟩ u i (by rintro rfl; exact hne rfl)⟩
/-- while the bytes of one operand are read -/
def DecNum (x : Int) (p : Nat) (at_ m s : Value) : Prop :=
  (at_ = .int .i64 p ∧ m = .int .i64 0 ∧ s = .int .i64 0) ∨ (128 ≤ x ∧ at_ = .int .i64 ((p : Int) + 1) ∧ m = .int .i64 (x % 128) ∧ s = .int .i64 7)

theorem encB_len (l : List Ins) : (encB l).length ≤ 7 * l.length := by
  induction l with
  | nil => simp [encB]
  | cons x l ih =>
    rw [encB_cons, List.length_append, List.length_cons]
    have := enc1_len x
    omega

set_option maxHeartbeats 4000000 in
set_option maxRecDepth 100000 in
theorem decode_ok (A : Option Addr) (c : Nat) (l : List Ins) (w : World) (hA : Row w A (bcs (encB l))) (hf : Hid (encFault l = (0, 0))) :
    Calls Tryd.prog 5 #[.slice A (encB l).length c] w (DecPost l w) := by
  obtain ⟨hl, hok⟩ := encFault_ok hf.out
  have HOK := Lib.hid hok
  clear hok hf
  have hlen : (encB l).length ≤ 420000 := by have := encB_len l; omega
  obtain ⟨i0, hi, hz0, hz1, hz2⟩ := info_parts info_instr
  have hB : Blk (w.alloc (.cells #[.int .i64 0, .int .i64 0] 25)) w.heap.size 25 #[.int .i64 0, .int .i64 0] := Blk.new _ _ _
  have HB := Lib.hid hB
  clear hB
  have HM := Lib.hid (hA.keepB ((Below.refl w.heap.size w).alloc (Nat.le_refl _) (.cells #[.int .i64 0, .int .i64 0] 25)))
  clear hA
  go_enter Tryd.func5, Tryd.ntmps5
  go_wp2_with fail
  refine (table_row _).mono ?_
  rintro e w1 ⟨tb, rfl, hrow, hb1⟩
  have hB1 := HB.out.belowS hb1
  have hm1 := HM.out.keepB hb1
  have hbw : Below w.heap.size w w1 := below_then ((Below.refl _ _).alloc (Nat.le_refl _) _) hb1 (by simp)
  clear HB HM hb1
  go_wp2_with fail
  go_loopw [4, 6] (fun v i wr => DecRel l w1 v i wr) (fun _ i _ => (encB l).length - (intOf i).toNat)
  case atStart => exact ⟨0, 0, Nat.zero_le _, Nat.zero_le _, rfl, rfl, World.ownsRow_nil _ _ _ _, Below.refl _ _⟩
  case round =>
    obtain ⟨k, p, hk, hp, rfl, hd, hown, hb0⟩ := hrel
    have Hd := Lib.hid hd
    clear hd
    have hB := hB1.belowS hb0
    obtain ⟨hr, hf, hsz⟩ := hB.rules
    by_cases hlt : k < l.length
    · obtain ⟨x, hx⟩ : ∃ x, x = l[k] := ⟨_, rfl⟩
      have HX := Lib.hid (show l.drop k = x :: l.drop (k + 1) by rw [hx, drop_cons hlt])
      have HT := Lib.hid (show (l.take (k + 1)).flatMap insc = (l.take k).flatMap insc ++ insc x by rw [List.take_succ_eq_append_getElem hlt, List.flatMap_append, ← hx]; simp)
      have HXO := Lib.hid (HOK.out x (by rw [hx]; exact List.getElem_mem hlt))
      clear hx
      obtain ⟨op, a, bb⟩ := x
      obtain ⟨hk1, hk2⟩ := HXO.out.1
      simp only at hk1 hk2
      obtain ⟨q, rfl⟩ := Int.eq_ofNat_of_zero_le hk1
      have hq : q < 80 := by omega
      have Hd1 := Lib.hid (show (encB l).drop p = (q : Int) :: ((args ((q : Int), a, bb)).flatMap sp ++ encB (l.drop (k + 1))) by rw [Hd.out, HX.out, encB_cons, enc1]; rfl)
      have hplt : p < (encB l).length := drop_lt Hd1.out
      obtain ⟨b, off, rfl, had, h1⟩ := (hm1.keepB hb0).byteq Hd1.out
      obtain ⟨b2, off2, s, ta, tbb, hA, had2, hE, g1, g2, g3⟩ := (hrow.keepB hb0).ent (k := q) hq
      injection hA with hA
      injection hA with hA1 hA2
      subst hA1 hA2
      simp only [Nat.zero_add] at g1 g2 g3
      have HN := Lib.hid (opk_of hE.out)
      have hkm : ((k : Int) == 60000) = false := by
        rw [beq_eq_false_iff_ne]
        omega
      obtain ⟨Av, cv, rfl, _, hcv⟩ := own_form hown
      go_wp2_with (first | (go_at_call 17; refine (within_yes _ _ _ (by omega) (by omega)).mono ?_; rintro e w' ⟨rfl, rfl⟩))
      refine (operands_any _ _ _ _).mono ?_
      rintro e w2 ⟨rfl, hb2⟩
      have hI := (Blk.new wr 30 #[.int .i64 q, .int .i64 0, .int .i64 0]).belowS hb2
      have hown2 := own_belowS (hown.alloc (.cells #[.int .i64 q, .int .i64 0, .int .i64 0] 30)) hb2
      have hs1 := hb0.size
      have hs0 := hbw.size
      have hbr : Below w1.heap.size w1 w2 := below_then (hb0.alloc hb0.size _) hb2 (by simp; omega)
      have hs2 : wr.heap.size + 1 ≤ w2.heap.size := by simpa using hb2.size
      have hne : some wr.heap.size ≠ (Value.slice Av k cv).ownBlock := fun e => by have := hown.lt _ e.symm; omega
      obtain ⟨n, hn⟩ : ∃ n, n = opn ta tbb := ⟨_, rfl⟩
      rw [← hn]
      have HN2 := Lib.hid (show opk q = n by rw [HN.out, hn])
      have hn2 : n ≤ 2 := by rw [← HN2.out]; exact opk_le q
      have hra := HXO.out.2
      unfold rangeOk at hra
      simp only [Int.toNat_natCast, HN2.out] at hra
      obtain ⟨a1, a2, b1, b2, z1, z2⟩ := hra
      have Z1 := Lib.hid z1
      have Z2 := Lib.hid z2
      have HR4 := Lib.hid (show DecIn p (encB l) (encB (l.drop (k + 1))) w1 wr.heap.size q n a bb (.slice Av k cv) k ((l.take k).flatMap insc) (.int .i64 ((p : Int) + 1)) (.int .i64 0) w2 from ⟨0, p + 1, by omega, Nat.zero_le _, by omega, rfl, by go_num, by
        have h := drop_next Hd1.out
        rw [h, args]
        simp only [Int.toNat_natCast, HN2.out, List.drop_zero], by simpa using hI, hown2, hne, hbr⟩)
      clear hn HN hE g1 g2 g3 h1 hb2 hown hown2 hb0 hB hr hf hI z1 z2 hsz hne hbr
      go_wp2_with fail
      go_loopw [6, 45] (fun at_ i wq => DecIn p (encB l) (encB (l.drop (k + 1))) w1 wr.heap.size q n a bb (.slice Av k cv) k ((l.take k).flatMap insc) at_ i wq) (fun _ i _ => n - (intOf i).toNat)
      case atStart => exact HR4.out
      case round =>
        clear HR4
        obtain ⟨wo, rfl⟩ : ∃ wo : World, wo = wr := ⟨_, rfl⟩
        obtain ⟨j, p2, hpp, hj, hp2, rfl, rfl, hd2, hI, hown, hne, hb0⟩ := hrel
        have Hd2 := Lib.hid hd2
        clear hd2
        obtain ⟨ri, fi, zi⟩ := hI.rules
        have hs4 := hb0.size
        by_cases hj2 : j < n
        · have hj3 : j = 0 ∨ j = 1 := by omega
          rcases hj3 with rfl | rfl
          · obtain ⟨S, hS⟩ : ∃ S, S = (([a, bb].take n).drop (0 + 1)).flatMap sp ++ encB (l.drop (k + 1)) := ⟨_, rfl⟩
            have Hs := Lib.hid (show (encB l).drop p2 = sp a ++ S by
              rw [Hd2.out, hS]
              have hn3 : n = 1 ∨ n = 2 := by omega
              rcases hn3 with rfl | rfl <;> first | omega | simp)
            have HS := Lib.hid hS
            clear hS
            go_wp2_with fail
            go_loop [6, 10, 11] (fun at_ m s => DecNum a p2 at_ m s) (fun at_ _ _ => (encB l).length + 5 - (intOf at_).toNat)
            case atStart => exact .inl ⟨rfl, rfl, rfl⟩
            case round =>
              rcases hrel with ⟨rfl, rfl, rfl⟩ | ⟨hx, rfl, rfl, rfl⟩
              · by_cases hx : a < 128
                · have Hs1 := Lib.hid (show (encB l).drop p2 = a :: S by rw [Hs.out, sp_low hx]; rfl)
                  obtain ⟨bb3, off3, hA3, had3, h3⟩ := (hm1.keepB hb0).byteq Hs1.out
                  injection hA3 with hA3
                  injection hA3 with hA3 hA4
                  subst hA3 hA4
                  have hlt3 := drop_lt Hs1.out
                  have G : bits .or .i64 0 (wrap64 (bits .and .i64 a 127)) = a := by
                    rw [grp0 0 a (by omega) (by omega) a1 (by omega)]
                    omega
                  have Hs2 := Lib.hid (drop_next Hs1.out)
                  by_cases h0 : a = 0
                  · have e0 : (a == 0) = true := by simpa using h0
                    clear h0
                    go_wp2_with fail
                    go_roundw
                    case rel =>
                      refine ⟨0 + 1, p2 + 1, by omega, by omega, by omega, by first | rfl | go_num, by go_num, by rw [← HS.out]; exact Hs2.out, ?_, own_grown hown (grown_setCell _ _ _ _) (fun g hg e => by injection e with e; subst e; exact hne hg.symm), hne, hb0.setCell (by omega) _⟩
                      simpa using hI.set_ (0 + 1) (.int .i64 a)
                    case measure => simp [intOf]; omega
                  · have e0 : (a == 0) = false := by simpa using h0
                    clear h0
                    go_wp2_with fail
                    go_roundw
                    case rel =>
                      refine ⟨0 + 1, p2 + 1, by omega, by omega, by omega, by first | rfl | go_num, by go_num, by rw [← HS.out]; exact Hs2.out, ?_, own_grown hown (grown_setCell _ _ _ _) (fun g hg e => by injection e with e; subst e; exact hne hg.symm), hne, hb0.setCell (by omega) _⟩
                      simpa using hI.set_ (0 + 1) (.int .i64 a)
                    case measure => simp [intOf]; omega
                · have hx' : 128 ≤ a := by omega
                  have Hs1 := Lib.hid (show (encB l).drop p2 = (a % 128 + 128) :: (sp (a / 128) ++ S) by rw [Hs.out, sp_high hx' (by omega)]; rfl)
                  obtain ⟨bb3, off3, hA3, had3, h3⟩ := (hm1.keepB hb0).byteq Hs1.out
                  injection hA3 with hA3
                  injection hA3 with hA3 hA4
                  subst hA3 hA4
                  have hlt3 := drop_lt Hs1.out
                  have G : bits .or .i64 0 (wrap64 (bits .and .i64 (a % 128 + 128) 127)) = a % 128 := by
                    rw [grp0 0 (a % 128 + 128) (by omega) (by omega) (by omega) (by omega)]
                    omega
                  clear hx
                  go_wp2_with fail
                  go_round
                  case rel => exact .inr ⟨hx', rfl, rfl, rfl⟩
                  case measure => simp [intOf]; omega
              · have Hs1 := Lib.hid (show (encB l).drop (p2 + 1) = (a / 128) :: S by
                  have h : (encB l).drop p2 = (a % 128 + 128) :: (sp (a / 128) ++ S) := by rw [Hs.out, sp_high hx (by omega)]; rfl
                  rw [drop_next h, sp_low (by omega)]
                  rfl)
                obtain ⟨bb3, off3, hA3, had3, h3⟩ := (hm1.keepB hb0).byteq Hs1.out
                injection hA3 with hA3
                injection hA3 with hA3 hA4
                subst hA3 hA4
                have hlt3 := drop_lt Hs1.out
                have G : bits .or .i64 (a % 128) (wrap64 (bits .and .i64 (a / 128) 127 * 128)) = a := by
                  rw [grp1 (a % 128) (a / 128) (by omega) (by omega) (by omega) (by omega)]
                  omega
                have Hs2 := Lib.hid (drop_next Hs1.out)
                have e0 : (a / 128 == 0) = false := by
                  rw [beq_eq_false_iff_ne]
                  omega
                go_wp2_with fail
                go_roundw
                case rel =>
                  refine ⟨0 + 1, p2 + 2, by omega, by omega, by omega, by first | rfl | go_num, by go_num, by rw [← HS.out]; exact Hs2.out, ?_, own_grown hown (grown_setCell _ _ _ _) (fun g hg e => by injection e with e; subst e; exact hne hg.symm), hne, hb0.setCell (by omega) _⟩
                  simpa using hI.set_ (0 + 1) (.int .i64 a)
                case measure => simp [intOf]; omega
          · obtain ⟨S, hS⟩ : ∃ S, S = (([a, bb].take n).drop (1 + 1)).flatMap sp ++ encB (l.drop (k + 1)) := ⟨_, rfl⟩
            have Hs := Lib.hid (show (encB l).drop p2 = sp bb ++ S by
              rw [Hd2.out, hS]
              have hn3 : n = 1 ∨ n = 2 := by omega
              rcases hn3 with rfl | rfl <;> first | omega | simp)
            have HS := Lib.hid hS
            clear hS
            go_wp2_with fail
            go_loop [6, 10, 11] (fun at_ m s => DecNum bb p2 at_ m s) (fun at_ _ _ => (encB l).length + 5 - (intOf at_).toNat)
            case atStart => exact .inl ⟨rfl, rfl, rfl⟩
            case round =>
              rcases hrel with ⟨rfl, rfl, rfl⟩ | ⟨hx, rfl, rfl, rfl⟩
              · by_cases hx : bb < 128
                · have Hs1 := Lib.hid (show (encB l).drop p2 = bb :: S by rw [Hs.out, sp_low hx]; rfl)
                  obtain ⟨bb3, off3, hA3, had3, h3⟩ := (hm1.keepB hb0).byteq Hs1.out
                  injection hA3 with hA3
                  injection hA3 with hA3 hA4
                  subst hA3 hA4
                  have hlt3 := drop_lt Hs1.out
                  have G : bits .or .i64 0 (wrap64 (bits .and .i64 bb 127)) = bb := by
                    rw [grp0 0 bb (by omega) (by omega) b1 (by omega)]
                    omega
                  have Hs2 := Lib.hid (drop_next Hs1.out)
                  by_cases h0 : bb = 0
                  · have e0 : (bb == 0) = true := by simpa using h0
                    clear h0
                    go_wp2_with fail
                    go_roundw
                    case rel =>
                      refine ⟨1 + 1, p2 + 1, by omega, by omega, by omega, by first | rfl | go_num, by go_num, by rw [← HS.out]; exact Hs2.out, ?_, own_grown hown (grown_setCell _ _ _ _) (fun g hg e => by injection e with e; subst e; exact hne hg.symm), hne, hb0.setCell (by omega) _⟩
                      simpa using hI.set_ (1 + 1) (.int .i64 bb)
                    case measure => simp [intOf]; omega
                  · have e0 : (bb == 0) = false := by simpa using h0
                    clear h0
                    go_wp2_with fail
                    go_roundw
                    case rel =>
                      refine ⟨1 + 1, p2 + 1, by omega, by omega, by omega, by first | rfl | go_num, by go_num, by rw [← HS.out]; exact Hs2.out, ?_, own_grown hown (grown_setCell _ _ _ _) (fun g hg e => by injection e with e; subst e; exact hne hg.symm), hne, hb0.setCell (by omega) _⟩
                      simpa using hI.set_ (1 + 1) (.int .i64 bb)
                    case measure => simp [intOf]; omega
                · have hx' : 128 ≤ bb := by omega
                  have Hs1 := Lib.hid (show (encB l).drop p2 = (bb % 128 + 128) :: (sp (bb / 128) ++ S) by rw [Hs.out, sp_high hx' (by omega)]; rfl)
                  obtain ⟨bb3, off3, hA3, had3, h3⟩ := (hm1.keepB hb0).byteq Hs1.out
                  injection hA3 with hA3
                  injection hA3 with hA3 hA4
                  subst hA3 hA4
                  have hlt3 := drop_lt Hs1.out
                  have G : bits .or .i64 0 (wrap64 (bits .and .i64 (bb % 128 + 128) 127)) = bb % 128 := by
                    rw [grp0 0 (bb % 128 + 128) (by omega) (by omega) (by omega) (by omega)]
                    omega
                  clear hx
                  go_wp2_with fail
                  go_round
                  case rel => exact .inr ⟨hx', rfl, rfl, rfl⟩
                  case measure => simp [intOf]; omega
              · have Hs1 := Lib.hid (show (encB l).drop (p2 + 1) = (bb / 128) :: S by
                  have h : (encB l).drop p2 = (bb % 128 + 128) :: (sp (bb / 128) ++ S) := by rw [Hs.out, sp_high hx (by omega)]; rfl
                  rw [drop_next h, sp_low (by omega)]
                  rfl)
                obtain ⟨bb3, off3, hA3, had3, h3⟩ := (hm1.keepB hb0).byteq Hs1.out
                injection hA3 with hA3
                injection hA3 with hA3 hA4
                subst hA3 hA4
                have hlt3 := drop_lt Hs1.out
                have G : bits .or .i64 (bb % 128) (wrap64 (bits .and .i64 (bb / 128) 127 * 128)) = bb := by
                  rw [grp1 (bb % 128) (bb / 128) (by omega) (by omega) (by omega) (by omega)]
                  omega
                have Hs2 := Lib.hid (drop_next Hs1.out)
                have e0 : (bb / 128 == 0) = false := by
                  rw [beq_eq_false_iff_ne]
                  omega
                go_wp2_with fail
                go_roundw
                case rel =>
                  refine ⟨1 + 1, p2 + 2, by omega, by omega, by omega, by first | rfl | go_num, by go_num, by rw [← HS.out]; exact Hs2.out, ?_, own_grown hown (grown_setCell _ _ _ _) (fun g hg e => by injection e with e; subst e; exact hne hg.symm), hne, hb0.setCell (by omega) _⟩
                  simpa using hI.set_ (1 + 1) (.int .i64 bb)
                case measure => simp [intOf]; omega
        · obtain rfl : j = n := by omega
          have Hd3 := Lib.hid (show (encB l).drop p2 = encB (l.drop (k + 1)) by
            rw [Hd2.out, List.drop_of_length_le (by simp; omega)]
            rfl)
          have e1 : (if 0 < j then a else 0) = a := by
            split
            · rfl
            · exact (Z2.out (by omega)).symm
          have e2 : (if 1 < j then bb else 0) = bb := by
            split
            · rfl
            · exact (Z1.out (by omega)).symm
          rw [e1, e2] at hI ri
          clear e1 e2
          go_wp2_with (at_builtin; refine wpList_append_own_at _ rfl (.tmp 94) (.tmp 96) 23 rfl w1.heap.size 30 i0 _ 3 24 Tryd.underlying23 hi hz0 hz1 hz2 rfl (by decide) (.slice Av k cv) k _ rfl (hown.alloc _) ⟨wo.heap.size, 0, none⟩ 1 1 (insc ((q : Int), a, bb)) rfl rfl (cells_new wo (insc ((q : Int), a, bb)) _) (insc_one _) (by unfold maxLen; omega) (by omega) (by simp; omega) ?_; intro v3 w3 hown3 hg3 _ hat3)
          go_roundw
          case rel =>
            refine ⟨k + 1, p2, by omega, hp2, rfl, Hd3.out, ?_, (hb0.alloc hs4 _).grown hg3 (by simp; omega) (fun g e => (hown.lt g e).1)⟩
            rw [HT.out]
            exact hown3
          case measure => simp [intOf]; omega
    · obtain rfl : k = l.length := by omega
      have hpe : p = (encB l).length := by
        have := Hd.out
        rw [List.drop_length] at this
        have h2 := List.drop_eq_nil_iff.1 this
        omega
      obtain ⟨Av, cv, rfl, hrow2, hc⟩ := own_form hown
      go_wp2_with fail
      refine ret_tmp_blk Tryd.results5 rfl ((hB.set_ 0 _).set_ 1 _) _ Tryd.underlying25 rfl (by kernel_rfl) rfl _ rfl ?_
      have hs0 := hbw.size
      rw [List.take_length] at hown
      exact ⟨Av, cv, rfl, Row.of_own (ownsRow_setCell_below (ownsRow_setCell_below hown (a := ⟨w.heap.size, 0, none⟩) (by have := hB1.lt; simpa using this) _) (a := ⟨w.heap.size, 1, none⟩) (by have := hB1.lt; simpa using this) _), ((below_then hbw hb0 hbw.size).setCell (Nat.le_refl _) _).setCell (Nat.le_refl _) _⟩

end Go.Proofs.YtdajaddgdmoneaaDoor
