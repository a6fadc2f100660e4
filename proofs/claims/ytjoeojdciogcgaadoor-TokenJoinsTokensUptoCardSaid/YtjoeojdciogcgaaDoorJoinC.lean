/- token.Join: the text of tokens. Nothing is claimed here. -/
import Derived.Test.YtjoeojdciogcgaaDoorJoinB
namespace Go.Proofs.YtjoeojdciogcgaaDoor
open Go.RowKit Go.Shelf Go.Lib Go.Maps
set_option linter.unusedVariables false

/-- what Join gives -/
def joinR (l : List Tok) : List UInt8 × Int × Int := match joined (l.map kt) with
  | none => ([], 14, -1)
  | some u => match scanT u with
    | .error _ => ([], 6, -1)
    | .ok m => if sameL l m then (u, 0, 0) else ([], 6, -1)
def JPost (w : World) (r : List UInt8 × Int × Int) (e : Ending) (w' : World) : Prop := e = .returned (.tuple #[.string ⟨r.1.toArray⟩, flt r.2.1 r.2.2]) ∧ Below w.heap.size w w'
/-- what holds between the rounds -/
def JRel (l : List Tok) (w : World) (lv fr i : Value) (wr : World) : Prop :=
  ∃ (k : Nat) (v : Int) (f : Bool) (out : List UInt8), k ≤ l.length ∧ i = .int .i64 (k : Int) ∧ lv = .int .i64 v ∧ fr = .bool f ∧ Bld wr (w.heap.size + 1) out ∧ Blk wr w.heap.size 25 #[.int .i64 0, .int .i64 0] ∧ Below w.heap.size w wr ∧ out.length ≤ 16000 ∧ joinF ⟨v, f, out⟩ ((l.drop k).map kt) = joined (l.map kt) ∧ -(k : Int) ≤ v ∧ v ≤ k
theorem drop_tok {l : List Tok} {k : Nat} {t : Tok} (h : l[k]? = some t) : (l.drop k).map kt = (t.kind, t.text) :: (l.drop (k + 1)).map kt := by
  obtain ⟨hk, rfl⟩ := List.getElem?_eq_some_iff.1 h
  rw [List.drop_eq_getElem_cons hk, List.map_cons]
  rfl

set_option maxRecDepth 100000 in
set_option maxHeartbeats 8000000 in
theorem join_any (A : Option Addr) (c : Nat) (l : List Tok) (w : World) (hl : l.length ≤ 5000000) (ht : ∀ t ∈ l, t.text.length ≤ 100000000) (hr : Row w A (l.flatMap tokc)) (he : Env w) (hz : ∀ u, joined (l.map kt) = some u → ∀ c i, scanT u = .error (c, i) → c ≠ 0) :
    Calls Tryd.prog 8 #[.slice A l.length c] w (JPost w (joinR l)) := by
  have hb0 : Below w.heap.size w ((w.alloc (.cells #[.int .i64 0, .int .i64 0] 25)).alloc (.cells #[.pointer none, .slice none 0 0] 51)) := ((Below.refl _ w).alloc (Nat.le_refl _) _).alloc (by simp) _
  have hP := (Blk.new w 25 #[.int .i64 0, .int .i64 0]).alloc (.cells #[.pointer none, .slice none 0 0] 51)
  have hB := Bld.new (w.alloc (.cells #[.int .i64 0, .int .i64 0] 25))
  rw [show (w.alloc (.cells #[.int .i64 0, .int .i64 0] 25)).heap.size = w.heap.size + 1 from by simp] at hB
  have HZ := Lib.hid hz
  have hs3 : Tryd.t3.size = 1 := by kernel_rfl
  clear hz
  go_enter Tryd.func8, Tryd.ntmps8
  go_wp2_with fail
  go_loopw [5, 6, 14] (fun lv fr i wr => JRel l w lv fr i wr) (fun _ _ i _ => l.length - (RowKit.intOf i).toNat)
  case atStart => exact ⟨0, 0, true, [], Nat.zero_le _, rfl, rfl, rfl, hB, hP, hb0, by simp, rfl, by simp, by simp⟩
  case round =>
    obtain ⟨k, v, f, out, hk, rfl, rfl, rfl, hBr, hPr, hbr, hout, hj, hv1, hv2⟩ := hrel
    have HJ := Lib.hid hj
    clear hj hB hP hb0
    by_cases hlt : k < l.length
    · obtain ⟨b, off, ⟨kd, tx, ln, co⟩, rfl, had, H1, a1, a2, a3, a4⟩ := (hr.keepB hbr).tok hlt
      have htt : tx.length ≤ 100000000 := ht _ (List.mem_of_getElem? H1.out)
      dsimp only at a1 a2 a3 a4
      have i1 : (k : Int) < l.length := by omega
      have hd := HJ.out
      rw [drop_tok H1.out, joinF] at hd
      dsimp only at hd
      have HD := Lib.hid hd
      clear hd HJ
      by_cases h2 : kd = 2
      · subst h2
        have hs : jstep ⟨v, f, out⟩ 2 tx = ⟨v + 1, f, out⟩ := rfl
        have hb1 := hbr.alloc hbr.size (.cells #[.int .i64 (2), .string ⟨tx.toArray⟩, .int .i64 ln, .int .i64 co] 32)
        have hB1 : Bld (wr.alloc (.cells #[.int .i64 (2), .string ⟨tx.toArray⟩, .int .i64 ln, .int .i64 co] 32)) (w.heap.size + 1) out := hBr.belowS ((Below.refl _ wr).alloc (Nat.le_refl _) _)
        have hP1 := hPr.alloc (.cells #[.int .i64 (2), .string ⟨tx.toArray⟩, .int .i64 ln, .int .i64 co] 32)
        have hT1 := Blk.new wr 32 #[.int .i64 (2), .string ⟨tx.toArray⟩, .int .i64 ln, .int .i64 co]
        obtain ⟨w1, hw1⟩ : ∃ w1, wr.alloc (.cells #[.int .i64 (2), .string ⟨tx.toArray⟩, .int .i64 ln, .int .i64 co] 32) = w1 := ⟨_, rfl⟩
        rw [hw1] at hB1 hP1 hT1 hb1
        obtain ⟨r1, r2, r3⟩ := hT1.rules
        have hne : wr.heap.size ≠ w.heap.size + 1 := Nat.ne_of_gt hBr.lt
        go_wp2_with fail
        clear hw1 hBr hPr hbr a1 a2 a3 a4
        clear r1 r2 r3 hT1
        refine (bld_len hB1).mono ?_
        rintro e w9 ⟨rfl, rfl⟩
        have hd := HD.out
        rw [hs] at hd
        dsimp only at hd
        rw [if_neg (by omega)] at hd
        have HF := Lib.hid hd
        clear hd HD
        obtain ⟨q1, q2, q3⟩ := Blk.rules hP1
        have c1 : ¬ (16000 : Int) < ((out).length : Int) := by omega
        go_wp2_with fail
        go_roundw
        case rel => exact ⟨k + 1, _, _, _, by omega, by go_num, by go_num, rfl, hB1, hP1, hb1, by omega, HF.out, by omega, by omega⟩
        case measure => simp [RowKit.intOf]; omega
      · by_cases h3 : kd = 3
        · subst h3
          have hs : jstep ⟨v, f, out⟩ 3 tx = ⟨v - 1, f, out⟩ := rfl
          have hb1 := hbr.alloc hbr.size (.cells #[.int .i64 (3), .string ⟨tx.toArray⟩, .int .i64 ln, .int .i64 co] 32)
          have hB1 : Bld (wr.alloc (.cells #[.int .i64 (3), .string ⟨tx.toArray⟩, .int .i64 ln, .int .i64 co] 32)) (w.heap.size + 1) out := hBr.belowS ((Below.refl _ wr).alloc (Nat.le_refl _) _)
          have hP1 := hPr.alloc (.cells #[.int .i64 (3), .string ⟨tx.toArray⟩, .int .i64 ln, .int .i64 co] 32)
          have hT1 := Blk.new wr 32 #[.int .i64 (3), .string ⟨tx.toArray⟩, .int .i64 ln, .int .i64 co]
          obtain ⟨w1, hw1⟩ : ∃ w1, wr.alloc (.cells #[.int .i64 (3), .string ⟨tx.toArray⟩, .int .i64 ln, .int .i64 co] 32) = w1 := ⟨_, rfl⟩
          rw [hw1] at hB1 hP1 hT1 hb1
          obtain ⟨r1, r2, r3⟩ := hT1.rules
          have hne : wr.heap.size ≠ w.heap.size + 1 := Nat.ne_of_gt hBr.lt
          go_wp2_with fail
          clear hw1 hBr hPr hbr a1 a2 a3 a4
          clear r1 r2 r3 hT1
          refine (bld_len hB1).mono ?_
          rintro e w9 ⟨rfl, rfl⟩
          have hd := HD.out
          rw [hs] at hd
          dsimp only at hd
          rw [if_neg (by omega)] at hd
          have HF := Lib.hid hd
          clear hd HD
          obtain ⟨q1, q2, q3⟩ := Blk.rules hP1
          have c1 : ¬ (16000 : Int) < ((out).length : Int) := by omega
          go_wp2_with fail
          go_roundw
          case rel => exact ⟨k + 1, _, _, _, by omega, by go_num, by go_num, rfl, hB1, hP1, hb1, by omega, HF.out, by omega, by omega⟩
          case measure => simp [RowKit.intOf]; omega
        · by_cases h1 : kd = 1
          · subst h1
            have hs : jstep ⟨v, f, out⟩ 1 tx = ⟨v, true, out ++ [10]⟩ := rfl
            have hb1 := hbr.alloc hbr.size (.cells #[.int .i64 (1), .string ⟨tx.toArray⟩, .int .i64 ln, .int .i64 co] 32)
            have hB1 : Bld (wr.alloc (.cells #[.int .i64 (1), .string ⟨tx.toArray⟩, .int .i64 ln, .int .i64 co] 32)) (w.heap.size + 1) out := hBr.belowS ((Below.refl _ wr).alloc (Nat.le_refl _) _)
            have hP1 := hPr.alloc (.cells #[.int .i64 (1), .string ⟨tx.toArray⟩, .int .i64 ln, .int .i64 co] 32)
            have hT1 := Blk.new wr 32 #[.int .i64 (1), .string ⟨tx.toArray⟩, .int .i64 ln, .int .i64 co]
            obtain ⟨w1, hw1⟩ : ∃ w1, wr.alloc (.cells #[.int .i64 (1), .string ⟨tx.toArray⟩, .int .i64 ln, .int .i64 co] 32) = w1 := ⟨_, rfl⟩
            rw [hw1] at hB1 hP1 hT1 hb1
            obtain ⟨r1, r2, r3⟩ := hT1.rules
            have hne : wr.heap.size ≠ w.heap.size + 1 := Nat.ne_of_gt hBr.lt
            go_wp2_with fail
            clear hw1 hBr hPr hbr a1 a2 a3 a4
            refine (bld_byte hB1 (by omega) 10 10 rfl).mono ?_
            rintro e w2 ⟨rfl, hB2, hbb, ho⟩
            have hP2 := hP1.below hbb (Nat.lt_succ_self _)
            have hb2 := hb1.trans (hbb.mono (Nat.le_succ _))
            clear hb1 hB1 hP1 hT1 hbb ho r1 r2 r3
            go_wp2_with fail
            obtain ⟨o, hoo⟩ : ∃ o, out ++ [10] = o := ⟨_, rfl⟩
            rw [hoo] at hB2 hs
            clear hoo
            refine (bld_len hB2).mono ?_
            rintro e w9 ⟨rfl, rfl⟩
            have hd := HD.out
            rw [hs] at hd
            dsimp only at hd
            have HE := Lib.hid hd
            clear hd HD
            obtain ⟨q1, q2, q3⟩ := Blk.rules hP2
            by_cases hlong : 16000 < (o).length
            · have hd := HE.out
              rw [if_pos hlong] at hd
              have hjr : joinR l = ([], 14, -1) := by unfold joinR; rw [← hd]
              have HF := Lib.hid hjr
              have c1 : (16000 : Int) < ((o).length : Int) := by omega
              clear hd hjr
              go_wp2_with fail
              rw [HF.out]
              have hPz := (Blk.set_ hP2 0 (.int .i64 14)).set_ 1 (.int .i64 (-1))
              exact ret_tmp_blk rfl rfl hPz _ Tryd.underlying25 rfl (by kernel_rfl) rfl _ rfl ⟨rfl, (Below.setCell hb2 (p := ⟨_, 0, none⟩) (Nat.le_refl _) _).setCell (p := ⟨_, 1, none⟩) (Nat.le_refl _) _⟩
            · have hd := HE.out
              rw [if_neg hlong] at hd
              have HF := Lib.hid hd
              have c1 : ¬ (16000 : Int) < ((o).length : Int) := by omega
              clear hd
              go_wp2_with fail
              go_roundw
              case rel => exact ⟨k + 1, _, _, _, by omega, by go_num, by go_num, rfl, hB2, hP2, hb2, by omega, HF.out, by omega, by omega⟩
              case measure => simp [RowKit.intOf]; omega
          · by_cases h0 : kd = 0
            · subst h0
              have hs : jstep ⟨v, f, out⟩ 0 tx = ⟨v, f, out⟩ := rfl
              have hb1 := hbr.alloc hbr.size (.cells #[.int .i64 (0), .string ⟨tx.toArray⟩, .int .i64 ln, .int .i64 co] 32)
              have hB1 : Bld (wr.alloc (.cells #[.int .i64 (0), .string ⟨tx.toArray⟩, .int .i64 ln, .int .i64 co] 32)) (w.heap.size + 1) out := hBr.belowS ((Below.refl _ wr).alloc (Nat.le_refl _) _)
              have hP1 := hPr.alloc (.cells #[.int .i64 (0), .string ⟨tx.toArray⟩, .int .i64 ln, .int .i64 co] 32)
              have hT1 := Blk.new wr 32 #[.int .i64 (0), .string ⟨tx.toArray⟩, .int .i64 ln, .int .i64 co]
              obtain ⟨w1, hw1⟩ : ∃ w1, wr.alloc (.cells #[.int .i64 (0), .string ⟨tx.toArray⟩, .int .i64 ln, .int .i64 co] 32) = w1 := ⟨_, rfl⟩
              rw [hw1] at hB1 hP1 hT1 hb1
              obtain ⟨r1, r2, r3⟩ := hT1.rules
              have hne : wr.heap.size ≠ w.heap.size + 1 := Nat.ne_of_gt hBr.lt
              go_wp2_with fail
              clear hw1 hBr hPr hbr a1 a2 a3 a4
              clear r1 r2 r3 hT1
              refine (bld_len hB1).mono ?_
              rintro e w9 ⟨rfl, rfl⟩
              have hd := HD.out
              rw [hs] at hd
              dsimp only at hd
              rw [if_neg (by omega)] at hd
              have HF := Lib.hid hd
              clear hd HD
              obtain ⟨q1, q2, q3⟩ := Blk.rules hP1
              have c1 : ¬ (16000 : Int) < ((out).length : Int) := by omega
              go_wp2_with fail
              go_roundw
              case rel => exact ⟨k + 1, _, _, _, by omega, by go_num, by go_num, rfl, hB1, hP1, hb1, by omega, HF.out, by omega, by omega⟩
              case measure => simp [RowKit.intOf]; omega
            · have e2 : (kd == 2) = false := by simpa using h2
              have e3 : (kd == 3) = false := by simpa using h3
              have e1 : (kd == 1) = false := by simpa using h1
              have e0 : (kd == 0) = false := by simpa using h0
              have hs : jstep ⟨v, f, out⟩ kd tx = ⟨v, false, out ++ ((if f then List.replicate (2 * v.toNat) 32 else [32]) ++ tx)⟩ := by
                unfold jstep; rw [if_neg h2, if_neg h3, if_neg h1, if_neg h0]
              clear h0 h1 h2 h3
              cases f
              · rw [if_neg (by decide)] at hs
                have hb1 := hbr.alloc hbr.size (.cells #[.int .i64 (kd), .string ⟨tx.toArray⟩, .int .i64 ln, .int .i64 co] 32)
                have hB1 : Bld (wr.alloc (.cells #[.int .i64 (kd), .string ⟨tx.toArray⟩, .int .i64 ln, .int .i64 co] 32)) (w.heap.size + 1) out := hBr.belowS ((Below.refl _ wr).alloc (Nat.le_refl _) _)
                have hP1 := hPr.alloc (.cells #[.int .i64 (kd), .string ⟨tx.toArray⟩, .int .i64 ln, .int .i64 co] 32)
                have hT1 := Blk.new wr 32 #[.int .i64 (kd), .string ⟨tx.toArray⟩, .int .i64 ln, .int .i64 co]
                obtain ⟨w1, hw1⟩ : ∃ w1, wr.alloc (.cells #[.int .i64 (kd), .string ⟨tx.toArray⟩, .int .i64 ln, .int .i64 co] 32) = w1 := ⟨_, rfl⟩
                rw [hw1] at hB1 hP1 hT1 hb1
                obtain ⟨r1, r2, r3⟩ := hT1.rules
                have hne : wr.heap.size ≠ w.heap.size + 1 := Nat.ne_of_gt hBr.lt
                go_wp2_with fail
                clear hw1 hBr hPr hbr a1 a2 a3 a4
                refine (bld_byte hB1 (by omega) 32 32 rfl).mono ?_
                rintro e w2 ⟨rfl, hB2, hbb, ho⟩
                have hT2 := hT1.others ho hne (by decide)
                have hP2 := hP1.below hbb (Nat.lt_succ_self _)
                have hb2 := hb1.trans (hbb.mono (Nat.le_succ _))
                clear hb1 hB1 hP1 hT1 hbb ho r1 r2 r3
                obtain ⟨r1, r2, r3⟩ := hT2.rules
                go_wp2_with fail
                refine (bld_str hB2 (by simp only [List.length_append, List.length_replicate, List.length_cons, List.length_nil]; omega) tx (by omega)).mono ?_
                rintro e w3 ⟨⟨n3, rfl⟩, hB3, hbb, ho⟩
                have hP3 := hP2.below hbb (Nat.lt_succ_self _)
                have hb3 := hb2.trans (hbb.mono (Nat.le_succ _))
                clear hb2 hB2 hP2 hT2 hbb ho r1 r2 r3
                go_wp2_with fail
                rw [List.append_assoc] at hB3
                obtain ⟨o, hoo⟩ : ∃ o, out ++ ([32] ++ tx) = o := ⟨_, rfl⟩
                rw [hoo] at hB3 hs
                clear hoo
                refine (bld_len hB3).mono ?_
                rintro e w9 ⟨rfl, rfl⟩
                have hd := HD.out
                rw [hs] at hd
                dsimp only at hd
                have HE := Lib.hid hd
                clear hd HD
                obtain ⟨q1, q2, q3⟩ := Blk.rules hP3
                by_cases hlong : 16000 < (o).length
                · have hd := HE.out
                  rw [if_pos hlong] at hd
                  have hjr : joinR l = ([], 14, -1) := by unfold joinR; rw [← hd]
                  have HF := Lib.hid hjr
                  have c1 : (16000 : Int) < ((o).length : Int) := by omega
                  clear hd hjr
                  go_wp2_with fail
                  rw [HF.out]
                  have hPz := (Blk.set_ hP3 0 (.int .i64 14)).set_ 1 (.int .i64 (-1))
                  exact ret_tmp_blk rfl rfl hPz _ Tryd.underlying25 rfl (by kernel_rfl) rfl _ rfl ⟨rfl, (Below.setCell hb3 (p := ⟨_, 0, none⟩) (Nat.le_refl _) _).setCell (p := ⟨_, 1, none⟩) (Nat.le_refl _) _⟩
                · have hd := HE.out
                  rw [if_neg hlong] at hd
                  have HF := Lib.hid hd
                  have c1 : ¬ (16000 : Int) < ((o).length : Int) := by omega
                  clear hd
                  go_wp2_with fail
                  go_roundw
                  case rel => exact ⟨k + 1, _, _, _, by omega, by go_num, by go_num, rfl, hB3, hP3, hb3, by omega, HF.out, by omega, by omega⟩
                  case measure => simp [RowKit.intOf]; omega
              · rw [if_pos rfl] at hs
                have hb1 := hbr.alloc hbr.size (.cells #[.int .i64 (kd), .string ⟨tx.toArray⟩, .int .i64 ln, .int .i64 co] 32)
                have hB1 : Bld (wr.alloc (.cells #[.int .i64 (kd), .string ⟨tx.toArray⟩, .int .i64 ln, .int .i64 co] 32)) (w.heap.size + 1) out := hBr.belowS ((Below.refl _ wr).alloc (Nat.le_refl _) _)
                have hP1 := hPr.alloc (.cells #[.int .i64 (kd), .string ⟨tx.toArray⟩, .int .i64 ln, .int .i64 co] 32)
                have hT1 := Blk.new wr 32 #[.int .i64 (kd), .string ⟨tx.toArray⟩, .int .i64 ln, .int .i64 co]
                obtain ⟨w1, hw1⟩ : ∃ w1, wr.alloc (.cells #[.int .i64 (kd), .string ⟨tx.toArray⟩, .int .i64 ln, .int .i64 co] 32) = w1 := ⟨_, rfl⟩
                rw [hw1] at hB1 hP1 hT1 hb1
                obtain ⟨r1, r2, r3⟩ := hT1.rules
                have hne : wr.heap.size ≠ w.heap.size + 1 := Nat.ne_of_gt hBr.lt
                go_wp2_with fail
                clear hw1 hBr hPr hbr a1 a2 a3 a4
                have hmx : max 0 v = ((v.toNat : Nat) : Int) := by omega
                rw [hmx]
                refine (rep_any v.toNat (by omega) w1).mono ?_
                rintro e w4 ⟨rfl, hbb⟩
                have hB4 := hB1.belowS hbb
                have hT4 := hT1.belowS hbb
                have hP4 := hP1.belowS hbb
                have hb4 := below_then hb1 hbb hb1.size
                have hvn : v.toNat ≤ 10000000 := by omega
                clear hb1 hB1 hP1 hT1 hbb r1 r2 r3 hmx
                go_wp2_with fail
                refine (bld_str hB4 (by omega) (List.replicate (2 * v.toNat) 32) (by rw [List.length_replicate]; omega)).mono ?_
                rintro e w2 ⟨⟨n2, rfl⟩, hB2, hbb, ho⟩
                have hT2 := hT4.others ho hne (by decide)
                have hP2 := hP4.below hbb (Nat.lt_succ_self _)
                have hb2 := hb4.trans (hbb.mono (Nat.le_succ _))
                clear hb4 hB4 hP4 hT4 hbb ho
                obtain ⟨r1, r2, r3⟩ := hT2.rules
                go_wp2_with fail
                refine (bld_str hB2 (by simp only [List.length_append, List.length_replicate, List.length_cons, List.length_nil]; omega) tx (by omega)).mono ?_
                rintro e w3 ⟨⟨n3, rfl⟩, hB3, hbb, ho⟩
                have hP3 := hP2.below hbb (Nat.lt_succ_self _)
                have hb3 := hb2.trans (hbb.mono (Nat.le_succ _))
                clear hb2 hB2 hP2 hT2 hbb ho r1 r2 r3
                go_wp2_with fail
                rw [List.append_assoc] at hB3
                obtain ⟨o, hoo⟩ : ∃ o, out ++ (List.replicate (2 * v.toNat) 32 ++ tx) = o := ⟨_, rfl⟩
                rw [hoo] at hB3 hs
                clear hoo
                refine (bld_len hB3).mono ?_
                rintro e w9 ⟨rfl, rfl⟩
                have hd := HD.out
                rw [hs] at hd
                dsimp only at hd
                have HE := Lib.hid hd
                clear hd HD
                obtain ⟨q1, q2, q3⟩ := Blk.rules hP3
                by_cases hlong : 16000 < (o).length
                · have hd := HE.out
                  rw [if_pos hlong] at hd
                  have hjr : joinR l = ([], 14, -1) := by unfold joinR; rw [← hd]
                  have HF := Lib.hid hjr
                  have c1 : (16000 : Int) < ((o).length : Int) := by omega
                  clear hd hjr
                  go_wp2_with fail
                  rw [HF.out]
                  have hPz := (Blk.set_ hP3 0 (.int .i64 14)).set_ 1 (.int .i64 (-1))
                  exact ret_tmp_blk rfl rfl hPz _ Tryd.underlying25 rfl (by kernel_rfl) rfl _ rfl ⟨rfl, (Below.setCell hb3 (p := ⟨_, 0, none⟩) (Nat.le_refl _) _).setCell (p := ⟨_, 1, none⟩) (Nat.le_refl _) _⟩
                · have hd := HE.out
                  rw [if_neg hlong] at hd
                  have HF := Lib.hid hd
                  have c1 : ¬ (16000 : Int) < ((o).length : Int) := by omega
                  clear hd
                  go_wp2_with fail
                  go_roundw
                  case rel => exact ⟨k + 1, _, _, _, by omega, by go_num, by go_num, rfl, hB3, hP3, hb3, by omega, HF.out, by omega, by omega⟩
                  case measure => simp [RowKit.intOf]; omega
    · have hd := HJ.out
      rw [List.drop_eq_nil_of_le (by omega), List.map_nil, joinF] at hd
      dsimp only at hd
      have HD := Lib.hid hd
      clear hd HJ
      go_wp2_with fail
      refine (bld_string hBr).mono ?_
      rintro e w2 ⟨rfl, hB2, hbb⟩
      have hP2 := hPr.below hbb (Nat.lt_succ_self _)
      have hb2 := hbr.trans (hbb.mono (Nat.le_succ _))
      clear hBr hPr hbr hbb
      go_wp2_with fail
      refine (scan_all out w2 (by omega) (he.keepB hb2)).mono ?_
      rintro e w3 ⟨hbb, hpost⟩
      have hB3 := hB2.belowS hbb
      have hP3 := hP2.belowS hbb
      have hb3 := below_then hb2 hbb hb2.size
      have hr3 := hr.keepB hb3
      clear hB2 hP2 hb2
      obtain ⟨R, hR⟩ : ∃ R, scanT out = R := ⟨_, rfl⟩
      rw [hR] at hpost
      have HR := Lib.hid hR
      clear hR
      have hPlt := hP3.lt
      have hBlt := hB3.lt
      rcases R with ⟨ce, ie⟩ | m
      · have hce := HZ.out out HD.out.symm ce ie HR.out
        have hcb : (ce == 0) = false := by simpa using hce
        obtain rfl := hpost
        have hjr : joinR l = ([], 6, -1) := by unfold joinR; rw [← HD.out]; dsimp only; rw [HR.out]
        have HF := Lib.hid hjr
        clear hjr hce
        have hP4 := hP3.alloc (.cells #[.int .i64 ce, .int .i64 ie] 25)
        have hb4 := hb3.alloc hb3.size (.cells #[.int .i64 ce, .int .i64 ie] 25)
        obtain ⟨q1, q2, q3⟩ := hP3.rules
        unfold flt
        go_wp2_with fail
        rw [HF.out]
        have hPz := ((hP3.set_ 0 (.int .i64 6)).set_ 1 (.int .i64 (-1))).alloc (.cells #[.int .i64 ce, .int .i64 ie] 25)
        exact ret_tmp_blk rfl rfl hPz _ Tryd.underlying25 rfl (by kernel_rfl) rfl _ rfl ⟨rfl, ((hb3.setCell (p := ⟨w.heap.size, 0, none⟩) (Nat.le_refl _) _).setCell (p := ⟨w.heap.size, 1, none⟩) (Nat.le_refl _) _).alloc (by simpa using hb3.size) _⟩
      · obtain ⟨vt, rfl, hown⟩ := hpost
        obtain ⟨A2, c2, rfl, _, _⟩ := own_form hown
        have hrm := Row.of_own hown
        have hml : m.length ≤ 9223372036854775807 := by
          rcases hown.2 with ⟨_, h0⟩ | ⟨_, cap, _, _, _, _, h1, h2, _⟩
          · omega
          · unfold maxLen at h2; omega
        have hP4 := hP3.alloc (.cells #[.int .i64 0, .int .i64 0] 25)
        have hb4 := hb3.alloc hb3.size (.cells #[.int .i64 0, .int .i64 0] 25)
        have hB4 : Bld (w3.alloc (.cells #[.int .i64 0, .int .i64 0] 25)) (w.heap.size + 1) out := hB3.belowS ((Below.refl _ w3).alloc (Nat.le_refl _) _)
        have hr4 := hr3.keepB ((Below.refl _ w3).alloc (Nat.le_refl _) (.cells #[.int .i64 0, .int .i64 0] 25))
        have hrm4 := hrm.keepB ((Below.refl _ w3).alloc (Nat.le_refl _) (.cells #[.int .i64 0, .int .i64 0] 25))
        obtain ⟨q1, q2, q3⟩ := hP3.rules
        unfold flt
        go_wp2_with fail
        refine (equal_any _ _ _ _ l m _ (by omega) hml hr4 hrm4).mono ?_
        rintro e w5 ⟨rfl, hbb5⟩
        have hB5 := hB4.belowS hbb5
        have hP5 := hP4.belowS hbb5
        have hb5 := below_then hb4 hbb5 hb4.size
        clear hB3 hP3 hB4 hP4 hb4 hbb5 hr3 hr4 hrm hrm4 hown hbb q1 q2 q3
        obtain ⟨q1, q2, q3⟩ := hP5.rules
        cases hq : sameL l m
        · have hjr : joinR l = ([], 6, -1) := by unfold joinR; rw [← HD.out]; dsimp only; rw [HR.out]; dsimp only; rw [hq]; rfl
          have HF := Lib.hid hjr
          clear hjr hq
          go_wp2_with fail
          rw [HF.out]
          have hPz := (hP5.set_ 0 (.int .i64 6)).set_ 1 (.int .i64 (-1))
          exact ret_tmp_blk rfl rfl hPz _ Tryd.underlying25 rfl (by kernel_rfl) rfl _ rfl ⟨rfl, (hb5.setCell (p := ⟨w.heap.size, 0, none⟩) (Nat.le_refl _) _).setCell (p := ⟨w.heap.size, 1, none⟩) (Nat.le_refl _) _⟩
        · have hjr : joinR l = (out, 0, 0) := by unfold joinR; rw [← HD.out]; dsimp only; rw [HR.out]; dsimp only; rw [hq]; rfl
          have HF := Lib.hid hjr
          clear hjr hq
          go_wp2_with fail
          refine (bld_string hB5).mono ?_
          rintro e w6 ⟨rfl, hB6, hbb⟩
          have hP6 := hP5.below hbb (Nat.lt_succ_self _)
          have hb6 := hb5.trans (hbb.mono (Nat.le_succ _))
          clear hP5 hb5 hbb q1 q2 q3
          obtain ⟨q1, q2, q3⟩ := hP6.rules
          go_wp2_with fail
          rw [HF.out]
          have hPz := (hP6.set_ 0 (.int .i64 0)).set_ 1 (.int .i64 0)
          exact ret_tmp_blk rfl rfl hPz _ Tryd.underlying25 rfl (by kernel_rfl) rfl _ rfl ⟨rfl, (hb6.setCell (p := ⟨w.heap.size, 0, none⟩) (Nat.le_refl _) _).setCell (p := ⟨w.heap.size, 1, none⟩) (Nat.le_refl _) _⟩

end Go.Proofs.YtjoeojdciogcgaaDoor
