/- The reference's Joined: the text that tokens are joined to. Nothing is claimed here. -/
import Derived.Test.YtjoeojdciogcgaaDoorRefTl
import Derived.Test.YtjoeojdciogcgaaDoorTokW
namespace Go.Proofs.YtjoeojdciogcgaaDoor
open Go.RowKit Go.Shelf Go.Lib Go.Maps Go.Sort
set_option linter.unusedVariables false

/-- what holds between the rounds -/
def GRel (l : List Tok) (w : World) (tx lv fr i : Value) (wr : World) : Prop :=
  ∃ (k : Nat) (v : Int) (f : Bool) (out : List UInt8), k ≤ l.length ∧ i = .int .i64 (k : Int) ∧ tx = .string ⟨out.toArray⟩ ∧ lv = .int .i64 v ∧ fr = .bool f ∧ Blk wr w.heap.size 25 #[.int .i64 0, .int .i64 0] ∧ Below w.heap.size w wr ∧ out.length ≤ 16000 ∧ joinF ⟨v, f, out⟩ ((l.drop k).map kt) = joined (l.map kt) ∧ -(k : Int) ≤ v ∧ v ≤ k
theorem rep_two (o : List UInt8) (j : Nat) : o ++ List.replicate (2 * j) 32 ++ [32, 32] = o ++ List.replicate (2 * (j + 1)) 32 := by
  rw [List.append_assoc, show 2 * (j + 1) = 2 * j + 2 by omega, ← List.replicate_append_replicate]
  rfl

set_option maxRecDepth 100000 in
set_option maxHeartbeats 8000000 in
theorem joined_any (A : Option Addr) (c : Nat) (l : List Tok) (w : World) (hl : l.length ≤ 5000000) (ht : ∀ t ∈ l, t.text.length ≤ 100000000) (hr : Row w A (l.flatMap tokc)) (hT : Tabs w) (hm : Lim w) (hz : ∀ u, joined (l.map kt) = some u → ∀ c i, scanT u = .error (c, i) → c ≠ 0) :
    Calls Tryd.prog 10 #[.slice A l.length c] w (JPost w (joinR l)) := by
  have hb0 := (Below.refl w.heap.size w).alloc (Nat.le_refl _) (.cells #[.int .i64 0, .int .i64 0] 25)
  have hP := Blk.new w 25 #[.int .i64 0, .int .i64 0]
  have HZ := Lib.hid hz
  clear hz
  go_enter Tryd.func10, Tryd.ntmps10
  go_wp2_with fail
  go_loopw [4, 5, 6, 16] (fun tx lv fr i wr => GRel l w tx lv fr i wr) (fun _ _ _ i _ => l.length - (RowKit.intOf i).toNat)
  case atStart => exact ⟨0, 0, true, [], Nat.zero_le _, rfl, rfl, rfl, rfl, hP, hb0, by simp, rfl, by simp, by simp⟩
  case round =>
    obtain ⟨k, v, f, out, hk, rfl, rfl, rfl, rfl, hPr, hbr, hout, hj, hv1, hv2⟩ := hrel
    have HJ := Lib.hid hj
    clear hj hP hb0
    by_cases hlt : k < l.length
    · obtain ⟨b, off, ⟨kd, tx, ln, co⟩, rfl, had, H1, a1, a2, a3, a4⟩ := (hr.keepB hbr).tok hlt
      have htt : tx.length ≤ 100000000 := ht _ (List.mem_of_getElem? H1.out)
      dsimp only at a1 a2 a3 a4
      have i1 : (k : Int) < l.length := by omega
      have hd := HJ.out
      rw [drop_tok H1.out, joinF] at hd
      dsimp only at hd
      have HD := Lib.hid hd
      clear hd HJ
      by_cases h2 : kd = 2
      · subst h2
        have hs : jstep ⟨v, f, out⟩ 2 tx = ⟨v + 1, f, out⟩ := rfl
        have hb1 := hbr.alloc hbr.size (.cells #[.int .i64 (2), .string ⟨tx.toArray⟩, .int .i64 ln, .int .i64 co] 32)
        have hP1 := hPr.alloc (.cells #[.int .i64 (2), .string ⟨tx.toArray⟩, .int .i64 ln, .int .i64 co] 32)
        have hT1 := Blk.new wr 32 #[.int .i64 (2), .string ⟨tx.toArray⟩, .int .i64 ln, .int .i64 co]
        obtain ⟨w1, hw1⟩ : ∃ w1, wr.alloc (.cells #[.int .i64 (2), .string ⟨tx.toArray⟩, .int .i64 ln, .int .i64 co] 32) = w1 := ⟨_, rfl⟩
        rw [hw1] at hP1 hT1 hb1
        obtain ⟨r1, r2, r3⟩ := hT1.rules
        have hd := HD.out
        rw [hs] at hd
        dsimp only at hd
        rw [if_neg (by omega)] at hd
        have HF := Lib.hid hd
        clear hd HD
        have c1 : ¬ (16000 : Int) < (out.length : Int) := by omega
        go_wp2_with fail
        clear hw1 hPr hbr a1 a2 a3 a4
        go_roundw
        case rel => exact ⟨k + 1, _, _, _, by omega, by go_num, rfl, by go_num, rfl, hP1, hb1, by omega, HF.out, by omega, by omega⟩
        case measure => simp [RowKit.intOf]; omega
      · by_cases h3 : kd = 3
        · subst h3
          have hs : jstep ⟨v, f, out⟩ 3 tx = ⟨v - 1, f, out⟩ := rfl
          have hb1 := hbr.alloc hbr.size (.cells #[.int .i64 (3), .string ⟨tx.toArray⟩, .int .i64 ln, .int .i64 co] 32)
          have hP1 := hPr.alloc (.cells #[.int .i64 (3), .string ⟨tx.toArray⟩, .int .i64 ln, .int .i64 co] 32)
          have hT1 := Blk.new wr 32 #[.int .i64 (3), .string ⟨tx.toArray⟩, .int .i64 ln, .int .i64 co]
          obtain ⟨w1, hw1⟩ : ∃ w1, wr.alloc (.cells #[.int .i64 (3), .string ⟨tx.toArray⟩, .int .i64 ln, .int .i64 co] 32) = w1 := ⟨_, rfl⟩
          rw [hw1] at hP1 hT1 hb1
          obtain ⟨r1, r2, r3⟩ := hT1.rules
          have hd := HD.out
          rw [hs] at hd
          dsimp only at hd
          rw [if_neg (by omega)] at hd
          have HF := Lib.hid hd
          clear hd HD
          have c1 : ¬ (16000 : Int) < (out.length : Int) := by omega
          go_wp2_with fail
          clear hw1 hPr hbr a1 a2 a3 a4
          go_roundw
          case rel => exact ⟨k + 1, _, _, _, by omega, by go_num, rfl, by go_num, rfl, hP1, hb1, by omega, HF.out, by omega, by omega⟩
          case measure => simp [RowKit.intOf]; omega
        · by_cases h1 : kd = 1
          · subst h1
            have hs : jstep ⟨v, f, out⟩ 1 tx = ⟨v, true, out ++ [10]⟩ := rfl
            have hb1 := hbr.alloc hbr.size (.cells #[.int .i64 (1), .string ⟨tx.toArray⟩, .int .i64 ln, .int .i64 co] 32)
            have hP1 := hPr.alloc (.cells #[.int .i64 (1), .string ⟨tx.toArray⟩, .int .i64 ln, .int .i64 co] 32)
            have hT1 := Blk.new wr 32 #[.int .i64 (1), .string ⟨tx.toArray⟩, .int .i64 ln, .int .i64 co]
            obtain ⟨w1, hw1⟩ : ∃ w1, wr.alloc (.cells #[.int .i64 (1), .string ⟨tx.toArray⟩, .int .i64 ln, .int .i64 co] 32) = w1 := ⟨_, rfl⟩
            rw [hw1] at hP1 hT1 hb1
            obtain ⟨r1, r2, r3⟩ := hT1.rules
            go_upto_region 23 with fail
            clear hw1 hPr hbr a1 a2 a3 a4
            rw [cat_any]
            obtain ⟨o, hoo⟩ : ∃ o, out ++ [10] = o := ⟨_, rfl⟩
            rw [hoo] at hs ⊢
            clear hoo r1 r2 r3 hT1
            have hd := HD.out
            rw [hs] at hd
            dsimp only at hd
            have HE := Lib.hid hd
            clear hd HD
            by_cases hlong : 16000 < o.length
            · have hd := HE.out
              rw [if_pos hlong] at hd
              have hjr : joinR l = ([], 14, -1) := by unfold joinR; rw [← hd]
              have HF := Lib.hid hjr
              have c1 : (16000 : Int) < (o.length : Int) := by omega
              clear hd hjr
              go_wp2_with fail
              refine (at_any 14 (-1) _).mono ?_
              rintro e w5 ⟨rfl, hb5⟩
              have hP5 := hP1.belowS hb5
              have hb6 := below_then hb1 hb5 hb1.size
              clear hP1 hb1 hb5
              obtain ⟨q1, q2, q3⟩ := hP5.rules
              unfold flt
              go_wp2_with fail
              rw [HF.out]
              have hPz := (hP5.set_ 0 (.int .i64 14)).set_ 1 (.int .i64 (-1))
              exact ret_tmp_blk rfl rfl hPz _ Tryd.underlying25 rfl (by kernel_rfl) rfl _ rfl ⟨rfl, (hb6.setCell (p := ⟨_, 0, none⟩) (Nat.le_refl _) _).setCell (p := ⟨_, 1, none⟩) (Nat.le_refl _) _⟩
            · have hd := HE.out
              rw [if_neg hlong] at hd
              have HF := Lib.hid hd
              have c1 : ¬ (16000 : Int) < (o.length : Int) := by omega
              clear hd
              go_wp2_with fail
              go_roundw
              case rel => exact ⟨k + 1, _, _, _, by omega, by go_num, rfl, by go_num, rfl, hP1, hb1, by omega, HF.out, by omega, by omega⟩
              case measure => simp [RowKit.intOf]; omega
          · by_cases h0 : kd = 0
            · subst h0
              have hs : jstep ⟨v, f, out⟩ 0 tx = ⟨v, f, out⟩ := rfl
              have hb1 := hbr.alloc hbr.size (.cells #[.int .i64 (0), .string ⟨tx.toArray⟩, .int .i64 ln, .int .i64 co] 32)
              have hP1 := hPr.alloc (.cells #[.int .i64 (0), .string ⟨tx.toArray⟩, .int .i64 ln, .int .i64 co] 32)
              have hT1 := Blk.new wr 32 #[.int .i64 (0), .string ⟨tx.toArray⟩, .int .i64 ln, .int .i64 co]
              obtain ⟨w1, hw1⟩ : ∃ w1, wr.alloc (.cells #[.int .i64 (0), .string ⟨tx.toArray⟩, .int .i64 ln, .int .i64 co] 32) = w1 := ⟨_, rfl⟩
              rw [hw1] at hP1 hT1 hb1
              obtain ⟨r1, r2, r3⟩ := hT1.rules
              have hd := HD.out
              rw [hs] at hd
              dsimp only at hd
              rw [if_neg (by omega)] at hd
              have HF := Lib.hid hd
              clear hd HD
              have c1 : ¬ (16000 : Int) < (out.length : Int) := by omega
              go_wp2_with fail
              clear hw1 hPr hbr a1 a2 a3 a4
              go_roundw
              case rel => exact ⟨k + 1, _, _, _, by omega, by go_num, rfl, by go_num, rfl, hP1, hb1, by omega, HF.out, by omega, by omega⟩
              case measure => simp [RowKit.intOf]; omega
            · have e2 : (kd == 2) = false := by simpa using h2
              have e3 : (kd == 3) = false := by simpa using h3
              have e1 : (kd == 1) = false := by simpa using h1
              have e0 : (kd == 0) = false := by simpa using h0
              have hs : jstep ⟨v, f, out⟩ kd tx = ⟨v, false, out ++ ((if f then List.replicate (2 * v.toNat) 32 else [32]) ++ tx)⟩ := by
                unfold jstep; rw [if_neg h2, if_neg h3, if_neg h1, if_neg h0]
              clear h0 h1 h2 h3
              have hb1 := hbr.alloc hbr.size (.cells #[.int .i64 (kd), .string ⟨tx.toArray⟩, .int .i64 ln, .int .i64 co] 32)
              have hP1 := hPr.alloc (.cells #[.int .i64 (kd), .string ⟨tx.toArray⟩, .int .i64 ln, .int .i64 co] 32)
              have hT1 := Blk.new wr 32 #[.int .i64 (kd), .string ⟨tx.toArray⟩, .int .i64 ln, .int .i64 co]
              obtain ⟨w1, hw1⟩ : ∃ w1, wr.alloc (.cells #[.int .i64 (kd), .string ⟨tx.toArray⟩, .int .i64 ln, .int .i64 co] 32) = w1 := ⟨_, rfl⟩
              rw [hw1] at hP1 hT1 hb1
              obtain ⟨r1, r2, r3⟩ := hT1.rules
              cases f
              · rw [if_neg (by decide)] at hs
                go_wp2_with fail
                clear hw1 hPr hbr a1 a2 a3 a4
                go_loop [4, 9] (fun tx' kk => tx' = .string ⟨(out ++ [32]).toArray⟩ ∧ kk = .int .i64 0) (fun _ _ => 0)
                case atStart => exact ⟨by rw [cat_any], rfl⟩
                case round =>
                  obtain ⟨rfl, rfl⟩ := hrel
                  go_upto_region 23 with fail
                  rw [← List.append_assoc] at hs
                  rw [cat_any]
                  obtain ⟨o, hoo⟩ : ∃ o, out ++ [32] ++ tx = o := ⟨_, rfl⟩
                  rw [hoo] at hs ⊢
                  clear hoo r1 r2 r3 hT1
                  have hd := HD.out
                  rw [hs] at hd
                  dsimp only at hd
                  have HE := Lib.hid hd
                  clear hd HD
                  by_cases hlong : 16000 < o.length
                  · have hd := HE.out
                    rw [if_pos hlong] at hd
                    have hjr : joinR l = ([], 14, -1) := by unfold joinR; rw [← hd]
                    have HF := Lib.hid hjr
                    have c1 : (16000 : Int) < (o.length : Int) := by omega
                    clear hd hjr
                    go_wp2_with fail
                    refine (at_any 14 (-1) _).mono ?_
                    rintro e w5 ⟨rfl, hb5⟩
                    have hP5 := hP1.belowS hb5
                    have hb6 := below_then hb1 hb5 hb1.size
                    clear hP1 hb1 hb5
                    obtain ⟨q1, q2, q3⟩ := hP5.rules
                    unfold flt
                    go_wp2_with fail
                    rw [HF.out]
                    have hPz := (hP5.set_ 0 (.int .i64 14)).set_ 1 (.int .i64 (-1))
                    exact ret_tmp_blk rfl rfl hPz _ Tryd.underlying25 rfl (by kernel_rfl) rfl _ rfl ⟨rfl, (hb6.setCell (p := ⟨_, 0, none⟩) (Nat.le_refl _) _).setCell (p := ⟨_, 1, none⟩) (Nat.le_refl _) _⟩
                  · have hd := HE.out
                    rw [if_neg hlong] at hd
                    have HF := Lib.hid hd
                    have c1 : ¬ (16000 : Int) < (o.length : Int) := by omega
                    clear hd
                    go_wp2_with fail
                    go_roundw
                    case rel => exact ⟨k + 1, _, _, _, by omega, by go_num, rfl, by go_num, rfl, hP1, hb1, by omega, HF.out, by omega, by omega⟩
                    case measure => simp [RowKit.intOf]; omega
              · rw [if_pos rfl] at hs
                go_wp2_with fail
                clear hw1 hPr hbr a1 a2 a3 a4
                go_loop [4, 9] (fun tx' kk => ∃ j : Nat, tx' = .string ⟨(out ++ List.replicate (2 * j) 32).toArray⟩ ∧ kk = .int .i64 (j : Int) ∧ j ≤ v.toNat) (fun _ kk => v.toNat - (RowKit.intOf kk).toNat)
                case atStart => exact ⟨0, by simp, rfl, Nat.zero_le _⟩
                case round =>
                  obtain ⟨j, rfl, rfl, hjv⟩ := hrel
                  by_cases hjl : j < v.toNat
                  · have dj : decide ((j : Int) < v) = true := decide_eq_true (by omega)
                    go_wp2_with fail
                    go_round
                    case rel => exact ⟨j + 1, by rw [cat_any, rep_two], by go_num, by omega⟩
                    case measure => simp [RowKit.intOf]; omega
                  · have dj : decide ((j : Int) < v) = false := decide_eq_false (by omega)
                    obtain rfl : j = v.toNat := by omega
                    go_upto_region 23 with fail
                    rw [← List.append_assoc] at hs
                    rw [cat_any]
                    obtain ⟨o, hoo⟩ : ∃ o, out ++ List.replicate (2 * v.toNat) 32 ++ tx = o := ⟨_, rfl⟩
                    rw [hoo] at hs ⊢
                    clear hoo r1 r2 r3 hT1
                    have hd := HD.out
                    rw [hs] at hd
                    dsimp only at hd
                    have HE := Lib.hid hd
                    clear hd HD
                    by_cases hlong : 16000 < o.length
                    · have hd := HE.out
                      rw [if_pos hlong] at hd
                      have hjr : joinR l = ([], 14, -1) := by unfold joinR; rw [← hd]
                      have HF := Lib.hid hjr
                      have c1 : (16000 : Int) < (o.length : Int) := by omega
                      clear hd hjr
                      go_wp2_with fail
                      refine (at_any 14 (-1) _).mono ?_
                      rintro e w5 ⟨rfl, hb5⟩
                      have hP5 := hP1.belowS hb5
                      have hb6 := below_then hb1 hb5 hb1.size
                      clear hP1 hb1 hb5
                      obtain ⟨q1, q2, q3⟩ := hP5.rules
                      unfold flt
                      go_wp2_with fail
                      rw [HF.out]
                      have hPz := (hP5.set_ 0 (.int .i64 14)).set_ 1 (.int .i64 (-1))
                      exact ret_tmp_blk rfl rfl hPz _ Tryd.underlying25 rfl (by kernel_rfl) rfl _ rfl ⟨rfl, (hb6.setCell (p := ⟨_, 0, none⟩) (Nat.le_refl _) _).setCell (p := ⟨_, 1, none⟩) (Nat.le_refl _) _⟩
                    · have hd := HE.out
                      rw [if_neg hlong] at hd
                      have HF := Lib.hid hd
                      have c1 : ¬ (16000 : Int) < (o.length : Int) := by omega
                      clear hd
                      go_wp2_with fail
                      go_roundw
                      case rel => exact ⟨k + 1, _, _, _, by omega, by go_num, rfl, by go_num, rfl, hP1, hb1, by omega, HF.out, by omega, by omega⟩
                      case measure => simp [RowKit.intOf]; omega
    · have hd := HJ.out
      rw [List.drop_eq_nil_of_le (by omega), List.map_nil, joinF] at hd
      dsimp only at hd
      have HD := Lib.hid hd
      clear hd HJ
      go_wp2_with fail
      refine (tokens_any out wr (by omega) (hT.keepB hbr) (hm.keepB hbr)).mono ?_
      rintro e w3 ⟨hbb, hpost⟩
      have hP3 := hPr.belowS hbb
      have hb3 := below_then hbr hbb hbr.size
      have hr3 := hr.keepB hb3
      clear hPr hbr
      obtain ⟨R, hR⟩ : ∃ R, scanT out = R := ⟨_, rfl⟩
      rw [hR] at hpost
      have HR := Lib.hid hR
      clear hR
      have hPlt := hP3.lt
      rcases R with ⟨ce, ie⟩ | m
      · have hce := HZ.out out HD.out.symm ce ie HR.out
        have hcb : (ce == 0) = false := by simpa using hce
        obtain rfl := hpost
        have hjr : joinR l = ([], 6, -1) := by unfold joinR; rw [← HD.out]; dsimp only; rw [HR.out]
        have HF := Lib.hid hjr
        clear hjr hce
        have hP4 := hP3.alloc (.cells #[.int .i64 ce, .int .i64 ie] 25)
        have hb4 := hb3.alloc hb3.size (.cells #[.int .i64 ce, .int .i64 ie] 25)
        unfold flt
        go_wp2_with fail
        go_loop [12, 13] (fun sm i => sm = .bool false ∧ i = .int .i64 0) (fun _ _ => 0)
        case atStart => exact ⟨rfl, rfl⟩
        case round =>
          obtain ⟨rfl, rfl⟩ := hrel
          go_wp2_with fail
          refine (at_any 6 (-1) _).mono ?_
          rintro e w5 ⟨rfl, hb5⟩
          have hP5 := hP4.belowS hb5
          have hb6 := below_then hb4 hb5 hb4.size
          clear hP4 hb4 hb5 hP3 hb3
          obtain ⟨q1, q2, q3⟩ := hP5.rules
          unfold flt
          go_wp2_with fail
          rw [HF.out]
          have hPz := (hP5.set_ 0 (.int .i64 6)).set_ 1 (.int .i64 (-1))
          exact ret_tmp_blk rfl rfl hPz _ Tryd.underlying25 rfl (by kernel_rfl) rfl _ rfl ⟨rfl, (hb6.setCell (p := ⟨_, 0, none⟩) (Nat.le_refl _) _).setCell (p := ⟨_, 1, none⟩) (Nat.le_refl _) _⟩
      · obtain ⟨vt, rfl, hown⟩ := hpost
        obtain ⟨A2, c2, rfl, _, _⟩ := own_form hown
        have hrm := Row.of_own hown
        have hml : m.length ≤ 9223372036854775807 := by
          rcases hown.2 with ⟨_, h0⟩ | ⟨_, cap, _, _, _, _, h1, h2, _⟩
          · omega
          · unfold maxLen at h2; omega
        have hP4 := hP3.alloc (.cells #[.int .i64 0, .int .i64 0] 25)
        have hb4 := hb3.alloc hb3.size (.cells #[.int .i64 0, .int .i64 0] 25)
        have hr4 := hr3.keepB ((Below.refl _ w3).alloc (Nat.le_refl _) (.cells #[.int .i64 0, .int .i64 0] 25))
        have hrm4 := hrm.keepB ((Below.refl _ w3).alloc (Nat.le_refl _) (.cells #[.int .i64 0, .int .i64 0] 25))
        have hjr : joinR l = if sameL l m then (out, 0, 0) else ([], 6, -1) := by unfold joinR; rw [← HD.out]; dsimp only; rw [HR.out]
        have HF := Lib.hid hjr
        clear hjr hP3 hb3 hr3 hrm hown hbb
        obtain ⟨b0, hb0⟩ : ∃ b0 : Bool, ((m.length : Int) == (l.length : Int)) = b0 := ⟨_, rfl⟩
        have HB0 := Lib.hid hb0
        unfold flt
        go_wp2_with fail
        obtain ⟨w4, hw4⟩ : ∃ w4, w3.alloc (.cells #[.int .i64 0, .int .i64 0] 25) = w4 := ⟨_, rfl⟩
        rw [hw4] at hP4 hb4 hr4 hrm4 ⊢
        clear hb0 hw4
        go_loopw [12, 13] (fun sm i wr => ∃ (j : Nat) (b : Bool), sm = .bool b ∧ i = .int .i64 (j : Int) ∧ Below w4.heap.size w4 wr ∧ Hid (sameL l m = (b && sameL (l.drop j) (m.drop j))) ∧ Hid (b = true → m.length = l.length) ∧ j ≤ m.length) (fun _ i _ => m.length - (RowKit.intOf i).toNat)
        case atStart =>
          refine ⟨0, b0, rfl, rfl, Below.refl _ _, Lib.hid ?_, Lib.hid ?_, Nat.zero_le _⟩
          · cases b0
            · cases hq : sameL l m
              · rfl
              · have := sameL_len hq
                have h0 := HB0.out
                rw [this] at h0
                simp at h0
            · simp
          · rintro rfl
            have h0 := HB0.out
            rw [beq_iff_eq] at h0
            omega
        case round =>
          obtain ⟨j, b, rfl, rfl, hb5, HS, HL, hjm⟩ := hrel
          have hP5 := hP4.belowS hb5
          have hb6 := below_then hb4 hb5 hb4.size
          obtain ⟨q1, q2, q3⟩ := hP5.rules
          cases b
          · have hF : joinR l = ([], 6, -1) := by rw [HF.out, HS.out]; rfl
            have HF2 := Lib.hid hF
            clear hF
            go_wp2_with fail
            refine (at_any 6 (-1) _).mono ?_
            rintro e w7 ⟨rfl, hb7⟩
            have hP7 := hP5.belowS hb7
            have hb8 := below_then hb6 hb7 hb6.size
            clear hP5 hb5 hb6 hb7 q1 q2 q3
            obtain ⟨q1, q2, q3⟩ := hP7.rules
            unfold flt
            go_wp2_with fail
            rw [HF2.out]
            have hPz := (hP7.set_ 0 (.int .i64 6)).set_ 1 (.int .i64 (-1))
            exact ret_tmp_blk rfl rfl hPz _ Tryd.underlying25 rfl (by kernel_rfl) rfl _ rfl ⟨rfl, (hb8.setCell (p := ⟨_, 0, none⟩) (Nat.le_refl _) _).setCell (p := ⟨_, 1, none⟩) (Nat.le_refl _) _⟩
          · by_cases hlt2 : j < m.length
            · have dj : decide ((j : Int) < (m.length : Int)) = true := decide_eq_true (by omega)
              have hlt3 : j < l.length := by rw [← HL.out rfl]; exact hlt2
              have dj2 : decide ((j : Int) < (l.length : Int)) = true := decide_eq_true (by omega)
              obtain ⟨b1, o1, s, rfl, had1, H1, a1, a2, a3, a4⟩ := (hr4.keepB hb5).tok hlt3
              obtain ⟨b2, o2, t, rfl, had2, H2, c1, c2, c3, c4⟩ := (hrm4.keepB hb5).tok hlt2
              have hsa := sameL_at H1.out H2.out
              have HSA := Lib.hid hsa
              have i1 : (j : Int) < m.length := by omega
              have i2 : (j : Int) < l.length := by omega
              have HTT := Lib.hid (show sameT s t = (s.kind == t.kind && s.text == t.text) from rfl)
              clear hsa hr4 hrm4 hP5 q1 q2 q3
              by_cases hk : t.kind = s.kind
              · rw [hk] at c1
                have HK := Lib.hid hk
                have e1 : (s.kind == s.kind) = true := by simp
                clear hk
                by_cases hx : t.text = s.text
                · rw [hx] at c2
                  have HX := Lib.hid hx
                  have e2 : (s.text == s.text) = true := by simp
                  clear hx
                  go_wp2_with fail
                  go_quiet (fail)
                  go_wp2_with fail
                  go_roundw
                  case rel => exact ⟨j + 1, true, rfl, by go_num, below_drewN hb5 _, Lib.hid (by rw [HS.out, HSA.out, HTT.out, HK.out, HX.out]; simp), Lib.hid (fun _ => HL.out trivial), by omega⟩
                  case measure => simp [RowKit.intOf]; omega
                · have e2 : (t.text == s.text) = false := by rw [beq_eq_false_iff_ne]; exact hx
                  have HX : Hid ((s.text == t.text) = false) := Lib.hid (by rw [beq_eq_false_iff_ne]; exact fun e => hx e.symm)
                  clear hx
                  go_wp2_with fail
                  go_quiet (fail)
                  go_wp2_with fail
                  go_roundw
                  case rel => exact ⟨j + 1, false, rfl, by go_num, below_drewN hb5 _, Lib.hid (by rw [HS.out, HSA.out, HTT.out, HX.out]; simp), Lib.hid (by simp), by omega⟩
                  case measure => simp [RowKit.intOf]; omega
              · have e1 : (t.kind == s.kind) = false := by rw [beq_eq_false_iff_ne]; exact hk
                have HK : Hid ((s.kind == t.kind) = false) := Lib.hid (by rw [beq_eq_false_iff_ne]; exact fun e => hk e.symm)
                clear hk
                go_wp2_with fail
                go_quiet (fail)
                go_wp2_with fail
                go_roundw
                case rel => exact ⟨j + 1, false, rfl, by go_num, below_drewN hb5 _, Lib.hid (by rw [HS.out, HSA.out, HTT.out, HK.out]; simp), Lib.hid (by simp), by omega⟩
                case measure => simp [RowKit.intOf]; omega
            · have dj : decide ((j : Int) < (m.length : Int)) = false := decide_eq_false (by omega)
              have hF : joinR l = (out, 0, 0) := by
                rw [HF.out, HS.out, List.drop_eq_nil_of_le (by have := HL.out rfl; omega), List.drop_eq_nil_of_le (by omega), sameL]
                rfl
              have HF2 := Lib.hid hF
              clear hF
              go_wp2_with fail
              rw [HF2.out]
              have hPz := (hP5.set_ 0 (.int .i64 0)).set_ 1 (.int .i64 0)
              exact ret_tmp_blk rfl rfl hPz _ Tryd.underlying25 rfl (by kernel_rfl) rfl _ rfl ⟨rfl, (hb6.setCell (p := ⟨_, 0, none⟩) (Nat.le_refl _) _).setCell (p := ⟨_, 1, none⟩) (Nat.le_refl _) _⟩

end Go.Proofs.YtjoeojdciogcgaaDoor
