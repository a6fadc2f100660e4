/- The law on tables of catches: the walk. -/
import Derived.Test.YtionmlkefheocaaCatP
namespace Go.Proofs.Ytionmlkefheocaa
open Go.RowKit
set_option linter.unusedVariables false

theorem unpackC_at (A : Option Addr) (c : Nat) (b : List Int) (l : List Catch) (x y : Int) (w : World) (hl : b.length ≤ 10000000) (hby : ∀ x ∈ b, 0 ≤ x ∧ x ≤ 255) (hA : Row w A (bcs b)) (h : Hid (unpackC b = (l, (x, y)))) :
    Calls Try.prog 18 #[.slice A b.length c] w fun e w' => ∃ A' c', e = .returned (.tuple #[.slice A' l.length c', .agg #[.int .i64 x, .int .i64 y]]) ∧ Row w' A' (l.flatMap ctc) ∧ Below w.heap.size w w' := by
  have := unpackCatches_any A c b w hl hby hA
  rw [h.out] at this
  exact this


set_option maxRecDepth 100000 in
set_option maxHeartbeats 2000000 in
theorem lawCatches_bad (A : Option Addr) (c : Nat) (l : List Catch) (a fc fi : Int) (w : World) (hl : l.length ≤ 9223372036854775807) (hm : Row w A (l.flatMap ctc)) (hf : Hid (catchesFault l = (fc, fi))) (hfc : (fc == 0) = false) (hfc2 : (fc != 0) = true) (hfc3 : Hid (fc ≠ 0)) :
    Calls Try.prog 5 #[.slice A l.length c, .int .i64 a] w fun e w' => e = .returned (.bool true) ∧ Below w.heap.size w w' := by
  go_enter Try.func5, Try.ntmps5
  go_wp2_with fail
  refine (find_any _ _ _ a fc fi _ hl hm hf 0 (show Hid _ from .inl ⟨hfc3.out, rfl⟩)).mono ?_
  rintro e w1 ⟨rfl, hb1⟩
  have hb1' := hb1.alloc hb1.size (.cells #[.int .i64 fc, .int .i64 fi] 24)
  have HB1 := Lib.hid (Blk.new w1 24 #[.int .i64 fc, .int .i64 fi])
  go_wp2_with fail
  refine (shadowed_bad _ _ _ fc fi _ hl (hm.keepB hb1') hf hfc).mono ?_
  rintro e w2 ⟨rfl, hb2⟩
  have hb2' := below_then hb1' hb2 hb1'.size
  have hb2'' := hb2'.alloc hb2'.size (.cells #[.int .i64 fc, .int .i64 fi] 24)
  have HB2 := Lib.hid (Blk.new w2 24 #[.int .i64 fc, .int .i64 fi])
  have HB12 := Lib.hid ((HB1.out.belowS hb2).alloc (.cells #[.int .i64 fc, .int .i64 fi] 24))
  go_wp2_with fail
  refine (packCatches_bad _ _ _ fc fi _ hl (hm.keepB hb2'') hf hfc).mono ?_
  rintro e w3 ⟨rfl, hb3⟩
  have hb3' := below_then hb2'' hb3 hb2''.size
  have hb3'' := hb3'.alloc hb3'.size (.cells #[.int .i64 fc, .int .i64 fi] 24)
  have HB3 := Lib.hid (Blk.new w3 24 #[.int .i64 fc, .int .i64 fi])
  have HB13 := Lib.hid ((HB12.out.belowS hb3).alloc (.cells #[.int .i64 fc, .int .i64 fi] 24))
  have HB23 := Lib.hid ((HB2.out.belowS hb3).alloc (.cells #[.int .i64 fc, .int .i64 fi] 24))
  go_wp2_with fail
  refine (catchesFault_at _ _ _ fc fi _ hl (hm.keepB hb3'') hf).mono ?_
  rintro e w4 ⟨rfl, hb4⟩
  have hb4' := below_then hb3'' hb4 hb3''.size
  obtain ⟨p1, p2, p3⟩ := (HB13.out.belowS hb4).rules
  obtain ⟨q1, q2, q3⟩ := (HB23.out.belowS hb4).rules
  obtain ⟨r1, r2, r3⟩ := (HB3.out.belowS hb4).rules
  go_wp2_with fail
  go_ret
  exact ⟨rfl, hb4'.alloc hb4'.size _⟩

def LCRel (l : List Catch) (w : World) (v i : Value) (wr : World) : Prop :=
  ∃ (k : Nat) (d : List Int), k ≤ l.length ∧ i = .int .i64 k ∧ shGo l 0 l = d ++ shGo l k (l.drop k) ∧ d.length ≤ k ∧ wr.ownsRow w.heap.size 3 1 v d.length (ics d) ∧ Below w.heap.size w wr

def LCIn (l : List Catch) (k : Nat) (c : Catch) (X : World) (gc : Nat) (sb n : Value) (wr : World) : Prop :=
  ∃ (a : Int) (b : Bool), n = .int .i64 a ∧ sb = .bool b ∧ c.1 ≤ a ∧ a ≤ c.2.1 ∧ (b = false → ∀ x, c.1 ≤ x → x < a → findGo x 0 l ≠ (k : Int)) ∧ (b = true → ∃ x, c.1 ≤ x ∧ x < c.2.1 ∧ findGo x 0 l = (k : Int)) ∧ Below X.heap.size X wr

set_option maxRecDepth 100000 in
set_option maxHeartbeats 4000000 in
theorem lawCatches_ok (A : Option Addr) (c : Nat) (l : List Catch) (a : Int) (w : World) (hlc : l.length ≤ c) (hm : Row w A (l.flatMap ctc)) (hf : Hid (catchesFault l = (0, 0))) :
    Calls Try.prog 5 #[.slice A l.length c, .int .i64 a] w fun e w' => e = .returned (.bool true) ∧ Below w.heap.size w w' := by
  obtain ⟨hok, hl⟩ := okC_all hf.out
  have HO := Lib.hid hok
  have hpl := (packC_bd hf.out).2
  have hsl := shGo_len l l 0
  obtain ⟨i0, hi, hz0, hz1, hz2⟩ := info_parts info_int
  clear hok
  go_enter Try.func5, Try.ntmps5
  go_wp2_with fail
  refine (find_any _ _ _ a 0 0 _ (by omega) hm hf (findGo a 0 l) (show Hid _ from .inr ⟨rfl, rfl, rfl⟩)).mono ?_
  rintro e w1 ⟨rfl, hb1⟩
  have hb1' := hb1.alloc hb1.size (.cells #[.int .i64 0, .int .i64 0] 24)
  have HB1 := Lib.hid (Blk.new w1 24 #[.int .i64 0, .int .i64 0])
  go_wp2_with fail
  refine (shadowed_ok _ _ _ _ hlc (hm.keepB hb1') hf).mono ?_
  rintro e w2 ⟨As, cs, rfl, hrs, hb2⟩
  have hb2' := below_then hb1' hb2 hb1'.size
  have hb2'' := hb2'.alloc hb2'.size (.cells #[.int .i64 0, .int .i64 0] 24)
  have HB2 := Lib.hid (Blk.new w2 24 #[.int .i64 0, .int .i64 0])
  have HB12 := Lib.hid ((HB1.out.belowS hb2).alloc (.cells #[.int .i64 0, .int .i64 0] 24))
  have HR2 := Lib.hid (hrs.keepB ((Below.refl _ _).alloc (Nat.le_refl _) (.cells #[.int .i64 0, .int .i64 0] 24)))
  clear hrs
  go_wp2_with fail
  refine (packCatches_ok _ _ _ _ (hm.keepB hb2'') hf).mono ?_
  rintro e w3 ⟨Ab, cb, rfl, hrb, hb3⟩
  have hb3' := below_then hb2'' hb3 hb2''.size
  have hb3'' := hb3'.alloc hb3'.size (.cells #[.int .i64 0, .int .i64 0] 24)
  have HB3 := Lib.hid (Blk.new w3 24 #[.int .i64 0, .int .i64 0])
  have HB13 := Lib.hid ((HB12.out.belowS hb3).alloc (.cells #[.int .i64 0, .int .i64 0] 24))
  have HB23 := Lib.hid ((HB2.out.belowS hb3).alloc (.cells #[.int .i64 0, .int .i64 0] 24))
  have HR3 := Lib.hid ((HR2.out.keepB hb3).keepB ((Below.refl _ _).alloc (Nat.le_refl _) (.cells #[.int .i64 0, .int .i64 0] 24)))
  have HP3 := Lib.hid (hrb.keepB ((Below.refl _ _).alloc (Nat.le_refl _) (.cells #[.int .i64 0, .int .i64 0] 24)))
  clear hrb
  go_wp2_with fail
  refine (catchesFault_at _ _ _ 0 0 _ (by omega) (hm.keepB hb3'') hf).mono ?_
  rintro e w4 ⟨rfl, hb4⟩
  have hb4' := below_then hb3'' hb4 hb3''.size
  have hrs := HR3.out.keepB hb4
  have hrb := HP3.out.keepB hb4
  obtain ⟨p1, p2, p3⟩ := (HB13.out.belowS hb4).rules
  obtain ⟨q1, q2, q3⟩ := (HB23.out.belowS hb4).rules
  obtain ⟨r1, r2, r3⟩ := (HB3.out.belowS hb4).rules
  clear HB1 HB12 HB13 HB2 HB23 HB3 HR2 HR3 HP3 hb1 hb1' hb2 hb2' hb2'' hb3 hb3' hb3'' hb4
  have hbA := hb4'.alloc hb4'.size (.cells #[.int .i64 0, .int .i64 0] 24)
  have hbB : Below w4.heap.size w4 (w4.alloc (.cells #[.int .i64 0, .int .i64 0] 24)) := (Below.refl _ _).alloc (Nat.le_refl _) _
  go_wp2_with fail
  refine (catchAt_any A c l a _ (by omega) (hm.keepB hbA)).mono ?_
  rintro e w5 ⟨rfl, hb5⟩
  have hbA' := below_then hbA hb5 hbA.size
  have hbB' := below_then hbB hb5 hbB.size
  go_wp2_with fail
  refine (packedCatches_any A c l _ (hm.keepB hbA') hf).mono ?_
  rintro e w6 ⟨Ap, cp, rfl, hrp, hb6⟩
  have hbC := below_then hbB' hb6 hbB'.size
  go_wp2_with fail
  refine (eqBytes_any Ab Ap cb cp _ _ _ (by omega) (by omega) (hrb.keepB hbC) hrp).mono ?_
  rintro e w7 ⟨rfl, hb7⟩
  rw [decide_eq_true rfl]
  have hbD := below_then hbC hb7 hbC.size
  have hrs7 := hrs.keepB hbD
  have hrb7 := hrb.keepB hbD
  have hb7' := below_then (below_then hbA' hb6 hbA'.size) hb7 (below_then hbA' hb6 hbA'.size).size
  clear hrs hrb hbA hbB hbA' hbB' hbC hbD hb5 hb6 hb7 hrp p1 p2 p3 q1 q2 q3 r1 r2 r3 hb4'
  go_wp2_with fail
  go_loopw [12, 96] (fun v i wr => LCRel l w7 v i wr) (fun _ i _ => l.length - (intOf i).toNat)
  case atStart => exact ⟨0, [], Nat.zero_le _, rfl, rfl, by simp, World.ownsRow_nil _ _ _ _, Below.refl _ _⟩
  case round =>
    obtain ⟨k, d, hk, rfl, he, hd, hown, hbr⟩ := hrel
    have He := Lib.hid he
    clear he
    have hbo := below_then hb7' hbr hb7'.size
    have hs0 := hbr.size
    by_cases hlt : k < l.length
    · obtain ⟨bb, off, rfl, had, h1, h2, h3, h4⟩ := (hm.keepB hbo).catch_ hlt
      obtain ⟨o1, o2, o3, _, _, _, _⟩ := HO.out l[k] (List.getElem_mem hlt)
      obtain ⟨wo, hwo⟩ : ∃ wo : World, wo = wr := ⟨_, rfl⟩
      subst hwo
      obtain ⟨X, hX⟩ : ∃ X : World, X = wo.alloc (.cells #[.int .i64 l[k].1, .int .i64 l[k].2.1, .int .i64 l[k].2.2.1, .int .i64 l[k].2.2.2] 51) := ⟨_, rfl⟩
      have HX := Lib.hid hX
      have HXC := Lib.hid (show Blk X wo.heap.size 51 #[.int .i64 l[k].1, .int .i64 l[k].2.1, .int .i64 l[k].2.2.1, .int .i64 l[k].2.2.2] by rw [hX]; exact Blk.new _ _ _)
      have hXo : Below wo.heap.size wo X := by rw [hX]; exact (Below.refl _ _).alloc (Nat.le_refl _) _
      clear hX
      go_wp2_with fail
      rw [← HX.out]
      go_loopw [15, 16] (fun sb n wr => LCIn l k l[k] X wo.heap.size sb n wr) (fun _ n _ => (l[k].2.1 - intOf n).toNat)
      case atStart => exact ⟨l[k].1, false, rfl, rfl, Int.le_refl _, by omega, fun _ x h1 h2 => by omega, by simp, Below.refl _ _⟩
      case round =>
        obtain ⟨x, sb, rfl, rfl, g1, g2, g3, g4, hbi⟩ := hrel
        have G3 := Lib.hid g3
        have G4 := Lib.hid g4
        clear g3 g4
        obtain ⟨t1, t2, t3⟩ := (HXC.out.belowS hbi).rules
        by_cases hx : x < l[k].2.1
        · cases sb
          · have hbx := below_then hXo hbi hXo.size
            have hby := below_then hbo hbx hbo.size
            go_wp2_with fail
            refine (catchAt_any _ c l x _ (by omega) (hm.keepB hby)).mono ?_
            rintro e wu ⟨rfl, hbu⟩
            by_cases hfx : findGo x 0 l = (k : Int)
            · have hfb : (findGo x 0 l == (k : Int)) = true := by simpa using hfx
              have HF := Lib.hid hfx
              clear hfx
              go_wp2_with fail
              go_roundw
              case rel => exact ⟨x + 1, true, rfl, rfl, by omega, by omega, by simp, fun _ => ⟨x, g1, hx, HF.out⟩, below_then hbi hbu hbi.size⟩
              case measure => simp [intOf]; omega
            · have hfb : (findGo x 0 l == (k : Int)) = false := by simpa using hfx
              have HF := Lib.hid hfx
              clear hfx
              go_wp2_with fail
              go_roundw
              case rel =>
                refine ⟨x + 1, false, rfl, rfl, by omega, by omega, fun _ y h1 h2 => ?_, by simp, below_then hbi hbu hbi.size⟩
                by_cases hy : y = x
                · rw [hy]; exact HF.out
                · exact G3.out (by first | rfl | trivial) y h1 (by omega)
              case measure => simp [intOf]; omega
          · go_wp2_with fail
            go_roundw
            case rel => exact ⟨x + 1, true, rfl, rfl, by omega, by omega, by simp, G4.out, hbi⟩
            case measure => simp [intOf]; omega
        · have hbx := below_then hXo hbi hXo.size
          cases sb
          · have hown1 := own_belowS hown hbx
            have hbz := below_then hbr hbx hs0
            have hsz := hbz.size
            have Hsh := Lib.hid (shGo_yes (r := l.drop (k + 1)) (seen_no hlt o2 (fun y h1 h2 => G3.out rfl y h1 (by omega))))
            go_wp2_with (at_builtin; refine wpList_append_row _ rfl (.tmp 119) (.tmp 121) 39 rfl w7.heap.size 3 i0 (.int .i64 0) 1 8 Try.underlying39 hi hz0 hz1 hz2 rfl (by decide) u12 d.length (ics d) rfl (hown1.alloc _) (some ⟨wr.heap.size, 0, none⟩) 1 1 [.int .i64 k] rfl rfl (Row.new _ _ _) (by simp [Value.oneCell']) (by unfold maxLen; omega) (by omega) (by simp; omega) ?_; intro v3 wq hown3 hg3 hat3)
            go_roundw
            case rel => exact ⟨k + 1, d ++ [(k : Int)], by omega, by go_num, by rw [He.out, drop_cons hlt, Hsh.out]; simp, by simp; omega, by simpa [ics] using hown3, (hbz.alloc hsz _).grown hg3 (by simp; omega) (fun g e => by have := hown1.lt g e; omega)⟩
            case measure => simp [intOf]; omega
          · have Hsh := Lib.hid (show shGo l k (l[k] :: l.drop (k + 1)) = shGo l (k + 1) (l.drop (k + 1)) from by
              obtain ⟨y, h1, h2, h3⟩ := G4.out rfl
              exact shGo_no (seen_yes hlt h1 h2 h3))
            go_wp2_with fail
            go_roundw
            case rel => exact ⟨k + 1, d, by omega, by go_num, by rw [He.out, drop_cons hlt, Hsh.out], by omega, own_belowS hown hbx, below_then hbr hbx hs0⟩
            case measure => simp [intOf]; omega
    · have hrbz := hrb7.keepB hbr
      have hrsz := hrs7.keepB hbr
      have hbp := (packC_bd hf.out).1
      have HP := Lib.hid (unpack_packC hf.out)
      have HD := Lib.hid (show shGo l 0 l = d by rw [He.out, List.drop_of_length_le (by omega), shGo, List.append_nil])
      obtain ⟨Aw, cw, hv, hrw, hcw⟩ := own_form hown
      subst hv
      go_wp2_with fail
      refine (unpackC_at Ab cb _ l 0 0 _ (by omega) hbp hrbz HP).mono ?_
      rintro e wy ⟨Ay, cy, rfl, hry, hby⟩
      have hbY := hby.alloc hby.size (.cells #[.int .i64 0, .int .i64 0] 24)
      go_wp2_with fail
      refine (ints_any As Aw cs cw (shGo l 0 l) d _ (by omega) (by omega) (hrsz.keepB hbY) (hrw.keepB hbY)).mono ?_
      rintro e wz ⟨rfl, hbz⟩
      rw [decide_eq_true HD.out]
      obtain ⟨t1, t2, t3⟩ := ((Blk.new wy 24 #[.int .i64 0, .int .i64 0]).belowS hbz).rules
      go_wp2_with fail
      have hbZ := below_then hbY hbz hbY.size
      refine (eqCatches_any Ay A cy c l l _ (by omega) (by omega) ((hry.keepB ((Below.refl _ _).alloc (Nat.le_refl _) _)).keepB hbz) (hm.keepB (below_then hbo hbZ hbo.size))).mono ?_
      rintro e wx ⟨rfl, hbx⟩
      rw [decide_eq_true rfl]
      go_wp2_with fail
      go_ret
      exact ⟨rfl, below_then (below_then hbo hbZ hbo.size) hbx (below_then hbo hbZ hbo.size).size⟩

end Go.Proofs.Ytionmlkefheocaa
