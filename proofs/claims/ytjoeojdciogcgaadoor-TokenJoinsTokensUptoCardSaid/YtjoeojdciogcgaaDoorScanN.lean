/- token.Scan: the tokens of a source, or its fault. Nothing is claimed here. -/
import Derived.Test.YtjoeojdciogcgaaDoorScanM
namespace Go.Proofs.YtjoeojdciogcgaaDoor
open Go.RowKit Go.Shelf Go.Lib Go.Maps
set_option linter.unusedVariables false

theorem info_string : (Tryd.prog.info? 9).map (fun i => (i.zero, i.size)) = some (some (.string ByteArray.empty), 1) := by kernel_rfl
theorem own_new {w : World} {B g : Nat} {e : TypeId} {n : Nat} {xs : List Value} (h : Blk w g e xs.toArray) (hB : B ≤ g) (hn : xs.length = n) (hm : n ≤ maxLen) : w.ownsRow B e 1 (.slice (some ⟨g, 0, none⟩) n n) n xs :=
  ⟨by omega, .inr ⟨g, n, xs.toArray, rfl, hB, h, Nat.le_refl _, hm, by simp [hn], by simp [← hn]⟩⟩

theorem own_mono {w : World} {B B' : Nat} {e : TypeId} {size n : Nat} {v : Value} {xs : List Value} (h : w.ownsRow B e size v n xs) (hb : B' ≤ B) : w.ownsRow B' e size v n xs :=
  ⟨h.1, h.2.imp_right fun ⟨g, cap, cur, hv, hge, r⟩ => ⟨g, cap, cur, hv, Nat.le_trans hb hge, r⟩⟩
theorem res_scan {w : World} {tmps : Array Value} {p : Nat} {v : Value} {c i : Int} (h2 : tmps.getD 2 undef = .pointer (some ⟨p, 0, none⟩)) (h3 : tmps.getD 3 undef = .pointer (some ⟨p + 1, 0, none⟩)) (hP : Blk w p 23 #[v]) (hQ : Blk w (p + 1) 25 #[.int .i64 c, .int .i64 i]) :
    (results Tryd.f7 tmps).run Tryd.prog w = .ok (.tuple #[v, flt c i]) w := by
  have h2' : tmps[2]?.getD undef = .pointer (some ⟨p, 0, none⟩) := by simpa using h2
  have h3' : tmps[3]?.getD undef = .pointer (some ⟨p + 1, 0, none⟩) := by simpa using h3
  have hc := hP.cell 0
  have hc0 := hQ.cell 0
  have hc1 := hQ.cell 1
  have hd := run_loadVar_row w (p + 1) 25 25 #[.int .i64 c, .int .i64 i] (0, 0) _ hQ Tryd.underlying25 rfl (by kernel_rfl)
  simp [results, Tryd.results7, h2', h3', asAddr, hd, go_sem, hc, hc0, hc1, flt]

/-- what Scan gives -/
def ScPost (w : World) (R : Except (Int × Int) (List Tok)) (e : Ending) (w' : World) : Prop :=
  Below w.heap.size w w' ∧ match R with
  | .error (c, i) => e = .returned (.tuple #[.slice none 0 0, flt c i])
  | .ok ts => ∃ vt, e = .returned (.tuple #[vt, flt 0 0]) ∧ w'.ownsRow w.heap.size 32 4 vt ts.length (ts.flatMap tokc)

set_option maxRecDepth 100000 in
set_option maxHeartbeats 4000000 in
/-- Scan of a text with a fault of its characters -/
theorem scan_flt (l : List UInt8) (w : World) (hl : l.length ≤ 9223372036854775807) (he : Env w) (c i : Int) (hs : sfault l = (c, i)) (hc : c ≠ 0) :
    Calls Tryd.prog 7 #[.string ⟨l.toArray⟩] w (ScPost w (.error (c, i))) := by
  have hmf : ∀ (fn : Fn) (first cap : Array Value) (w : World), (Instr.makeFunc fn first cap).run Tryd.prog w = .ok (.func fn first cap) w := fun _ _ _ _ => rfl
  have hcb : ((c : Int) == 0) = false := by simpa using hc
  have HZ := Lib.hid hs
  have hb0 : Below w.heap.size w ((w.alloc (.cells #[.slice none 0 0] 23)).alloc (.cells #[.int .i64 0, .int .i64 0] 25)) := ((Below.refl _ w).alloc (Nat.le_refl _) _).alloc (by simp) _
  have hP := (Blk.new w 23 #[.slice none 0 0]).alloc (.cells #[.int .i64 0, .int .i64 0] 25)
  have hQ := Blk.new (w.alloc (.cells #[.slice none 0 0] 23)) 25 #[.int .i64 0, .int .i64 0]
  have hsz : (w.alloc (.cells #[.slice none 0 0] 23)).heap.size = w.heap.size + 1 := by simp
  rw [hsz] at hQ
  clear hs hc hsz
  go_enter_defers Tryd.func7, Tryd.ntmps7
  go_wp2_with fail
  refine (check_any l _ hl (he.keepB hb0).1).mono ?_
  rintro e w1 ⟨rfl, hb1⟩
  rw [HZ.out]
  have hP1 := hP.belowS hb1
  have hQ1 := hQ.belowS hb1
  have hb := below_then hb0 hb1 (by simp; omega)
  clear hb0 hb1 hP hQ he
  have hF := Blk.new w1 25 #[.int .i64 c, .int .i64 i]
  have hPF : w.heap.size ≠ w1.heap.size := Nat.ne_of_lt hP1.lt
  have hQF : w.heap.size + 1 ≠ w1.heap.size := Nat.ne_of_lt hQ1.lt
  obtain ⟨q1, q2, q3⟩ := hP1.rules
  obtain ⟨p1, p2, p3⟩ := hQ1.rules
  unfold flt
  go_wp2_with fail
  have hP2 := hP1.alloc (.cells #[.int .i64 c, .int .i64 i] 25)
  have hQ2 := hQ1.alloc (.cells #[.int .i64 c, .int .i64 i] 25)
  have hb2 := hb.alloc hb.size (.cells #[.int .i64 c, .int .i64 i] 25)
  obtain ⟨w2, hw2⟩ : ∃ w2, w1.alloc (.cells #[.int .i64 c, .int .i64 i] 25) = w2 := ⟨_, rfl⟩
  rw [hw2] at hF hP2 hQ2 hb2 ⊢
  clear hw2 q1 q2 q3 p1 p2 p3 hP1 hQ1 hb
  obtain ⟨r, hr⟩ : ∃ r, w1.heap.size = r := ⟨_, rfl⟩
  rw [hr] at hF hPF hQF ⊢
  obtain ⟨p, hp⟩ : ∃ p, w.heap.size = p := ⟨_, rfl⟩
  rw [hp] at hP2 hQ2 hPF hQF ⊢
  obtain ⟨q1, q2, q3⟩ := hP2.rules
  obtain ⟨p1, p2, p3⟩ := hQ2.rules
  obtain ⟨r1, r2, r3⟩ := hF.rules
  go_region
  all_goals go_wp2_with fail
  all_goals
    refine ⟨_, res_scan (p := p) rfl rfl ((((hP2.set_ 0 (.slice none 0 0)).far (p := ⟨p + 1, 0, none⟩) (by simp) (.int .i64 c)).far (p := ⟨p + 1, 1, none⟩) (by simp) (.int .i64 i))).drew (((hQ2.far (p := ⟨p, 0, none⟩) (by simp) (.slice none 0 0)).set_ 0 (.int .i64 c)).set_ 1 (.int .i64 i)).drew, ?_, rfl⟩
    exact (((hb2.setCell (p := ⟨p, 0, none⟩) (by show w.heap.size ≤ p; omega) (.slice none 0 0)).setCell (p := ⟨p + 1, 0, none⟩) (by show w.heap.size ≤ p + 1; omega) (.int .i64 c)).setCell (p := ⟨p + 1, 1, none⟩) (by show w.heap.size ≤ p + 1; omega) (.int .i64 i)).drew

set_option maxRecDepth 100000 in
set_option maxHeartbeats 4000000 in
/-- Scan of a text of good characters -/
theorem scan_good (l : List UInt8) (w : World) (hl : l.length ≤ 16000) (he : Env w) (hs : sfault l = (0, 0)) :
    Calls Tryd.prog 7 #[.string ⟨l.toArray⟩] w (ScPost w (scanF l (l.length + 1) ⟨0, [0], [], [], true⟩)) := by
  have hmf : ∀ (fn : Fn) (first cap : Array Value) (w : World), (Instr.makeFunc fn first cap).run Tryd.prog w = .ok (.func fn first cap) w := fun _ _ _ _ => rfl
  have hmm := @run_makeMap Tryd.prog
  have HZ := Lib.hid hs
  have hb0 : Below w.heap.size w ((w.alloc (.cells #[.slice none 0 0] 23)).alloc (.cells #[.int .i64 0, .int .i64 0] 25)) := ((Below.refl _ w).alloc (Nat.le_refl _) _).alloc (by simp) _
  have hP := (Blk.new w 23 #[.slice none 0 0]).alloc (.cells #[.int .i64 0, .int .i64 0] 25)
  have hQ := Blk.new (w.alloc (.cells #[.slice none 0 0] 23)) 25 #[.int .i64 0, .int .i64 0]
  have hsz : (w.alloc (.cells #[.slice none 0 0] 23)).heap.size = w.heap.size + 1 := by simp
  rw [hsz] at hQ
  clear hs hsz
  go_enter_defers Tryd.func7, Tryd.ntmps7
  go_wp2_with fail
  refine (check_any l _ (by omega) (he.keepB hb0).1).mono ?_
  rintro e w1 ⟨rfl, hb1⟩
  rw [HZ.out]
  have hP1 := hP.belowS hb1
  have hQ1 := hQ.belowS hb1
  have hb := below_then hb0 hb1 (by simp; omega)
  have he1 := he.keepB hb
  clear hb0 hb1 hP hQ he
  unfold flt
  go_wp2_with fail
  have hbm : Below w1.heap.size w1 (((w1.alloc (.cells #[.int .i64 0, .int .i64 0] 25)).alloc (.cells #[.int .i64 0] 3)).alloc (.map #[] 0)) := (((Below.refl _ w1).alloc (Nat.le_refl _) _).alloc (by simp) _).alloc (by simp; omega) _
  have hI := (Blk.new (w1.alloc (.cells #[.int .i64 0, .int .i64 0] 25)) 3 #[.int .i64 0]).alloc (.map #[] 0)
  have hM := World.ownsMap_made ((w1.alloc (.cells #[.int .i64 0, .int .i64 0] 25)).alloc (.cells #[.int .i64 0] 3)) Tryd.prog 9 (plainElem (H := Unit) Tryd.prog 3)
  rw [show (w1.alloc (.cells #[.int .i64 0, .int .i64 0] 25)).heap.size = w1.heap.size + 1 from by simp] at hI
  rw [show ((w1.alloc (.cells #[.int .i64 0, .int .i64 0] 25)).alloc (.cells #[.int .i64 0] 3)).heap.size = w1.heap.size + 1 + 1 from by simp] at hM
  obtain ⟨wm, hwm⟩ : ∃ wm, (((w1.alloc (.cells #[.int .i64 0, .int .i64 0] 25)).alloc (.cells #[.int .i64 0] 3)).alloc (.map #[] 0)) = wm := ⟨_, rfl⟩
  rw [hwm] at hbm hI hM ⊢
  clear hwm
  have hem := he1.keepB hbm
  clear he1
  refine (signs_any wm hem).mono ?_
  rintro e ws ⟨rfl, hws⟩
  have hS : Blk ws wm.heap.size 9 (strs sgs).toArray := by rw [hws]; exact Blk.new wm 9 (strs sgs).toArray
  have hI2 : Blk ws (w1.heap.size + 1) 3 #[.int .i64 0] := by rw [hws]; exact hI.alloc (.cells (strs sgs).toArray 9)
  have hM2 : ws.ownsMap Tryd.prog 9 (plainElem (H := Unit) Tryd.prog 3) (w1.heap.size + 1 + 1) 0 (.map []) := by rw [hws]; exact hM.alloc (.cells (strs sgs).toArray 9)
  have hbs : Below w1.heap.size w1 ws := by rw [hws]; exact hbm.alloc hbm.size _
  have hes : Env ws := by rw [hws]; exact hem.keepB ((Below.refl _ wm).alloc (Nat.le_refl _) _)
  have hmS : w1.heap.size + 1 + 1 < wm.heap.size := hM.lt
  obtain ⟨S, hS'⟩ : ∃ S, wm.heap.size = S := ⟨_, rfl⟩
  rw [hS'] at hS hmS ⊢
  have hSlt : S < ws.heap.size := hS.lt
  have hIlt : w1.heap.size + 1 < ws.heap.size := hI2.lt
  have hMlt : w1.heap.size + 1 + 1 < ws.heap.size := hM2.lt
  clear hws hI hM hbm hem hS'
  go_wp2_with fail
  obtain ⟨cs, hcs⟩ : ∃ cs, #[Value.string ⟨l.toArray⟩, .int .i64 0, .int .i64 1, .int .i64 0, .slice (some ⟨w1.heap.size + 1, 0, none⟩) 1 1, .slice none 0 0, .slice none 0 0, .map (some (w1.heap.size + 1 + 1)), .slice (some ⟨S, 0, none⟩) 43 43] = cs := ⟨_, rfl⟩
  rw [hcs]
  refine (keywords_any _ (hes.keepB ((Below.refl _ ws).alloc (Nat.le_refl _) _))).mono ?_
  rintro e wk ⟨rfl, hwk⟩
  have hsz : (ws.alloc (.cells cs 45)).heap.size = ws.heap.size + 1 := by simp
  rw [hsz]
  have hG : Blk wk ws.heap.size 45 cs := by rw [hwk]; exact (Blk.new ws 45 cs).alloc _
  have hK : Blk wk (ws.heap.size + 1) 9 (strs kws).toArray := by rw [hwk, ← hsz]; exact Blk.new _ _ _
  have hS3 : Blk wk S 9 (strs sgs).toArray := by rw [hwk]; exact (hS.alloc _).alloc _
  have hI3 : Blk wk (w1.heap.size + 1) 3 #[.int .i64 0] := by rw [hwk]; exact (hI2.alloc _).alloc _
  have hM3 : wk.ownsMap Tryd.prog 9 (plainElem (H := Unit) Tryd.prog 3) (w1.heap.size + 1 + 1) 0 (.map []) := by rw [hwk]; exact (hM2.alloc _).alloc _
  have hbk : Below w1.heap.size w1 wk := by rw [hwk]; exact (hbs.alloc hbs.size _).alloc (by rw [hsz]; omega) _
  have hwG := hbs.size
  obtain ⟨g, hg⟩ : ∃ g, ws.heap.size = g := ⟨_, rfl⟩
  rw [hg] at hG hK hwG hSlt hIlt hMlt ⊢
  clear hwk hsz hS hI2 hM2 hbs hes hg
  go_wp2_with fail
  go_loopw [22] (fun i wr => ∃ k : Nat, k ≤ 38 ∧ i = .int .i64 (k : Int) ∧ wr.ownsMap Tryd.prog 9 (plainElem (H := Unit) Tryd.prog 3) (w1.heap.size + 1 + 1) k (wordsK k) ∧ wk.grownBy wr (some (w1.heap.size + 1 + 1))) (fun i _ => 38 - (RowKit.intOf i).toNat)
  case atStart => exact ⟨0, by omega, rfl, hM3, ⟨rfl, rfl, rfl, Nat.le_refl _, fun _ _ _ => rfl⟩⟩
  case round =>
    obtain ⟨k, hk, rfl, hown, hgr⟩ := hrel
    have hG4 := hG.grown hgr (by simp; omega)
    have hK4 := hK.grown hgr (by simp; omega)
    subst hcs
    obtain ⟨q1, q2, q3⟩ := hG4.rules
    by_cases hlt : k < 38
    · obtain ⟨x, HX, hxl⟩ := kws_at k hlt
      have hcell : wr.cell? ⟨g + 1, k, none⟩ = some (.string ⟨x.toArray⟩) := by
        rw [hK4.cell k]
        simp [strs, HX.out]
      have hkey := WideMaps.keyOf_string_mk (P := Tryd.prog) (k := 9) Tryd.underlying9 (s := ⟨x.toArray⟩) (by simp [ByteArray.size, maxLen]; omega)
      have hval : plainElem (H := Unit) Tryd.prog 3 (.int .i64 (k : Int)) = some (.lit (.int .i64 (k : Int)), []) := plainElem_int Tryd.underlying3 (WalkArith.wf_i64 ⟨by omega, by omega⟩)
      go_wp2_with (at_mapUpdate; refine wpList_mapUpdate_own _ rfl _ _ _ 42 rfl 9 3 law Tryd.underlying42 _ (w1.heap.size + 1 + 1) k _ rfl hown (by unfold maxLen; omega) _ _ _ rfl rfl hkey _ [] hval ?_; intro w5 hown5 hgr5)
      go_roundw
      case rel => exact ⟨k + 1, by omega, by go_num, by rw [wordsK_succ k hlt x HX.out]; exact hown5, hgr.trans hgr5⟩
      case measure => simp [RowKit.intOf]; omega
    · have hk38 : k = 38 := by omega
      subst hk38
      rw [wordsK_all] at hown
      have hbw : Below w1.heap.size w1 wr := hbk.grown hgr hbk.size (fun j hj => by cases hj; omega)
      have hS4 := hS3.grown hgr (by simp; omega)
      have hI4 := hI3.grown hgr (by simp)
      have hSc : Sc wr w1.heap.size g l 0 [0] [] [] (.slice (some ⟨w1.heap.size + 1, 0, none⟩) 1 1) (.slice none 0 0) (.slice none 0 0) (w1.heap.size + 1 + 1) (.slice (some ⟨S, 0, none⟩) 43 43) :=
        ⟨hG4, by omega, own_new (xs := [.int .i64 0]) hI4 (by omega) rfl (by unfold maxLen; omega), World.ownsRow_nil _ _ _ _, World.ownsRow_nil _ _ _ _, hown, own_new hS4 (by omega) rfl (by unfold maxLen; omega)⟩
      have HSc := Lib.hid hSc
      have hP4 := hP1.belowS hbw
      have hQ4 := hQ1.belowS hbw
      clear hSc hS4 hI4 hG4 hK4 hown hgr hG hK hS3 hI3 hM3 hbk q1 q2 q3
      go_wp2_with fail
      refine (scan_any HSc.out hl hbw).mono ?_
      rintro e we hpost
      obtain ⟨R, hR⟩ : ∃ R, scanF l (l.length + 1) ⟨0, [0], [], [], true⟩ = R := ⟨_, rfl⟩
      rw [hR] at hpost ⊢
      have HR := Lib.hid hR
      clear hR
      rcases R with ⟨c, i⟩ | ts
      · obtain ⟨rfl, hbe⟩ := hpost
        refine leaves_cons (f := 18) (args := #[.pointer (some ⟨w.heap.size, 0, none⟩), .pointer (some ⟨w.heap.size + 1, 0, none⟩)]) (by simp) (by simp [go_sem]) ?_
        refine (scanD_pan _ _ c i _ _ _ _ (hP1.belowS hbe) (hQ1.belowS hbe)).mono ?_
        rintro e u' w6 ⟨rfl, rfl, hP6, hQ6, hbb⟩
        exact ⟨_, res_scan (p := w.heap.size) rfl rfl hP6 hQ6, hbb _ _ (Nat.le_refl _) (Nat.le_succ _) (below_then hb hbe hb.size), rfl⟩
      · obtain ⟨at_, ind, op, vi, vo, vt, rfl, hs, hbe⟩ := hpost
        have hP5 := hP1.belowS hbe
        have hQ5 := hQ1.belowS hbe
        have hge := hs.ge
        have hPlt := hP1.lt
        have hQlt := hQ1.lt
        have hgp : g ≠ w.heap.size := by omega
        have hgq : g ≠ w.heap.size + 1 := by omega
        obtain ⟨A, cc, rfl, _, _⟩ := own_form hs.ot
        have HS := Lib.hid hs
        unfold Sc scCells at hs
        obtain ⟨q1, q2, q3⟩ := hs.blk.rules
        obtain ⟨p1, p2, p3⟩ := hP5.rules
        obtain ⟨r1, r2, r3⟩ := hQ5.rules
        clear hs HSc
        go_wp2_with fail
        refine leaves_cons (f := 18) (args := #[.pointer (some ⟨w.heap.size, 0, none⟩), .pointer (some ⟨w.heap.size + 1, 0, none⟩)]) (by simp) (by simp [go_sem]) ?_
        refine (scanD_idle _ _ _).mono ?_
        rintro e u' w6 ⟨rfl, rfl, rfl⟩
        have hot := HS.out.ot
        have hpn := own_blk_ne hot hP5 (by decide)
        have hqn := own_blk_ne hot hQ5 (by decide)
        refine ⟨_, res_scan (p := w.heap.size) rfl rfl ((((hP5.set_ 0 (.slice A ts.length cc)).far (p := ⟨w.heap.size + 1, 0, none⟩) (by simp) (.int .i64 0)).far (p := ⟨w.heap.size + 1, 1, none⟩) (by simp) (.int .i64 0))) (((hQ5.far (p := ⟨w.heap.size, 0, none⟩) (by simp) (.slice A ts.length cc)).set_ 0 (.int .i64 0)).set_ 1 (.int .i64 0)), ?_, ?_⟩
        · have h0 := below_then hb hbe hb.size
          exact ((h0.setCell (p := ⟨w.heap.size, 0, none⟩) (Nat.le_refl _) _).setCell (p := ⟨w.heap.size + 1, 0, none⟩) (Nat.le_succ _) _).setCell (p := ⟨w.heap.size + 1, 1, none⟩) (Nat.le_succ _) _
        · rw [HR.out]
          refine ⟨_, rfl, ?_⟩
          exact ownsRow_setCell_other (ownsRow_setCell_other (ownsRow_setCell_other (own_mono hot hb.size) hpn _) hqn _) hqn _

theorem scan_all (l : List UInt8) (w : World) (hl : l.length ≤ 9223372036854775807) (he : Env w) :
    Calls Tryd.prog 7 #[.string ⟨l.toArray⟩] w (ScPost w (scanT l)) := by
  unfold scanT
  by_cases h : (sfault l).1 ≠ 0
  · rw [if_pos h]
    exact scan_flt l w hl he _ _ rfl h
  · have h0 : (sfault l).1 = 0 := by simpa using h
    rw [if_neg h]
    have hz : sfault l = (0, 0) ∧ l.length ≤ 16000 := by
      unfold sfault at h0 ⊢
      split at h0
      · simp at h0
      · rename_i hlen
        rw [if_neg hlen]
        refine ⟨?_, by omega⟩
        split at h0
        · rfl
        · simp at h0
    exact scan_good l w hz.2 he hz.1

end Go.Proofs.YtjoeojdciogcgaaDoor
