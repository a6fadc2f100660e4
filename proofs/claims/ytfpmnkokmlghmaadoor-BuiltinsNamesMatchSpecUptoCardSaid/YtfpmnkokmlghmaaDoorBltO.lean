/- The built-in names: Named. Nothing is claimed here. -/
import Derived.Laws.Tables
import Derived.Test.YtfpmnkokmlghmaaDoorBltM
namespace Go.Proofs.YtfpmnkokmlghmaaDoor
open Go.RowKit Go.Lib Go.Shelf
set_option linter.unusedVariables false

section
variable {P : Program} {fn : Func} {R : Ending → World → Prop} {a : Act} {w : World} {p g t ty : Nat} {cs : Array Value}
theorem results_blk_tmp {q : Nat} (hres : fn.results = #[.cell p ty, .tmp q]) (hp : a.tmps.getD p undef = .pointer (some ⟨g, 0, none⟩)) (hB : Blk w g t cs) (d : TypeDesc) (hu : P.underlying ty = some d)
    (hd : (match d with | .struct _ | .array _ _ => true | _ => false) = true) (hi : (P.info? ty).map (·.size) = some cs.size) :
    (results fn a.tmps).run P w = .ok (.tuple #[.agg cs, a.tmps.getD q undef]) w := by
  have hp' : a.tmps[p]?.getD undef = .pointer (some ⟨g, 0, none⟩) := by simpa using hp
  simp [results, hres, hp', asAddr, run_loadVar_row w g t ty cs (0, 0) d hB hu hd hi]
/-- a struct in a block of the call's own and a value are handed back -/
theorem ret_blk_tmp {q : Nat} (hres : fn.results = #[.cell p ty, .tmp q]) (hp : a.tmps.getD p undef = .pointer (some ⟨g, 0, none⟩)) (hB : Blk w g t cs) (d : TypeDesc) (hu : P.underlying ty = some d)
    (hd : (match d with | .struct _ | .array _ _ => true | _ => false) = true) (hi : (P.info? ty).map (·.size) = some cs.size) (hdf : a.defers = []) (v : Value) (hv : a.tmps.getD q undef = v)
    (hR : R (.returned (.tuple #[.agg cs, v])) w) : bodyPost P fn R .ret a w := by
  subst hv
  exact bodyPost_ret (results_blk_tmp hres hp hB d hu hd hi) hdf hR
end
/-- a built-in name's value -/
def namedV (r : Int × List UInt8 × Int × Bool) : Value := .tuple #[valA r.1 r.2.1 r.2.2.1, .bool r.2.2.2]
set_option maxRecDepth 100000 in
set_option maxHeartbeats 4000000 in
theorem named_any (n : List UInt8) (w : World) (hn : n.length ≤ 1048576) (hm : Lim w) (he : Env w) : Calls Tryd.prog 4 #[.string ⟨n.toArray⟩] w fun e w' => e = .returned (namedV (namedR (sigH.contains n) n)) ∧ Below w.heap.size w w' := by
  have HD : Hid (namedR (sigH.contains n) n = if clsL.contains n then (6, [], (clsL.idxOf n : Int), true) else if n == [112, 97, 115, 115, 95] then (8, [], 0, true) else if sigH.contains n && !n.contains 46 then (7, n, 0, true) else (0, [], 0, false)) := Lib.hid rfl
  have HCI : Hid (clsI n = if clsL.contains n then (clsL.idxOf n : Int) else 0) := Lib.hid rfl
  have HCL := Lib.hid (fun W hE => classOf_any n W hE)
  have HSG := Lib.hid (fun W hE => bsig_any n W hE)
  obtain ⟨V, hV⟩ : ∃ V, namedR (sigH.contains n) n = V := ⟨_, rfl⟩
  obtain ⟨cb, hcb⟩ : ∃ cb, clsL.contains n = cb := ⟨_, rfl⟩
  obtain ⟨ci, hci⟩ : ∃ ci, clsI n = ci := ⟨_, rfl⟩
  obtain ⟨sg, hsg⟩ : ∃ sg, sigH.contains n = sg := ⟨_, rfl⟩
  rw [hV]
  rw [hV, hsg, hcb] at HD
  rw [hcb, hci] at HCL HCI
  rw [hsg] at HSG
  clear hV hcb hci hsg
  have hT := Blk.new w 26 (valC 0 [] 0)
  have hb0 := (Below.refl w.heap.size w).alloc (Nat.le_refl _) (.cells (valC 0 [] 0) 26)
  have hm0 := hm.keepB hb0
  have he0 := he.keepB hb0
  go_enter Tryd.func4, Tryd.ntmps4
  go_upto_region 1 with fail
  obtain ⟨w0, hw0⟩ : ∃ W', w.alloc (.cells (valC 0 [] 0) 26) = W' := ⟨_, rfl⟩
  have hw0' := hw0
  unfold valC at hw0'
  rw [show (([] : List UInt8).toArray) = #[] from rfl] at hw0'
  rw [hw0']
  rw [hw0] at hT hb0 hm0 he0
  obtain ⟨b, hb⟩ : ∃ b, w.heap.size = b := ⟨_, rfl⟩
  have HB := Lib.hid hb
  rw [hb] at hT hb0 ⊢
  clear hb hw0 hw0' hm he
  go_wp2_with fail
  refine (HCL.out w0 he0).mono ?_
  rintro e w1 ⟨rfl, ba⟩
  have hT1 := hT.belowS ba
  have hb1 := below_then hb0 ba (by have := hT.lt; omega)
  have hm1 := hm0.keepB ba
  have he1 := he0.keepB ba
  clear ba hT hb0 hm0 he0 HCL
  cases cb
  · have HV0 : Hid (V = if n == [112, 97, 115, 115, 95] then (8, [], 0, true) else if sg && !n.contains 46 then (7, n, 0, true) else (0, [], 0, false)) := Lib.hid (by rw [HD.out, if_neg (by simp)])
    cases hp : (n == [112, 97, 115, 115, 95])
    · have HV1 : Hid (V = if sg && !n.contains 46 then (7, n, 0, true) else (0, [], 0, false)) := Lib.hid (by rw [HV0.out, hp, if_neg (by simp)])
      go_wp2_with fail
      refine (HSG.out w1 hm1).mono ?_
      rintro e w2 ⟨⟨t, rfl⟩, ba⟩
      have hT2 := hT1.belowS ba
      have hb2 := below_then hb1 ba (by have := hT1.lt; omega)
      clear ba hT1 hb1 hm1 he1 hp
      cases sg
      · have HV : Hid (V = (0, [], 0, false)) := Lib.hid (by rw [HV1.out]; rfl)
        go_wp2_with (refine wpList_store_row rfl 26 _ _ rfl b (valC (0) ([]) (0)) rfl rfl 26 (valC 0 [] 0) hT2 (by kernel_rfl) rfl (by simp [valC, Value.oneCell']) ?_)
        have hF : Blk (w2.setRow b (valC (0) ([]) (0))) b 26 (valC (0) ([]) (0)) := setRow_heap w2 _ _ _ _ _ hT2
        have hBB : Below b w (w2.setRow b (valC (0) ([]) (0))) := ⟨hb2.os, hb2.tape, hb2.output, by simpa using hb2.size, fun k hk => (setRow_other _ _ _ _ (by omega)).trans (hb2.block k hk)⟩
        exact ret_blk_tmp rfl rfl hF _ Tryd.underlying26 rfl (by kernel_rfl) rfl (.bool false) rfl ⟨by rw [HV.out]; rfl, by rw [HB.out]; exact hBB⟩
      · have HC := Lib.hid (contains_any n 46 w2)
        cases hc : n.contains 46
        · have HV : Hid (V = (7, n, 0, true)) := Lib.hid (by rw [HV1.out, hc]; rfl)
          rw [hc] at HC
          clear hc
          go_wp2_with fail
          refine HC.out.mono ?_
          rintro e w3 ⟨rfl, rfl⟩
          go_wp2_with (refine wpList_store_row rfl 26 _ _ rfl b (valC (7) (n) (0)) rfl rfl 26 (valC 0 [] 0) hT2 (by kernel_rfl) rfl (by simp [valC, Value.oneCell']) ?_)
          have hF : Blk (w2.setRow b (valC (7) (n) (0))) b 26 (valC (7) (n) (0)) := setRow_heap w2 _ _ _ _ _ hT2
          have hBB : Below b w (w2.setRow b (valC (7) (n) (0))) := ⟨hb2.os, hb2.tape, hb2.output, by simpa using hb2.size, fun k hk => (setRow_other _ _ _ _ (by omega)).trans (hb2.block k hk)⟩
          exact ret_blk_tmp rfl rfl hF _ Tryd.underlying26 rfl (by kernel_rfl) rfl (.bool true) rfl ⟨by rw [HV.out]; rfl, by rw [HB.out]; exact hBB⟩
        · have HV : Hid (V = (0, [], 0, false)) := Lib.hid (by rw [HV1.out, hc]; rfl)
          rw [hc] at HC
          clear hc
          go_wp2_with fail
          refine HC.out.mono ?_
          rintro e w3 ⟨rfl, rfl⟩
          go_wp2_with (refine wpList_store_row rfl 26 _ _ rfl b (valC (0) ([]) (0)) rfl rfl 26 (valC 0 [] 0) hT2 (by kernel_rfl) rfl (by simp [valC, Value.oneCell']) ?_)
          have hF : Blk (w2.setRow b (valC (0) ([]) (0))) b 26 (valC (0) ([]) (0)) := setRow_heap w2 _ _ _ _ _ hT2
          have hBB : Below b w (w2.setRow b (valC (0) ([]) (0))) := ⟨hb2.os, hb2.tape, hb2.output, by simpa using hb2.size, fun k hk => (setRow_other _ _ _ _ (by omega)).trans (hb2.block k hk)⟩
          exact ret_blk_tmp rfl rfl hF _ Tryd.underlying26 rfl (by kernel_rfl) rfl (.bool false) rfl ⟨by rw [HV.out]; rfl, by rw [HB.out]; exact hBB⟩
    · have HV : Hid (V = (8, [], 0, true)) := Lib.hid (by rw [HV0.out, hp, if_pos rfl])
      go_wp2_with (refine wpList_store_row rfl 26 _ _ rfl b (valC (8) ([]) (0)) rfl rfl 26 (valC 0 [] 0) hT1 (by kernel_rfl) rfl (by simp [valC, Value.oneCell']) ?_)
      have hF : Blk (w1.setRow b (valC (8) ([]) (0))) b 26 (valC (8) ([]) (0)) := setRow_heap w1 _ _ _ _ _ hT1
      have hBB : Below b w (w1.setRow b (valC (8) ([]) (0))) := ⟨hb1.os, hb1.tape, hb1.output, by simpa using hb1.size, fun k hk => (setRow_other _ _ _ _ (by omega)).trans (hb1.block k hk)⟩
      exact ret_blk_tmp rfl rfl hF _ Tryd.underlying26 rfl (by kernel_rfl) rfl (.bool true) rfl ⟨by rw [HV.out]; rfl, by rw [HB.out]; exact hBB⟩
  · have HV : Hid (V = (6, [], ci, true)) := Lib.hid (by rw [HD.out, if_pos rfl, HCI.out, if_pos rfl])
    go_wp2_with fail
    refine (hRef_any ci w1).mono ?_
    rintro e w2 ⟨rfl, ba⟩
    have hT2 := hT1.belowS ba
    have hb2 := below_then hb1 ba (by have := hT1.lt; omega)
    clear ba hT1 hb1
    go_wp2_with (refine wpList_store_row rfl 26 _ _ rfl b (valC (6) ([]) (ci)) rfl rfl 26 (valC 0 [] 0) hT2 (by kernel_rfl) rfl (by simp [valC, Value.oneCell']) ?_)
    have hF : Blk (w2.setRow b (valC (6) ([]) (ci))) b 26 (valC (6) ([]) (ci)) := setRow_heap w2 _ _ _ _ _ hT2
    have hBB : Below b w (w2.setRow b (valC (6) ([]) (ci))) := ⟨hb2.os, hb2.tape, hb2.output, by simpa using hb2.size, fun k hk => (setRow_other _ _ _ _ (by omega)).trans (hb2.block k hk)⟩
    exact ret_blk_tmp rfl rfl hF _ Tryd.underlying26 rfl (by kernel_rfl) rfl (.bool true) rfl ⟨by rw [HV.out]; rfl, by rw [HB.out]; exact hBB⟩
end Go.Proofs.YtfpmnkokmlghmaaDoor
