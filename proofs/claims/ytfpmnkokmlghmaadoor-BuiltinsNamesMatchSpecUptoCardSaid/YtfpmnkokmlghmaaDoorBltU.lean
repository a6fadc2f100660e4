/- The built-in names: the law. Nothing is claimed here. -/
import Derived.Laws.Tables
import Derived.Test.YtfpmnkokmlghmaaDoorBltT
import Derived.Test.YtfpmnkokmlghmaaDoorBltS
import Derived.Test.YtfpmnkokmlghmaaDoorBltF
import Derived.Test.YtfpmnkokmlghmaaDoorBltQ
namespace Go.Proofs.YtfpmnkokmlghmaaDoor
open Go.RowKit Go.Lib Go.Shelf
set_option linter.unusedVariables false

theorem blk_set {w wr : World} {b g : Nat} {cs cs' : Array Value} {t : TypeId} (h : Blk wr g t cs) (hb : Below b w wr) (hbg : b ≤ g) : Blk (wr.setRow g cs') g t cs' ∧ Below b w (wr.setRow g cs') :=
  ⟨setRow_heap wr _ _ _ _ _ h, hb.os, hb.tape, hb.output, by simpa using hb.size, fun k hk => (setRow_other _ _ _ _ (by omega)).trans (hb.block k hk)⟩
theorem blk_other {wr : World} {g g' : Nat} {cs cs' : Array Value} {t : TypeId} (h : Blk wr g' t cs) (hne : g' ≠ g) : Blk (wr.setRow g cs') g' t cs :=
  (setRow_other _ _ _ _ hne).trans h
set_option maxRecDepth 100000 in
set_option maxHeartbeats 4000000 in
theorem law_of (hBG : BeginP) (n : List UInt8) (w : World) (hn : n.length ≤ 1048576) (he : Env w) (hm : Lim w) : Calls Tryd.prog 3 #[.string ⟨n.toArray⟩] w fun e w' => e = .returned (.bool true) ∧ Below w.heap.size w w' := by
  have HNM := Lib.hid (fun W hM hE => named_any n W hn hM hE)
  have HBU := Lib.hid (fun W hM hE => builtin_of hBG n W hn hM hE)
  have HMO := Lib.hid (fun W hM => module_any n W hn hM)
  have HLI := Lib.hid (fun W hM hE => library_any n W hn hM hE)
  have HHA := Lib.hid (fun W hM hE => has_any n W hM hE)
  have HIN := Lib.hid (fun W hM hE => inLibrary_any n W hn hM hE)
  have HLL := Lib.hid (libOf_len n)
  rw [named_same] at HBU
  rw [mod_same] at HMO
  rw [in_same] at HHA
  obtain ⟨V, hV⟩ : ∃ V, namedR (sigH.contains n) n = V := ⟨_, rfl⟩
  have HU := Lib.hid (show namS.contains n = (V.2.2.2 && V.1 == 7) from by rw [namS_has, namU_is, hV])
  have HCO := Lib.hid (fun W A c h => containsR_any (w := W) (A := A) (l := namS) c h (by rw [namS_len]; decide) n)
  rw [namS_len] at HCO
  rw [HU.out] at HCO
  rw [hV] at HNM HBU
  obtain ⟨k, t, r, ok⟩ := V
  dsimp only [namedV] at HNM HBU HCO
  obtain ⟨L, hL⟩ : ∃ L, libOf n = L := ⟨_, rfl⟩
  rw [hL] at HMO HLI HLL
  obtain ⟨il, hil⟩ : ∃ il, inLib n = il := ⟨_, rfl⟩
  rw [hil] at HHA HIN
  obtain ⟨b, hbb⟩ : ∃ b, w.heap.size = b := ⟨_, rfl⟩
  have HB := Lib.hid hbb
  have HLM : Hid (∀ w', Below b w w' → Lim w' ∧ Env w') := Lib.hid (fun w' h => ⟨hm.keepB (by rw [hbb]; exact h), he.keepB (by rw [hbb]; exact h)⟩)
  have C1 := HNM.out w hm he
  rw [hbb]
  clear hV hL hil hn hBG HU hm he HNM
  have hil2 : (il != il) = false := by simp
  have hok2 : (ok != ok) = false := by simp
  go_enter Tryd.func3, Tryd.ntmps3
  go_wp2_with fail
  refine C1.mono ?_
  rintro e w1 ⟨rfl, b1⟩
  rw [hbb] at b1
  have hR := Blk.new w1 26 (valC 0 [] 0)
  have hs1 := b1.size
  rw [hbb] at hs1
  have b2 := b1.alloc hs1 (.cells (valC 0 [] 0) 26)
  obtain ⟨g, hg⟩ : ∃ g, w1.heap.size = g := ⟨_, rfl⟩
  rw [hg] at hR hs1
  clear C1 hbb
  go_upto_region 2 with (refine wpList_store_row rfl 26 _ _ rfl g (valC k t r) rfl rfl 26 (valC 0 [] 0) hR (by kernel_rfl) rfl (by simp [valC, Value.oneCell']) ?_)
  have hP := blk_set (cs' := valC k t r) hR b2 hs1
  have hl2 : ((w1.alloc (.cells (valC 0 [] 0) 26)).setRow g (valC k t r)).heap.size = g + 1 := by simp [hg]
  obtain ⟨w2, hw2⟩ : ∃ W', (w1.alloc (.cells #[.int .i64 0, .bool false, .slice none 0 0, .bool false, .slice none 0 0, .string ⟨#[]⟩, .int .i64 0] 26)).setRow g (valC k t r) = W' := ⟨_, rfl⟩
  have hw2' : (w1.alloc (.cells (valC 0 [] 0) 26)).setRow g (valC k t r) = w2 := hw2
  rw [hw2'] at hP hl2
  rw [hw2]
  obtain ⟨hF, b3⟩ := hP
  have hL2 := HLM.out w2 b3
  clear hw2 hw2' hR b2 hg b1
  go_wp2_with fail
  refine (HBU.out w2 hL2.1 hL2.2).mono ?_
  rintro e w3 ⟨rfl, c1⟩
  have hF3 := hF.belowS c1
  have b4 := below_then b3 c1 (by omega)
  have hs3 := c1.size
  have hR := Blk.new w3 26 (valC 0 [] 0)
  have b5 := b4.alloc (by omega) (.cells (valC 0 [] 0) 26)
  have hF4 := hF3.alloc (.cells (valC 0 [] 0) 26)
  obtain ⟨h, hh⟩ : ∃ h, w3.heap.size = h := ⟨_, rfl⟩
  rw [hh] at hR
  have hgh : g < h := by have := hF3.lt; omega
  clear hF hF3 b3 b4 c1 hL2 hs3
  go_upto_region 3 with (refine wpList_store_row rfl 26 _ _ rfl h (valC k t r) rfl rfl 26 (valC 0 [] 0) hR (by kernel_rfl) rfl (by simp [valC, Value.oneCell']) ?_)
  have hP := blk_set (cs' := valC k t r) hR b5 (by omega)
  have hF5 := blk_other (g := h) (cs' := valC k t r) hF4 (by omega)
  obtain ⟨w4, hw4⟩ : ∃ W', (w3.alloc (.cells #[.int .i64 0, .bool false, .slice none 0 0, .bool false, .slice none 0 0, .string ⟨#[]⟩, .int .i64 0] 26)).setRow h (valC k t r) = W' := ⟨_, rfl⟩
  have hw4' : (w3.alloc (.cells (valC 0 [] 0) 26)).setRow h (valC k t r) = w4 := hw4
  rw [hw4'] at hP hF5
  rw [hw4]
  obtain ⟨hG, b6⟩ := hP
  clear hw4 hw4' hR b5 hF4 hh
  have hGx := hG
  unfold valC at hF5 hGx
  obtain ⟨q1, q2, q3⟩ := hF5.rules
  obtain ⟨r1, r2, r3⟩ := hGx.rules
  clear hF5 hGx
  go_wp2_with fail
  refine (sameValue_any k t r w4).mono ?_
  rintro e w5 ⟨rfl, c1⟩
  have hG5 := hG.belowS c1
  have b7 := below_then b6 c1 (by have := hG.lt; omega)
  have hL5 := HLM.out w5 b7
  clear q1 q2 q3 r1 r2 r3 hG b6 c1
  go_wp2_with fail
  refine (HMO.out w5 hL5.1).mono ?_
  rintro e w6 ⟨A, c, rfl, hA, c1⟩
  have hG6 := hG5.belowS c1
  have b8 := below_then b7 c1 (by have := hG5.lt; omega)
  have hL6 := HLM.out w6 b8
  clear hG5 b7 c1 hL5
  go_wp2_with fail
  refine (HLI.out w6 hL6.1 hL6.2).mono ?_
  rintro e w7 ⟨A2, cc, rfl, hA2, c1⟩
  have hG7 := hG6.belowS c1
  have b9 := below_then b8 c1 (by have := hG6.lt; omega)
  have hA7 := hA.keepB c1
  have HEQ := Lib.hid (equalR_any c cc hA7 hA2 (by have := HLL.out; omega))
  clear hG6 b8 c1 hL6 hA hA2 hA7
  go_wp2_with fail
  refine HEQ.out.mono ?_
  rintro e w8 ⟨rfl, q, rfl⟩
  have hG8 := hG7.drewN q
  have b10 := below_drewN b9 q
  clear hG7 b9 HEQ
  generalize w7.drewN q = w8 at hG8 b10 ⊢
  have hL8 := HLM.out w8 b10
  go_wp2_with fail
  refine (HHA.out w8 hL8.1 hL8.2).mono ?_
  rintro e w9 ⟨rfl, c1⟩
  have hG9 := hG8.belowS c1
  have b11 := below_then b10 c1 (by have := hG8.lt; omega)
  have hL9 := HLM.out w9 b11
  clear hG8 b10 c1 hL8
  go_wp2_with fail
  refine (HIN.out w9 hL9.1 hL9.2).mono ?_
  rintro e w10 ⟨rfl, c1⟩
  have hG10 := hG9.belowS c1
  have b12 := below_then b11 c1 (by have := hG9.lt; omega)
  have hL10 := HLM.out w10 b12
  clear hG9 b11 c1 hL9
  go_wp2_with fail
  refine (names_any w10 hL10.1 hL10.2).mono ?_
  rintro e w11 ⟨⟨B, d, rfl, hB⟩, c1⟩
  have hG11 := hG10.belowS c1
  have b13 := below_then b12 c1 (by have := hG10.lt; omega)
  have HIS := Lib.hid (isSorted_any d hB)
  clear hG10 b12 c1 hL10
  go_wp2_with fail
  refine HIS.out.mono ?_
  rintro e w12 ⟨rfl, c1⟩
  have hG12 := hG11.belowS c1
  have b14 := below_then b13 c1 (by have := hG11.lt; omega)
  have HCN := Lib.hid (HCO.out w12 B d (hB.keepB c1))
  clear hG11 b13 c1 HIS hB
  unfold valC at hG12
  obtain ⟨q1, q2, q3⟩ := hG12.rules
  go_wp2_with fail
  refine HCN.out.mono ?_
  rintro e w13 ⟨rfl, rfl⟩
  clear HCN
  cases ok
  · go_wp2_with fail
    go_ret
    exact ⟨rfl, b14⟩
  · cases hk : (k == 7)
    · go_wp2_with fail
      go_ret
      exact ⟨rfl, b14⟩
    · go_wp2_with fail
      go_ret
      exact ⟨rfl, b14⟩
theorem law_any (n : List UInt8) (w : World) (hn : n.length ≤ 1048576) (he : Env w) (hm : Lim w) : Calls Tryd.prog 3 #[.string ⟨n.toArray⟩] w fun e w' => e = .returned (.bool true) ∧ Below w.heap.size w w' :=
  law_of (fun W hM hE => begin_any W hM hE) n w hn he hm
end Go.Proofs.YtfpmnkokmlghmaaDoor
