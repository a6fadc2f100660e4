/- The built-in names: is a name one of the library's? Nothing is claimed here. -/
import Derived.Test.YtfpmnkokmlghmaaDoorBltE
namespace Go.Proofs.YtfpmnkokmlghmaaDoor
open Go.RowKit Go.Lib Go.Shelf
set_option linter.unusedVariables false

theorem libOf_len (n : List UInt8) : (libOf n).length ≤ 1000 := by
  unfold libOf
  split
  · unfold modOf
    rw [List.length_map]
    refine Nat.le_trans (List.length_filter_le _ _) (by decide +kernel)
  · simp
theorem library_any (n : List UInt8) (w : World) (hn : n.length ≤ 1048576) (hm : Lim w) (he : Env w) : Calls Tryd.prog 9 #[.string ⟨n.toArray⟩] w fun e w' => ∃ A c, e = .returned (.slice A (libOf n).length c) ∧ Row w' A (strs (libOf n)) ∧ Below w.heap.size w w' := by
  go_enter Tryd.func9, Tryd.ntmps9
  go_wp2_with fail
  refine (libraryOf_any n w hn hm he).mono ?_
  rintro e w1 ⟨A, c, rfl, hr, hb⟩
  go_wp2_with fail
  go_ret
  exact ⟨A, c, rfl, hr, hb⟩
theorem inLibrary_any (n : List UInt8) (w : World) (hn : n.length ≤ 1048576) (hm : Lim w) (he : Env w) : Calls Tryd.prog 11 #[.string ⟨n.toArray⟩] w fun e w' => e = .returned (.bool (inLib n)) ∧ Below w.heap.size w w' := by
  have HE := Lib.hid (show inLib n = (n.contains 46 && (libOf (hd 46 n)).contains (tl 46 n)) from rfl)
  obtain ⟨r, hr⟩ : ∃ r, inLib n = r := ⟨_, rfl⟩
  rw [hr] at HE ⊢
  have hl : (hd 46 n).length ≤ n.length := by
    unfold hd
    exact (List.takeWhile_sublist _).length_le
  go_enter Tryd.func11, Tryd.ntmps11
  go_wp2_with fail
  refine (cut_any n 46 w (by omega) hm).mono ?_
  rintro e w2 ⟨rfl, q, rfl⟩
  have hb := below_drewN (Below.refl w.heap.size w) q
  have hm2 := hm.keepB hb
  have he2 := he.keepB hb
  generalize w.drewN q = w2 at hb hm2 he2 ⊢
  cases hc : n.contains 46
  · rw [hc, Bool.false_and] at HE
    generalize hd 46 n = y
    generalize tl 46 n = z
    simp only [Bool.false_eq_true, if_false]
    go_wp2_with fail
    go_ret
    exact ⟨ret_bool HE.out.symm, hb⟩
  · rw [hc, Bool.true_and] at HE
    simp only [if_true]
    have HL := Lib.hid (libraryOf_any (hd 46 n) w2 (by omega) hm2 he2)
    have hll := libOf_len (hd 46 n)
    generalize hd 46 n = y at HE HL hll ⊢
    generalize tl 46 n = z at HE ⊢
    clear hm2 he2
    go_wp2_with fail
    refine HL.out.mono ?_
    rintro e w3 ⟨A, c, rfl, hrw, ba⟩
    have hb3 := below_then hb ba hb.size
    have HCC := Lib.hid (containsR_any c hrw (by omega) z)
    rw [← HE.out] at HCC
    clear hrw ba hb
    go_wp2_with fail
    refine HCC.out.mono ?_
    rintro e w4 ⟨rfl, rfl⟩
    go_wp2_with fail
    go_ret
    exact ⟨rfl, hb3⟩
end Go.Proofs.YtfpmnkokmlghmaaDoor
