/- The law TreeKnowsNames: its walk. Nothing is claimed here. -/
import Derived.Test.YtegfhjndbnipfaaGreatDoorTreQ
namespace Go.Proofs.YtegfhjndbnipfaaGreatDoor
open Go.RowKit Go.Lib Go.Maps Go.Sort
set_option linter.unusedVariables false

set_option maxRecDepth 100000 in
set_option maxHeartbeats 4000000 in
theorem lawNames_any (s : List UInt8) (w : World) (hl : s.length ≤ 1048576) (he : Env w) (hm : Lim w) :
    Calls Tryz.prog 3 #[.string ⟨s.toArray⟩] w fun e w' => e = .returned (.bool true) ∧ Below w.heap.size w w' := by
  have HNA := Lib.hid (fun W hE => tname_any s W (by omega) hE)
  have HNB := Lib.hid (fun W => nameOk_any s W (by omega))
  have HDA := Lib.hid (fun W hE => tdotted_any s hl W hE)
  have HDB := Lib.hid (fun W hE => dottedOk_any s W hl hE)
  obtain ⟨r1, hr1⟩ : ∃ r, nameB s = r := ⟨_, rfl⟩
  obtain ⟨r2, hr2⟩ : ∃ r, dottedB s = r := ⟨_, rfl⟩
  rw [hr1] at HNA HNB
  rw [hr2] at HDA HDB
  clear hr1 hr2 hl
  have t1 : (r1 == r1) = true := by cases r1 <;> rfl
  have t2 : (r2 == r2) = true := by cases r2 <;> rfl
  go_enter Tryz.func3, Tryz.ntmps3
  go_wp2_with fail
  refine (grows_any w he).mono ?_
  rintro e w1 ⟨rfl, b1⟩
  have he1 := he.keepB b1
  have hm1 := hm.keepB b1
  clear he hm
  go_wp2_with fail
  refine (HNA.out w1 he1).mono ?_
  rintro e w2 ⟨rfl, ba⟩
  have b2 := below_then b1 ba b1.size
  have he2 := he1.keepB ba
  have hm2 := hm1.keepB ba
  clear b1 ba he1 hm1
  go_wp2_with fail
  refine (HNB.out w2).mono ?_
  rintro e w3 ⟨rfl, ba⟩
  have b3 := below_then b2 ba b2.size
  have he3 := he2.keepB ba
  have hm3 := hm2.keepB ba
  clear b2 ba he2 hm2
  go_wp2_with fail
  refine (HDA.out w3 he3).mono ?_
  rintro e w4 ⟨rfl, ba⟩
  have b4 := below_then b3 ba b3.size
  have hm4 := hm3.keepB ba
  clear b3 ba he3 hm3
  go_wp2_with fail
  refine (HDB.out w4 hm4).mono ?_
  rintro e w5 ⟨rfl, ba⟩
  have b5 := below_then b4 ba b4.size
  clear b4 ba hm4
  go_wp2_with fail
  go_ret
  exact ⟨rfl, b5⟩
end Go.Proofs.YtegfhjndbnipfaaGreatDoor
