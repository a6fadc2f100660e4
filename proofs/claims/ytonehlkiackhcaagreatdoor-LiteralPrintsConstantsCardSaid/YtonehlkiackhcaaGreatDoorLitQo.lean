/- The literals: the bytes of a text as characters, and which of them are written by number. Nothing is claimed here. -/
import Derived.Test.YtonehlkiackhcaaGreatDoorLitShelf7
set_option linter.unusedVariables false
set_option linter.unusedSimpArgs false
set_option maxRecDepth 100000
set_option maxHeartbeats 16000000
namespace Go.Proofs.YtonehlkiackhcaaGreatDoor
section
open Go.RowKit Go.Lib Go.Sort
theorem wellV_nil : wellV [] = true:=by decide
def validV (k:Nat) (n1 n2 : Bool) (ln ld : List Nat) (t : List UInt8) (r:Int) : Bool :=
 !n1 && !n2 && wellV ln && wellV ld && (decide (k = 2∨k = 3) || ln.isEmpty) && (decide (k = 3) || ld.isEmpty) && (decide (k = 4∨k = 5) || t.isEmpty) && (decide (r = 0) || (decide (k = 1) && decide (r = 1))) && (decide (k ≠ 4) || Lib.validD t)
theorem lvalid0_all {w : World} (n1 n2 : Bool) (ln ld : List Nat) (A1 A2 : Option Addr) (c1 c2:Nat) (t : List UInt8) (r:Int) (hl1 : ln.length ≤ 9223372036854775807) (hl2 : ld.length ≤ 9223372036854775807) (ht : t.length ≤ 9223372036854775807) (hrn : Row w A1 (u32s ln)) (hrd : Row w A2 (u32s ld)) (hT : Tabs w) :
  Calls Tryz.prog 21 #[.agg (valD 0 n1 (.slice A1 ln.length c1) n2 (.slice A2 ld.length c2) t r)] w fun e w' => e = .returned (.bool (validV 0 n1 n2 ln ld t r))∧Below w.heap.size w w':=by
 have hB:=Blk.new w 26 (valD 0 n1 (.slice A1 ln.length c1) n2 (.slice A2 ld.length c2) t r);have hbel:=(Below.refl w.heap.size w).alloc (Nat.le_refl _) (.cells (valD 0 n1 (.slice A1 ln.length c1) n2 (.slice A2 ld.length c2) t r) 26);have hr1:=hrn.keepB hbel;have hr2:=hrd.keepB hbel;obtain ⟨X,hX⟩ : ∃ X,validV 0 n1 n2 ln ld t r = X:=⟨_,rfl⟩;rw [hX];have HX:=hid hX.symm;clear hX;unfold valD at *
 obtain ⟨v1,v2,v3⟩:=hB.rules;go_enter Tryz.func21,Tryz.ntmps21;rcases n1 with _ | _
 case true => go_wp2_with fail; go_ret; exact ⟨by rw [HX.out]; simp [validV],hbel⟩
 rcases n2 with _ | _
 case true => go_wp2_with fail; go_ret; exact ⟨by rw [HX.out]; simp [validV],hbel⟩
 go_wp2_with fail;refine (well_any ln A1 c1 (by omega) hr1).mono ?_;rintro e w2 ⟨rfl,hbb⟩;have hB2:=hB.belowS hbb;have hbel2:=below_then hbel hbb hbel.size;have hr22:=hr2.keepB hbb;clear hB hbel hbb hr1 hr2 v1 v2 v3;obtain ⟨v1,v2,v3⟩:=hB2.rules;obtain ⟨W1,hW1⟩ : ∃ W1,wellV ln = W1:=⟨_,rfl⟩;rw [hW1];have HW1:=hid hW1;clear hW1;rcases W1 with _ | _
 case false => go_wp2_with fail; go_ret; exact ⟨by rw [HX.out]; simp [validV,HW1.out],hbel2⟩
 go_wp2_with fail;refine (well_any ld A2 c2 (by omega) hr22).mono ?_;rintro e w3 ⟨rfl,hbb⟩;have hB3:=hB2.belowS hbb;have hbel3:=below_then hbel2 hbb hbel2.size;clear hB2 hbel2 hbb hr22 v1 v2 v3;obtain ⟨v1,v2,v3⟩:=hB3.rules;obtain ⟨W2,hW2⟩ : ∃ W2,wellV ld = W2:=⟨_,rfl⟩;rw [hW2];have HW2:=hid hW2;clear hW2;rcases W2 with _ | _
 case false => go_wp2_with fail; go_ret; exact ⟨by rw [HX.out]; simp [validV,wellV_nil,HW1.out,HW2.out],hbel3⟩
 obtain ⟨mln,hmln⟩ : ∃ m,ln.length = m:=⟨_,rfl⟩;rw [hmln] at hB3 v1 ⊢;have HMln:=hid hmln;clear hmln
 by_cases hzln : mln = 0
 case neg =>
  obtain ⟨jln,rfl⟩ : ∃ j,mln = j + 1:=⟨mln - 1,by omega⟩;have HZ : Hid (¬ ln = []):=hid (by intro e; have h:=HMln.out; rw [e] at h; simp at h);have dln : decide ((0:Int) < ((jln + 1:Nat):Int)) = true:=decide_eq_true (by omega);have fln : decide ((0:Int) < (jln:Int) + 1) = true:=decide_eq_true (by omega);clear hzln HMln;go_wp2_with fail;go_ret;exact ⟨by rw [HX.out]; simp [validV,wellV_nil,HZ.out],hbel3⟩
 subst hzln;have HZln : Hid (ln = []):=hid (List.eq_nil_of_length_eq_zero HMln.out);clear HMln;obtain ⟨mld,hmld⟩ : ∃ m,ld.length = m:=⟨_,rfl⟩;rw [hmld] at hB3 v1 ⊢;have HMld:=hid hmld;clear hmld
 by_cases hzld : mld = 0
 case neg =>
  obtain ⟨jld,rfl⟩ : ∃ j,mld = j + 1:=⟨mld - 1,by omega⟩;have HZ : Hid (¬ ld = []):=hid (by intro e; have h:=HMld.out; rw [e] at h; simp at h);have dld : decide ((0:Int) < ((jld + 1:Nat):Int)) = true:=decide_eq_true (by omega);have fld : decide ((0:Int) < (jld:Int) + 1) = true:=decide_eq_true (by omega);clear hzld HMld;go_wp2_with fail;go_ret;exact ⟨by rw [HX.out]; simp [validV,wellV_nil,HZ.out],hbel3⟩
 subst hzld;have HZld : Hid (ld = []):=hid (List.eq_nil_of_length_eq_zero HMld.out);clear HMld
 by_cases hzt : t = []
 case neg =>
  have b1 : (t == []) = false:=(by rw [beq_eq_false_iff_ne]; exact hzt);have b2 : (t != []) = true:=(by rw [bne_iff_ne]; exact hzt);have b3 : t.isEmpty = false:=by cases t with
   | nil => exact absurd rfl hzt
   | cons a r => rfl
  have HZ:=hid hzt;clear hzt;go_wp2_with fail;go_ret;exact ⟨by rw [HX.out]; simp [validV,wellV_nil,HZ.out],hbel3⟩
 subst hzt
 by_cases hzr : r = 0
 case neg =>
  have b1 : (r != 0) = true:=(by rw [bne_iff_ne]; exact hzr);have HZ:=hid hzr;clear hzr;go_wp2_with fail;go_ret;exact ⟨by rw [HX.out]; simp [validV,wellV_nil,HZ.out],hbel3⟩
 subst hzr;go_wp2_with fail;go_ret;exact ⟨by rw [HX.out]; simp [validV,wellV_nil,HW1.out,HW2.out,HZln.out,HZld.out],hbel3⟩
theorem lvalid1_all {w : World} (n1 n2 : Bool) (ln ld : List Nat) (A1 A2 : Option Addr) (c1 c2:Nat) (t : List UInt8) (r:Int) (hl1 : ln.length ≤ 9223372036854775807) (hl2 : ld.length ≤ 9223372036854775807) (ht : t.length ≤ 9223372036854775807) (hrn : Row w A1 (u32s ln)) (hrd : Row w A2 (u32s ld)) (hT : Tabs w) :
  Calls Tryz.prog 21 #[.agg (valD 1 n1 (.slice A1 ln.length c1) n2 (.slice A2 ld.length c2) t r)] w fun e w' => e = .returned (.bool (validV 1 n1 n2 ln ld t r))∧Below w.heap.size w w':=by
 have hB:=Blk.new w 26 (valD 1 n1 (.slice A1 ln.length c1) n2 (.slice A2 ld.length c2) t r);have hbel:=(Below.refl w.heap.size w).alloc (Nat.le_refl _) (.cells (valD 1 n1 (.slice A1 ln.length c1) n2 (.slice A2 ld.length c2) t r) 26);have hr1:=hrn.keepB hbel;have hr2:=hrd.keepB hbel;obtain ⟨X,hX⟩ : ∃ X,validV 1 n1 n2 ln ld t r = X:=⟨_,rfl⟩;rw [hX];have HX:=hid hX.symm;clear hX;unfold valD at *
 obtain ⟨v1,v2,v3⟩:=hB.rules;go_enter Tryz.func21,Tryz.ntmps21;rcases n1 with _ | _
 case true => go_wp2_with fail; go_ret; exact ⟨by rw [HX.out]; simp [validV],hbel⟩
 rcases n2 with _ | _
 case true => go_wp2_with fail; go_ret; exact ⟨by rw [HX.out]; simp [validV],hbel⟩
 go_wp2_with fail;refine (well_any ln A1 c1 (by omega) hr1).mono ?_;rintro e w2 ⟨rfl,hbb⟩;have hB2:=hB.belowS hbb;have hbel2:=below_then hbel hbb hbel.size;have hr22:=hr2.keepB hbb;clear hB hbel hbb hr1 hr2 v1 v2 v3;obtain ⟨v1,v2,v3⟩:=hB2.rules;obtain ⟨W1,hW1⟩ : ∃ W1,wellV ln = W1:=⟨_,rfl⟩;rw [hW1];have HW1:=hid hW1;clear hW1;rcases W1 with _ | _
 case false => go_wp2_with fail; go_ret; exact ⟨by rw [HX.out]; simp [validV,HW1.out],hbel2⟩
 go_wp2_with fail;refine (well_any ld A2 c2 (by omega) hr22).mono ?_;rintro e w3 ⟨rfl,hbb⟩;have hB3:=hB2.belowS hbb;have hbel3:=below_then hbel2 hbb hbel2.size;clear hB2 hbel2 hbb hr22 v1 v2 v3;obtain ⟨v1,v2,v3⟩:=hB3.rules;obtain ⟨W2,hW2⟩ : ∃ W2,wellV ld = W2:=⟨_,rfl⟩;rw [hW2];have HW2:=hid hW2;clear hW2;rcases W2 with _ | _
 case false => go_wp2_with fail; go_ret; exact ⟨by rw [HX.out]; simp [validV,wellV_nil,HW1.out,HW2.out],hbel3⟩
 obtain ⟨mln,hmln⟩ : ∃ m,ln.length = m:=⟨_,rfl⟩;rw [hmln] at hB3 v1 ⊢;have HMln:=hid hmln;clear hmln
 by_cases hzln : mln = 0
 case neg =>
  obtain ⟨jln,rfl⟩ : ∃ j,mln = j + 1:=⟨mln - 1,by omega⟩;have HZ : Hid (¬ ln = []):=hid (by intro e; have h:=HMln.out; rw [e] at h; simp at h);have dln : decide ((0:Int) < ((jln + 1:Nat):Int)) = true:=decide_eq_true (by omega);have fln : decide ((0:Int) < (jln:Int) + 1) = true:=decide_eq_true (by omega);clear hzln HMln;go_wp2_with fail;go_ret;exact ⟨by rw [HX.out]; simp [validV,wellV_nil,HZ.out],hbel3⟩
 subst hzln;have HZln : Hid (ln = []):=hid (List.eq_nil_of_length_eq_zero HMln.out);clear HMln;obtain ⟨mld,hmld⟩ : ∃ m,ld.length = m:=⟨_,rfl⟩;rw [hmld] at hB3 v1 ⊢;have HMld:=hid hmld;clear hmld
 by_cases hzld : mld = 0
 case neg =>
  obtain ⟨jld,rfl⟩ : ∃ j,mld = j + 1:=⟨mld - 1,by omega⟩;have HZ : Hid (¬ ld = []):=hid (by intro e; have h:=HMld.out; rw [e] at h; simp at h);have dld : decide ((0:Int) < ((jld + 1:Nat):Int)) = true:=decide_eq_true (by omega);have fld : decide ((0:Int) < (jld:Int) + 1) = true:=decide_eq_true (by omega);clear hzld HMld;go_wp2_with fail;go_ret;exact ⟨by rw [HX.out]; simp [validV,wellV_nil,HZ.out],hbel3⟩
 subst hzld;have HZld : Hid (ld = []):=hid (List.eq_nil_of_length_eq_zero HMld.out);clear HMld
 by_cases hzt : t = []
 case neg =>
  have b1 : (t == []) = false:=(by rw [beq_eq_false_iff_ne]; exact hzt);have b2 : (t != []) = true:=(by rw [bne_iff_ne]; exact hzt);have b3 : t.isEmpty = false:=by cases t with
   | nil => exact absurd rfl hzt
   | cons a r => rfl
  have HZ:=hid hzt;clear hzt;go_wp2_with fail;go_ret;exact ⟨by rw [HX.out]; simp [validV,wellV_nil,HZ.out],hbel3⟩
 subst hzt
 by_cases hzr : r = 0
 case pos =>
  subst hzr;go_wp2_with fail;go_ret;exact ⟨by rw [HX.out]; simp [validV,wellV_nil,HW1.out,HW2.out,HZln.out,HZld.out],hbel3⟩
 by_cases hz1 : r = 1
 case pos =>
  subst hz1;go_wp2_with fail;go_ret;exact ⟨by rw [HX.out]; simp [validV,wellV_nil,HW1.out,HW2.out,HZln.out,HZld.out],hbel3⟩
 have HZ0:=hid hzr;have HZ1:=hid hz1
 by_cases hlt : r < 0
 ·have d1 : decide (r < 0) = true:=decide_eq_true hlt;clear hlt hzr hz1;go_wp2_with fail;go_ret;exact ⟨by rw [HX.out]; simp [validV,wellV_nil,HZ0.out,HZ1.out],hbel3⟩
 ·have d1 : decide (r < 0) = false:=decide_eq_false hlt;have d2 : decide (1 < r) = true:=decide_eq_true (by omega);clear hlt hzr hz1;go_wp2_with fail;go_ret;exact ⟨by rw [HX.out]; simp [validV,wellV_nil,HZ0.out,HZ1.out],hbel3⟩
theorem lvalid2_all {w : World} (n1 n2 : Bool) (ln ld : List Nat) (A1 A2 : Option Addr) (c1 c2:Nat) (t : List UInt8) (r:Int) (hl1 : ln.length ≤ 9223372036854775807) (hl2 : ld.length ≤ 9223372036854775807) (ht : t.length ≤ 9223372036854775807) (hrn : Row w A1 (u32s ln)) (hrd : Row w A2 (u32s ld)) (hT : Tabs w) :
  Calls Tryz.prog 21 #[.agg (valD 2 n1 (.slice A1 ln.length c1) n2 (.slice A2 ld.length c2) t r)] w fun e w' => e = .returned (.bool (validV 2 n1 n2 ln ld t r))∧Below w.heap.size w w':=by
 have hB:=Blk.new w 26 (valD 2 n1 (.slice A1 ln.length c1) n2 (.slice A2 ld.length c2) t r);have hbel:=(Below.refl w.heap.size w).alloc (Nat.le_refl _) (.cells (valD 2 n1 (.slice A1 ln.length c1) n2 (.slice A2 ld.length c2) t r) 26);have hr1:=hrn.keepB hbel;have hr2:=hrd.keepB hbel;obtain ⟨X,hX⟩ : ∃ X,validV 2 n1 n2 ln ld t r = X:=⟨_,rfl⟩;rw [hX];have HX:=hid hX.symm;clear hX;unfold valD at *
 obtain ⟨v1,v2,v3⟩:=hB.rules;go_enter Tryz.func21,Tryz.ntmps21;rcases n1 with _ | _
 case true => go_wp2_with fail; go_ret; exact ⟨by rw [HX.out]; simp [validV],hbel⟩
 rcases n2 with _ | _
 case true => go_wp2_with fail; go_ret; exact ⟨by rw [HX.out]; simp [validV],hbel⟩
 go_wp2_with fail;refine (well_any ln A1 c1 (by omega) hr1).mono ?_;rintro e w2 ⟨rfl,hbb⟩;have hB2:=hB.belowS hbb;have hbel2:=below_then hbel hbb hbel.size;have hr22:=hr2.keepB hbb;clear hB hbel hbb hr1 hr2 v1 v2 v3;obtain ⟨v1,v2,v3⟩:=hB2.rules;obtain ⟨W1,hW1⟩ : ∃ W1,wellV ln = W1:=⟨_,rfl⟩;rw [hW1];have HW1:=hid hW1;clear hW1;rcases W1 with _ | _
 case false => go_wp2_with fail; go_ret; exact ⟨by rw [HX.out]; simp [validV,HW1.out],hbel2⟩
 go_wp2_with fail;refine (well_any ld A2 c2 (by omega) hr22).mono ?_;rintro e w3 ⟨rfl,hbb⟩;have hB3:=hB2.belowS hbb;have hbel3:=below_then hbel2 hbb hbel2.size;clear hB2 hbel2 hbb hr22 v1 v2 v3;obtain ⟨v1,v2,v3⟩:=hB3.rules;obtain ⟨W2,hW2⟩ : ∃ W2,wellV ld = W2:=⟨_,rfl⟩;rw [hW2];have HW2:=hid hW2;clear hW2;rcases W2 with _ | _
 case false => go_wp2_with fail; go_ret; exact ⟨by rw [HX.out]; simp [validV,wellV_nil,HW1.out,HW2.out],hbel3⟩
 obtain ⟨mld,hmld⟩ : ∃ m,ld.length = m:=⟨_,rfl⟩;rw [hmld] at hB3 v1 ⊢;have HMld:=hid hmld;clear hmld
 by_cases hzld : mld = 0
 case neg =>
  obtain ⟨jld,rfl⟩ : ∃ j,mld = j + 1:=⟨mld - 1,by omega⟩;have HZ : Hid (¬ ld = []):=hid (by intro e; have h:=HMld.out; rw [e] at h; simp at h);have dld : decide ((0:Int) < ((jld + 1:Nat):Int)) = true:=decide_eq_true (by omega);have fld : decide ((0:Int) < (jld:Int) + 1) = true:=decide_eq_true (by omega);clear hzld HMld;go_wp2_with fail;go_ret;exact ⟨by rw [HX.out]; simp [validV,wellV_nil,HZ.out],hbel3⟩
 subst hzld;have HZld : Hid (ld = []):=hid (List.eq_nil_of_length_eq_zero HMld.out);clear HMld
 by_cases hzt : t = []
 case neg =>
  have b1 : (t == []) = false:=(by rw [beq_eq_false_iff_ne]; exact hzt);have b2 : (t != []) = true:=(by rw [bne_iff_ne]; exact hzt);have b3 : t.isEmpty = false:=by cases t with
   | nil => exact absurd rfl hzt
   | cons a r => rfl
  have HZ:=hid hzt;clear hzt;go_wp2_with fail;go_ret;exact ⟨by rw [HX.out]; simp [validV,wellV_nil,HZ.out],hbel3⟩
 subst hzt
 by_cases hzr : r = 0
 case neg =>
  have b1 : (r != 0) = true:=(by rw [bne_iff_ne]; exact hzr);have HZ:=hid hzr;clear hzr;go_wp2_with fail;go_ret;exact ⟨by rw [HX.out]; simp [validV,wellV_nil,HZ.out],hbel3⟩
 subst hzr;go_wp2_with fail;go_ret;exact ⟨by rw [HX.out]; simp [validV,wellV_nil,HW1.out,HW2.out,HZld.out],hbel3⟩
theorem lvalid3_all {w : World} (n1 n2 : Bool) (ln ld : List Nat) (A1 A2 : Option Addr) (c1 c2:Nat) (t : List UInt8) (r:Int) (hl1 : ln.length ≤ 9223372036854775807) (hl2 : ld.length ≤ 9223372036854775807) (ht : t.length ≤ 9223372036854775807) (hrn : Row w A1 (u32s ln)) (hrd : Row w A2 (u32s ld)) (hT : Tabs w) :
  Calls Tryz.prog 21 #[.agg (valD 3 n1 (.slice A1 ln.length c1) n2 (.slice A2 ld.length c2) t r)] w fun e w' => e = .returned (.bool (validV 3 n1 n2 ln ld t r))∧Below w.heap.size w w':=by
 have hB:=Blk.new w 26 (valD 3 n1 (.slice A1 ln.length c1) n2 (.slice A2 ld.length c2) t r);have hbel:=(Below.refl w.heap.size w).alloc (Nat.le_refl _) (.cells (valD 3 n1 (.slice A1 ln.length c1) n2 (.slice A2 ld.length c2) t r) 26);have hr1:=hrn.keepB hbel;have hr2:=hrd.keepB hbel;obtain ⟨X,hX⟩ : ∃ X,validV 3 n1 n2 ln ld t r = X:=⟨_,rfl⟩;rw [hX];have HX:=hid hX.symm;clear hX;unfold valD at *
 obtain ⟨v1,v2,v3⟩:=hB.rules;go_enter Tryz.func21,Tryz.ntmps21;rcases n1 with _ | _
 case true => go_wp2_with fail; go_ret; exact ⟨by rw [HX.out]; simp [validV],hbel⟩
 rcases n2 with _ | _
 case true => go_wp2_with fail; go_ret; exact ⟨by rw [HX.out]; simp [validV],hbel⟩
 go_wp2_with fail;refine (well_any ln A1 c1 (by omega) hr1).mono ?_;rintro e w2 ⟨rfl,hbb⟩;have hB2:=hB.belowS hbb;have hbel2:=below_then hbel hbb hbel.size;have hr22:=hr2.keepB hbb;clear hB hbel hbb hr1 hr2 v1 v2 v3;obtain ⟨v1,v2,v3⟩:=hB2.rules;obtain ⟨W1,hW1⟩ : ∃ W1,wellV ln = W1:=⟨_,rfl⟩;rw [hW1];have HW1:=hid hW1;clear hW1;rcases W1 with _ | _
 case false => go_wp2_with fail; go_ret; exact ⟨by rw [HX.out]; simp [validV,HW1.out],hbel2⟩
 go_wp2_with fail;refine (well_any ld A2 c2 (by omega) hr22).mono ?_;rintro e w3 ⟨rfl,hbb⟩;have hB3:=hB2.belowS hbb;have hbel3:=below_then hbel2 hbb hbel2.size;clear hB2 hbel2 hbb hr22 v1 v2 v3;obtain ⟨v1,v2,v3⟩:=hB3.rules;obtain ⟨W2,hW2⟩ : ∃ W2,wellV ld = W2:=⟨_,rfl⟩;rw [hW2];have HW2:=hid hW2;clear hW2;rcases W2 with _ | _
 case false => go_wp2_with fail; go_ret; exact ⟨by rw [HX.out]; simp [validV,wellV_nil,HW1.out,HW2.out],hbel3⟩
 by_cases hzt : t = []
 case neg =>
  have b1 : (t == []) = false:=(by rw [beq_eq_false_iff_ne]; exact hzt);have b2 : (t != []) = true:=(by rw [bne_iff_ne]; exact hzt);have b3 : t.isEmpty = false:=by cases t with
   | nil => exact absurd rfl hzt
   | cons a r => rfl
  have HZ:=hid hzt;clear hzt;go_wp2_with fail;go_ret;exact ⟨by rw [HX.out]; simp [validV,wellV_nil,HZ.out],hbel3⟩
 subst hzt
 by_cases hzr : r = 0
 case neg =>
  have b1 : (r != 0) = true:=(by rw [bne_iff_ne]; exact hzr);have HZ:=hid hzr;clear hzr;go_wp2_with fail;go_ret;exact ⟨by rw [HX.out]; simp [validV,wellV_nil,HZ.out],hbel3⟩
 subst hzr;go_wp2_with fail;go_ret;exact ⟨by rw [HX.out]; simp [validV,wellV_nil,HW1.out,HW2.out],hbel3⟩
theorem lvalid4_all {w : World} (n1 n2 : Bool) (ln ld : List Nat) (A1 A2 : Option Addr) (c1 c2:Nat) (t : List UInt8) (r:Int) (hl1 : ln.length ≤ 9223372036854775807) (hl2 : ld.length ≤ 9223372036854775807) (ht : t.length ≤ 9223372036854775807) (hrn : Row w A1 (u32s ln)) (hrd : Row w A2 (u32s ld)) (hT : Tabs w) :
  Calls Tryz.prog 21 #[.agg (valD 4 n1 (.slice A1 ln.length c1) n2 (.slice A2 ld.length c2) t r)] w fun e w' => e = .returned (.bool (validV 4 n1 n2 ln ld t r))∧Below w.heap.size w w':=by
 have hB:=Blk.new w 26 (valD 4 n1 (.slice A1 ln.length c1) n2 (.slice A2 ld.length c2) t r);have hbel:=(Below.refl w.heap.size w).alloc (Nat.le_refl _) (.cells (valD 4 n1 (.slice A1 ln.length c1) n2 (.slice A2 ld.length c2) t r) 26);have hr1:=hrn.keepB hbel;have hr2:=hrd.keepB hbel;obtain ⟨X,hX⟩ : ∃ X,validV 4 n1 n2 ln ld t r = X:=⟨_,rfl⟩;rw [hX];have HX:=hid hX.symm;clear hX;unfold valD at *
 obtain ⟨v1,v2,v3⟩:=hB.rules;go_enter Tryz.func21,Tryz.ntmps21;rcases n1 with _ | _
 case true => go_wp2_with fail; go_ret; exact ⟨by rw [HX.out]; simp [validV],hbel⟩
 rcases n2 with _ | _
 case true => go_wp2_with fail; go_ret; exact ⟨by rw [HX.out]; simp [validV],hbel⟩
 go_wp2_with fail;refine (well_any ln A1 c1 (by omega) hr1).mono ?_;rintro e w2 ⟨rfl,hbb⟩;have hB2:=hB.belowS hbb;have hbel2:=below_then hbel hbb hbel.size;have hr22:=hr2.keepB hbb;clear hB hbel hbb hr1 hr2 v1 v2 v3;obtain ⟨v1,v2,v3⟩:=hB2.rules;obtain ⟨W1,hW1⟩ : ∃ W1,wellV ln = W1:=⟨_,rfl⟩;rw [hW1];have HW1:=hid hW1;clear hW1;rcases W1 with _ | _
 case false => go_wp2_with fail; go_ret; exact ⟨by rw [HX.out]; simp [validV,HW1.out],hbel2⟩
 go_wp2_with fail;refine (well_any ld A2 c2 (by omega) hr22).mono ?_;rintro e w3 ⟨rfl,hbb⟩;have hB3:=hB2.belowS hbb;have hbel3:=below_then hbel2 hbb hbel2.size;clear hB2 hbel2 hbb hr22 v1 v2 v3;obtain ⟨v1,v2,v3⟩:=hB3.rules;obtain ⟨W2,hW2⟩ : ∃ W2,wellV ld = W2:=⟨_,rfl⟩;rw [hW2];have HW2:=hid hW2;clear hW2;rcases W2 with _ | _
 case false => go_wp2_with fail; go_ret; exact ⟨by rw [HX.out]; simp [validV,wellV_nil,HW1.out,HW2.out],hbel3⟩
 obtain ⟨mln,hmln⟩ : ∃ m,ln.length = m:=⟨_,rfl⟩;rw [hmln] at hB3 v1 ⊢;have HMln:=hid hmln;clear hmln
 by_cases hzln : mln = 0
 case neg =>
  obtain ⟨jln,rfl⟩ : ∃ j,mln = j + 1:=⟨mln - 1,by omega⟩;have HZ : Hid (¬ ln = []):=hid (by intro e; have h:=HMln.out; rw [e] at h; simp at h);have dln : decide ((0:Int) < ((jln + 1:Nat):Int)) = true:=decide_eq_true (by omega);have fln : decide ((0:Int) < (jln:Int) + 1) = true:=decide_eq_true (by omega);clear hzln HMln;go_wp2_with fail;go_ret;exact ⟨by rw [HX.out]; simp [validV,wellV_nil,HZ.out],hbel3⟩
 subst hzln;have HZln : Hid (ln = []):=hid (List.eq_nil_of_length_eq_zero HMln.out);clear HMln;obtain ⟨mld,hmld⟩ : ∃ m,ld.length = m:=⟨_,rfl⟩;rw [hmld] at hB3 v1 ⊢;have HMld:=hid hmld;clear hmld
 by_cases hzld : mld = 0
 case neg =>
  obtain ⟨jld,rfl⟩ : ∃ j,mld = j + 1:=⟨mld - 1,by omega⟩;have HZ : Hid (¬ ld = []):=hid (by intro e; have h:=HMld.out; rw [e] at h; simp at h);have dld : decide ((0:Int) < ((jld + 1:Nat):Int)) = true:=decide_eq_true (by omega);have fld : decide ((0:Int) < (jld:Int) + 1) = true:=decide_eq_true (by omega);clear hzld HMld;go_wp2_with fail;go_ret;exact ⟨by rw [HX.out]; simp [validV,wellV_nil,HZ.out],hbel3⟩
 subst hzld;have HZld : Hid (ld = []):=hid (List.eq_nil_of_length_eq_zero HMld.out);clear HMld
 by_cases hzr : r = 0
 case neg =>
  have b1 : (r != 0) = true:=(by rw [bne_iff_ne]; exact hzr);have HZ:=hid hzr;clear hzr;go_wp2_with fail;go_ret;exact ⟨by rw [HX.out]; simp [validV,wellV_nil,HZ.out],hbel3⟩
 subst hzr;have hT3:=hT.keepB hbel3;go_wp2_with fail;refine (Tryz.utf8_ValidString ⟨t.toArray⟩ _ (by simpa [ByteArray.size] using ht) hT3).mono ?_;rintro e w4 ⟨rfl,hbb⟩;have hb4:=below_then hbel3 hbb hbel3.size;go_wp2_with fail;go_ret;exact ⟨by rw [HX.out]; simp [validV,wellV_nil,HW1.out,HW2.out,HZln.out,HZld.out],hb4⟩
theorem lvalid5_all {w : World} (n1 n2 : Bool) (ln ld : List Nat) (A1 A2 : Option Addr) (c1 c2:Nat) (t : List UInt8) (r:Int) (hl1 : ln.length ≤ 9223372036854775807) (hl2 : ld.length ≤ 9223372036854775807) (ht : t.length ≤ 9223372036854775807) (hrn : Row w A1 (u32s ln)) (hrd : Row w A2 (u32s ld)) (hT : Tabs w) :
  Calls Tryz.prog 21 #[.agg (valD 5 n1 (.slice A1 ln.length c1) n2 (.slice A2 ld.length c2) t r)] w fun e w' => e = .returned (.bool (validV 5 n1 n2 ln ld t r))∧Below w.heap.size w w':=by
 have hB:=Blk.new w 26 (valD 5 n1 (.slice A1 ln.length c1) n2 (.slice A2 ld.length c2) t r);have hbel:=(Below.refl w.heap.size w).alloc (Nat.le_refl _) (.cells (valD 5 n1 (.slice A1 ln.length c1) n2 (.slice A2 ld.length c2) t r) 26);have hr1:=hrn.keepB hbel;have hr2:=hrd.keepB hbel;obtain ⟨X,hX⟩ : ∃ X,validV 5 n1 n2 ln ld t r = X:=⟨_,rfl⟩;rw [hX];have HX:=hid hX.symm;clear hX;unfold valD at *
 obtain ⟨v1,v2,v3⟩:=hB.rules;go_enter Tryz.func21,Tryz.ntmps21;rcases n1 with _ | _
 case true => go_wp2_with fail; go_ret; exact ⟨by rw [HX.out]; simp [validV],hbel⟩
 rcases n2 with _ | _
 case true => go_wp2_with fail; go_ret; exact ⟨by rw [HX.out]; simp [validV],hbel⟩
 go_wp2_with fail;refine (well_any ln A1 c1 (by omega) hr1).mono ?_;rintro e w2 ⟨rfl,hbb⟩;have hB2:=hB.belowS hbb;have hbel2:=below_then hbel hbb hbel.size;have hr22:=hr2.keepB hbb;clear hB hbel hbb hr1 hr2 v1 v2 v3;obtain ⟨v1,v2,v3⟩:=hB2.rules;obtain ⟨W1,hW1⟩ : ∃ W1,wellV ln = W1:=⟨_,rfl⟩;rw [hW1];have HW1:=hid hW1;clear hW1;rcases W1 with _ | _
 case false => go_wp2_with fail; go_ret; exact ⟨by rw [HX.out]; simp [validV,HW1.out],hbel2⟩
 go_wp2_with fail;refine (well_any ld A2 c2 (by omega) hr22).mono ?_;rintro e w3 ⟨rfl,hbb⟩;have hB3:=hB2.belowS hbb;have hbel3:=below_then hbel2 hbb hbel2.size;clear hB2 hbel2 hbb hr22 v1 v2 v3;obtain ⟨v1,v2,v3⟩:=hB3.rules;obtain ⟨W2,hW2⟩ : ∃ W2,wellV ld = W2:=⟨_,rfl⟩;rw [hW2];have HW2:=hid hW2;clear hW2;rcases W2 with _ | _
 case false => go_wp2_with fail; go_ret; exact ⟨by rw [HX.out]; simp [validV,wellV_nil,HW1.out,HW2.out],hbel3⟩
 obtain ⟨mln,hmln⟩ : ∃ m,ln.length = m:=⟨_,rfl⟩;rw [hmln] at hB3 v1 ⊢;have HMln:=hid hmln;clear hmln
 by_cases hzln : mln = 0
 case neg =>
  obtain ⟨jln,rfl⟩ : ∃ j,mln = j + 1:=⟨mln - 1,by omega⟩;have HZ : Hid (¬ ln = []):=hid (by intro e; have h:=HMln.out; rw [e] at h; simp at h);have dln : decide ((0:Int) < ((jln + 1:Nat):Int)) = true:=decide_eq_true (by omega);have fln : decide ((0:Int) < (jln:Int) + 1) = true:=decide_eq_true (by omega);clear hzln HMln;go_wp2_with fail;go_ret;exact ⟨by rw [HX.out]; simp [validV,wellV_nil,HZ.out],hbel3⟩
 subst hzln;have HZln : Hid (ln = []):=hid (List.eq_nil_of_length_eq_zero HMln.out);clear HMln;obtain ⟨mld,hmld⟩ : ∃ m,ld.length = m:=⟨_,rfl⟩;rw [hmld] at hB3 v1 ⊢;have HMld:=hid hmld;clear hmld
 by_cases hzld : mld = 0
 case neg =>
  obtain ⟨jld,rfl⟩ : ∃ j,mld = j + 1:=⟨mld - 1,by omega⟩;have HZ : Hid (¬ ld = []):=hid (by intro e; have h:=HMld.out; rw [e] at h; simp at h);have dld : decide ((0:Int) < ((jld + 1:Nat):Int)) = true:=decide_eq_true (by omega);have fld : decide ((0:Int) < (jld:Int) + 1) = true:=decide_eq_true (by omega);clear hzld HMld;go_wp2_with fail;go_ret;exact ⟨by rw [HX.out]; simp [validV,wellV_nil,HZ.out],hbel3⟩
 subst hzld;have HZld : Hid (ld = []):=hid (List.eq_nil_of_length_eq_zero HMld.out);clear HMld
 by_cases hzr : r = 0
 case neg =>
  have b1 : (r != 0) = true:=(by rw [bne_iff_ne]; exact hzr);have HZ:=hid hzr;clear hzr;go_wp2_with fail;go_ret;exact ⟨by rw [HX.out]; simp [validV,wellV_nil,HZ.out],hbel3⟩
 subst hzr;go_wp2_with fail;go_ret;exact ⟨by rw [HX.out]; simp [validV,wellV_nil,HW1.out,HW2.out,HZln.out,HZld.out],hbel3⟩
end
section
open Go.RowKit Go.Shelf Go.Lib
def octB (n:Nat) : Bool:=decide (n < 32) || decide (127 ≤ n)
theorem print1_any (n:Nat) (w : World) : Calls Tryz.prog 28 #[.int .i32 (n:Int)] w fun e w' => e = .returned (.bool (octB n))∧w = w':=by
 have HC:=hid (show octB n = (decide (n < 32) || decide (127 ≤ n)) from rfl);obtain ⟨B,hB⟩ : ∃ B,octB n = B:=⟨_,rfl⟩;rw [hB] at HC ⊢;clear hB;go_enter Tryz.func28,Tryz.ntmps28
 by_cases h1 : n < 32
 ·have d1 : decide ((n:Int) < 32) = true:=decide_eq_true (by omega);have HD : Hid (B = true):=hid (by rw [HC.out]; simp [h1]);clear h1 HC;go_wp2_with fail;go_ret;rw [HD.out]; exact ⟨rfl,rfl⟩
 ·have d1 : decide ((n:Int) < 32) = false:=decide_eq_false (by omega)
  by_cases h2 : 127 ≤ n
  ·have d2 : decide ((127:Int) ≤ (n:Int)) = true:=decide_eq_true (by omega);have HD : Hid (B = true):=hid (by rw [HC.out]; simp [h2]);clear h1 h2 HC;go_wp2_with fail;go_ret;rw [HD.out]; exact ⟨rfl,rfl⟩
  ·have d2 : decide ((127:Int) ≤ (n:Int)) = false:=decide_eq_false (by omega);have HD : Hid (B = false):=hid (by rw [HC.out]; simp [h1,h2]);clear h1 h2 HC;go_wp2_with fail;go_ret;rw [HD.out]; exact ⟨rfl,rfl⟩
theorem info_i32 : (Tryz.prog.info? 21).map (fun i => (i.zero,i.size,i.bytes)) = some (some (.int .i32 0),1,4):=by kernel_rfl
def octL (l : List UInt8) : List Nat:=l.map (·.toNat)
theorem octL_len (l : List UInt8) : (octL l).length = l.length:=by simp [octL]
theorem octL_lt (l : List UInt8) : ∀ r ∈ octL l,r < 256:=fun r h => by
 obtain ⟨x,_,rfl⟩:=List.mem_map.1 h;exact x.toNat_lt
theorem RRow.of_own {w : World} {b : Nat} {A : Option Addr} {c : Nat} {rs : List Nat} (h : w.ownsRow b 21 1 (.slice A rs.length c) rs.length (rcs rs)) : RRow w A rs:=by
 rcases h.2 with ⟨_,h0⟩ | ⟨g,cap,cur,hv,hbg,hg,hnc,_,hsz,ht⟩
 ·exact .inl (List.eq_nil_of_length_eq_zero h0)
 ·injection hv with hA _ _;subst hA;refine .inr ⟨g,cur,rfl,hg,fun j n hj => ?_⟩;have hjl : j < rs.length:=(List.getElem?_eq_some_iff.1 hj).1;have h1 : (rcs rs)[j]? = some (.int .i32 (n:Int)):=(by unfold rcs; rw [List.getElem?_map,hj]; rfl);rw [← ht,List.getElem?_take_of_lt (by omega),Array.getElem?_toList] at h1;exact h1
theorem rcs_snoc (d : List Nat) (x:Nat) : rcs (d ++ [x]) = rcs d ++ [.int .i32 (x:Int)]:=by simp [rcs]
theorem octets_any (s : List UInt8) (w : World) (hl : s.length ≤ 2097152) : Calls Tryz.prog 29 #[.string ⟨s.toArray⟩] w (RunPost w (octL s)):=by
 obtain ⟨iu,hiu,huz0,huz1,huz2⟩:=info_parts info_i32;obtain ⟨bb,hbb⟩ : ∃ b,w.heap.size = b:=⟨_,rfl⟩;have HB:=hid hbb;clear hbb;obtain ⟨c1,w1,hcv,hcell,hb1,hlt1⟩:=bytes_of s w;have hb0 : Below bb w w1:=by rw [← HB.out]; exact hb1
 have hbl : bb < w1.heap.size:=by rw [← HB.out]; exact hlt1
 rw [HB.out] at hcv hcell;have HC:=hid hcell;obtain ⟨b,hbe⟩ : ∃ b,w1.heap.size = b:=⟨_,rfl⟩;have HB1:=hid hbe;rw [hbe] at hbl;clear hcell hb1 hlt1 hbe;go_enter Tryz.func29,Tryz.ntmps29;go_wp2_with fail;clear hcv
 go_loopw [3,5,9] (fun v _ i wr => ∃ k : Nat,k ≤ s.length∧i = .int .i64 (k:Int)∧wr.ownsRow b 21 1 v k (rcs (octL (s.take k)))∧Below b w1 wr) (fun _ _ i _ => s.length - (RowKit.intOf i).toNat)
 case atStart => exact ⟨0,Nat.zero_le _,rfl,World.ownsRow_nil _ _ _ _,by rw [← HB1.out]; exact Below.refl _ _⟩
 case round =>
  obtain ⟨k,hk,rfl,hown,hb⟩:=hrel;have hbs:=hb.size;rw [HB1.out] at hbs
  by_cases hlt : k < s.length
  ·obtain ⟨x,hx⟩ : ∃ x,s[k]? = some x:=⟨s[k],List.getElem?_eq_getElem hlt⟩;have hcell : wr.cell? ⟨bb,k,none⟩ = some (.int .u8 (x.toNat:Int)):=(hb.cell (p:=⟨bb,k,none⟩) hbl).trans (HC.out k x hx);have hx8:=x.toNat_lt;have HTK:=hid (show octL (s.take (k + 1)) = octL (s.take k) ++ [x.toNat] from by unfold octL; rw [List.take_add_one,hx]; simp);have hw : IntKind.i32.wrap (x.toNat:Int) = (x.toNat:Int):=IntWalk.i32_in _ (by omega);clear hx;go_wp2_with (at_builtin; refine wpList_append_own_at _ rfl (.tmp 13) (.tmp 16) 118 rfl b 21 iu _ 1 4 Tryz.underlying118 hiu huz0 huz1 huz2 rfl (by decide) _ _ _ rfl (hown.alloc _) ⟨wr.heap.size,0,none⟩ 1 1 [_] rfl rfl (cell_one_new wr _ _) (by simp [Value.oneCell']) (by unfold maxLen; omega) (by omega) (by simp; omega) ?_; intro v2 w2 hown2 hg2 _ hat2);rw [← rcs_snoc,← HTK.out] at hown2;have hb2:=(hb.alloc hbs _).grown hg2 (by simp; omega) (fun g e => by have:=hown.lt g e; omega);go_roundw
   case rel => exact ⟨k + 1,by omega,by go_num,hown2,hb2⟩
   case measure => simp [RowKit.intOf]; omega
  ·obtain rfl : k = s.length:=(by omega);rw [List.take_length] at hown;obtain ⟨A,c,rfl,_,_⟩:=own_form hown;have hrr : RRow wr A (octL s):=RRow.of_own (by rw [octL_len]; exact hown);go_wp2_with fail;go_ret;exact ⟨A,c,by rw [octL_len]; rfl,hrr,by rw [HB.out]; exact below_then hb0 (by rw [HB1.out]; exact hb) (by rw [HB1.out]; omega)⟩
end
end Go.Proofs.YtonehlkiackhcaaGreatDoor