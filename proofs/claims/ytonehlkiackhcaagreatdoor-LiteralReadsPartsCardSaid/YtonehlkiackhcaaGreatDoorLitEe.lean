/- The literals: a field of a formatted string, as the reference reads it. Nothing is claimed here. -/
import Derived.Test.YtonehlkiackhcaaGreatDoorLitEc
import Derived.Test.YtonehlkiackhcaaGreatDoorLitEd
set_option linter.unusedVariables false
set_option maxRecDepth 100000
set_option maxHeartbeats 16000000
namespace Go.Proofs.YtonehlkiackhcaaGreatDoor
open Go.RowKit Go.Lib Go.Sort
section
variable {P : Program} {fn : Func} {R : Ending → World → Prop} {a : Act} {w : World} {p g t ty : Nat} {cs : Array Value}
theorem results_blk_tmp2 {q r : Nat} (hres : fn.results = #[.cell p ty,.tmp q,.tmp r]) (hp : a.tmps.getD p undef = .pointer (some ⟨g,0,none⟩)) (hB : Blk w g t cs) (d : TypeDesc) (hu : P.underlying ty = some d)
  (hd : (match d with | .struct _ | .array _ _ => true | _ => false) = true) (hi : (P.info? ty).map (·.size) = some cs.size) :
  (results fn a.tmps).run P w = .ok (.tuple #[.agg cs,a.tmps.getD q undef,a.tmps.getD r undef]) w:=by
 have hp' : a.tmps[p]?.getD undef = .pointer (some ⟨g,0,none⟩):=by simpa using hp
 simp [results,hres,hp',asAddr,run_loadVar_row w g t ty cs (0,0) d hB hu hd hi]
theorem ret_blk_tmp2 {q r : Nat} (hres : fn.results = #[.cell p ty,.tmp q,.tmp r]) (hp : a.tmps.getD p undef = .pointer (some ⟨g,0,none⟩)) (hB : Blk w g t cs) (d : TypeDesc) (hu : P.underlying ty = some d)
  (hd : (match d with | .struct _ | .array _ _ => true | _ => false) = true) (hi : (P.info? ty).map (·.size) = some cs.size) (hdf : a.defers = []) (v v2 : Value) (hv : a.tmps.getD q undef = v) (hv2 : a.tmps.getD r undef = v2)
  (hR : R (.returned (.tuple #[.agg cs,v,v2])) w) : bodyPost P fn R .ret a w:=by
 subst hv hv2;exact bodyPost_ret (results_blk_tmp2 hres hp hB d hu hd hi) hdf hR
end
theorem arr4 {C : Array Value} (h : C.size = 4) : ∃ c0 c1 c2 c3,C = #[c0,c1,c2,c3]:=by
 refine ⟨C[0]'(by omega),C[1]'(by omega),C[2]'(by omega),C[3]'(by omega),?_⟩;apply Array.ext
 ·simpa using h
 ·intro i h1 h2
  match i,h1 with
  | 0,_ => rfl
  | 1,_ => rfl
  | 2,_ => rfl
  | 3,_ => rfl
  | n + 4,h => omega
theorem badField_any (C : Array Value) (frm : Nat) (x : Sht) (j k : Nat) (w : World) (hk : (if x.lim ≤ j then frm else j) = k) (hC : C.size = 4 ∧ C.all (·.oneCell') = true) :
  Calls Tryz.prog 97 #[.agg C,.int .i64 (frm : Int),.agg (shtC x),.int .i64 (j : Int)] w fun e w' => e = .returned (.tuple #[.agg C,.int .i64 (k : Int),.bool false]) ∧ Below w.heap.size w w':=by
 obtain ⟨hC4,hCo⟩:=hC;obtain ⟨c0,c1,c2,c3,rfl⟩:=arr4 hC4;have hP0:=Blk.new w 91 #[c0,c1,c2,c3];have hb0:=(Below.refl w.heap.size w).alloc (Nat.le_refl _) (.cells #[c0,c1,c2,c3] 91);have hX0:=Blk.new (w.alloc (.cells #[c0,c1,c2,c3] 91)) 85 (shtC x);have hR0:=Blk.new ((w.alloc (.cells #[c0,c1,c2,c3] 91)).alloc (.cells (shtC x) 85)) 91 #[.bool false,.string ⟨#[]⟩,.int .i64 0,.string ⟨#[]⟩];have hP1:=(hP0.alloc (.cells (shtC x) 85)).alloc (.cells #[.bool false,.string ⟨#[]⟩,.int .i64 0,.string ⟨#[]⟩] 91);have hX1:=hX0.alloc (.cells #[.bool false,.string ⟨#[]⟩,.int .i64 0,.string ⟨#[]⟩] 91);have hb1:=(hb0.alloc (by simp) (.cells (shtC x) 85)).alloc (by simp; omega) (.cells #[.bool false,.string ⟨#[]⟩,.int .i64 0,.string ⟨#[]⟩] 91);obtain ⟨a,ha⟩ : ∃ a,w.heap.size = a:=⟨_,rfl⟩;have e1 : (w.alloc (.cells #[c0,c1,c2,c3] 91)).heap.size = a + 1:=by simp; omega
 have e2 : ((w.alloc (.cells #[c0,c1,c2,c3] 91)).alloc (.cells (shtC x) 85)).heap.size = a + 2:=by simp; omega
 rw [e1] at hX1;rw [e2] at hR0;rw [ha] at hP1 hb1;have HA:=Lib.hid ha;have HCO:=Lib.hid hCo;have HKK:=Lib.hid hk;clear hP0 hX0 hb0 e1 e2 hC4 hCo hk;unfold shtC at hX1 hR0 hP1 hb1 ⊢;go_enter Tryz.func97,Tryz.ntmps97
 go_upto_region 1 with fail
 generalize ((w.alloc (.cells #[c0,c1,c2,c3] 91)).alloc (.cells #[.int .u8 (x.pre.toNat : Int),.int .u8 (x.quo.toNat : Int),.int .i64 (x.frm : Int),.int .i64 (x.lim : Int)] 85)).alloc (.cells #[.bool false,.string ⟨#[]⟩,.int .i64 0,.string ⟨#[]⟩] 91) = w1 at hX1 hR0 hP1 hb1 ⊢;clear ha;obtain ⟨q1,q2,q3⟩:=hX1.rules
 by_cases hlj : x.lim ≤ j
 ·have hd : decide ((j : Int) ≥ (x.lim : Int)) = true:=decide_eq_true (by omega);have HK2 : Hid (frm = k):=Lib.hid (by rw [← HKK.out,if_pos hlj]);go_wp2_with (first | refine wpList_load_row rfl 91 (.tmp 4) rfl a rfl 91 #[c0,c1,c2,c3] (0,0) _ hP1 Tryz.underlying91 rfl (by kernel_rfl) ?_ | refine wpList_store_row rfl 91 (.tmp 8) (.tmp 16) rfl (a + 2) #[c0,c1,c2,c3] rfl rfl 91 #[.bool false,.string ⟨#[]⟩,.int .i64 0,.string ⟨#[]⟩] hR0 (by kernel_rfl) rfl HCO.out ?_);refine ret_blk_tmp2 rfl rfl (hR0.setRow _) _ Tryz.underlying91 rfl (by kernel_rfl) rfl _ _ rfl rfl ⟨by rw [HK2.out]; rfl,by rw [HA.out]; exact Go.below_setRow hb1 (by omega) _⟩
 ·have hd : decide ((j : Int) ≥ (x.lim : Int)) = false:=decide_eq_false (by omega);have HK2 : Hid (j = k):=Lib.hid (by rw [← HKK.out,if_neg hlj]);go_wp2_with (first | refine wpList_load_row rfl 91 (.tmp 4) rfl a rfl 91 #[c0,c1,c2,c3] (0,0) _ hP1 Tryz.underlying91 rfl (by kernel_rfl) ?_ | refine wpList_store_row rfl 91 (.tmp 8) (.tmp 16) rfl (a + 2) #[c0,c1,c2,c3] rfl rfl 91 #[.bool false,.string ⟨#[]⟩,.int .i64 0,.string ⟨#[]⟩] hR0 (by kernel_rfl) rfl HCO.out ?_);refine ret_blk_tmp2 rfl rfl (hR0.setRow _) _ Tryz.underlying91 rfl (by kernel_rfl) rfl _ _ rfl rfl ⟨by rw [← HK2.out]; rfl,by rw [HA.out]; exact Go.below_setRow hb1 (by omega) _⟩
end Go.Proofs.YtonehlkiackhcaaGreatDoor
