/- The literals: a character as the reference shows it. Nothing is claimed here. -/
import Derived.Test.YtonehlkiackhcaaGreatDoorLitIr
set_option linter.unusedVariables false
set_option linter.unusedSimpArgs false
set_option maxRecDepth 100000
set_option maxHeartbeats 16000000
namespace Go.Proofs.YtonehlkiackhcaaGreatDoor
section
open Go.RowKit Go.Lib Go.Maps
theorem lawi : Keyed Tryz.prog 3:=int_keyed Tryz.underlying3
theorem ownsMap_belowS {w w' : World} {k : TypeId} {R : Value → Option (DataW Unit × List MemPlace)} {b n : Nat} {D : DataW Unit} (h : w.ownsMap Tryz.prog k R b n D) (hb : Below w.heap.size w w') : w'.ownsMap Tryz.prog k R b n D:=by
 have hlt:=h.lt;obtain ⟨es,clock,hk,F,hs,hD⟩:=h;exact ⟨es,clock,(hb.block b hlt).trans hk,F,hs,hD⟩
def Cnt (w : World) (mb p q j o:Nat) : Prop:=∃ (n:Nat) (D : DataW Unit),n ≤ j + o∧w.ownsMap Tryz.prog 3 (plainElem (H:=Unit) Tryz.prog 3) mb n D∧D.atKey (.int .i64 (p:Int)) (.lit (.int .i64 0)) = .lit (.int .i64 (j:Int))∧D.atKey (.int .i64 (q:Int)) (.lit (.int .i64 0)) = .lit (.int .i64 (o:Int))
theorem Cnt.swap {w : World} {mb p q j o : Nat} (h : Cnt w mb p q j o) : Cnt w mb q p o j:=by
 obtain ⟨n,D,hn,h1,h2,h3⟩:=h;exact ⟨n,D,by omega,h1,h3,h2⟩
theorem Cnt.new (w : World) (p q:Nat) : Cnt (w.alloc (.map #[] 0)) w.heap.size p q 0 0:=⟨0,.map [],Nat.le_refl _,World.ownsMap_made w Tryz.prog 3 (plainElem (H:=Unit) Tryz.prog 3),rfl,rfl⟩
theorem Cnt.belowS {w w' : World} {mb p q j o : Nat} (h : Cnt w mb p q j o) (hb : Below w.heap.size w w') : Cnt w' mb p q j o:=by
 obtain ⟨n,D,hn,h1,h2,h3⟩:=h;exact ⟨n,D,hn,ownsMap_belowS h1 hb,h2,h3⟩
theorem Cnt.lt {w : World} {mb p q j o : Nat} (h : Cnt w mb p q j o) : mb < w.heap.size:=by
 obtain ⟨n,D,hn,h1,h2,h3⟩:=h;exact h1.lt
theorem key_i64 {p : Nat} (hp : p < 1000000) : keyOf Tryz.prog 3 (.int .i64 (p:Int)) = some (.int .i64 (p:Int)):=keyOf_int_mk Tryz.underlying3 (WalkArith.wf_i64 ⟨by omega,by omega⟩)
theorem Cnt.look {w : World} {mb p q j o : Nat} (h : Cnt w mb p q j o) (hp : p < 1000000) : (Instr.lookup 123 (.map (some mb)) (.int .i64 (p:Int)) false).run Tryz.prog w = .ok (.int .i64 (j:Int)) w:=by
 obtain ⟨n,D,hn,h1,h2,h3⟩:=h;obtain ⟨x,hrun,hat,hwf⟩:=h1.lookup_int lawi Tryz.underlying123 Tryz.underlying3 (zeroInt _) (key_i64 hp);have e:=h2.symm.trans hat;simp only [DataW.lit.injEq,Lit.int.injEq,true_and] at e;rw [e];exact hrun
theorem Cnt.put {w : World} {mb p q j o : Nat} (h : Cnt w mb p q j o) (hp : p < 1000000) (hpq : p ≠ q) (hj : j + o < 1000000) :
  ∃ w',(Instr.mapUpdate 123 (.map (some mb)) (.int .i64 (p:Int)) (.int .i64 ((j:Int) + 1))).run Tryz.prog w = .ok () w'∧Cnt w' mb p q (j + 1) o∧w.grownBy w' (some mb):=by
 obtain ⟨n,D,hn,h1,h2,h3⟩:=h;obtain ⟨w1,r1,o1,g1⟩:=h1.update lawi Tryz.underlying123 (by unfold maxLen; omega) (key_i64 hp) (plainElem_int (a:=((j:Int) + 1)) Tryz.underlying3 (WalkArith.wf_i64 ⟨by omega,by omega⟩));refine ⟨w1,r1,⟨n + 1,_,by omega,o1,?_,?_⟩,g1⟩
 ·exact atKey_put_same h1.isMap (by simp [WideAt.IsKeyLit]) _ _
 ·rw [atKey_put_other (by intro e; injection e with _ e; omega)];exact h3
noncomputable def cntAt (mb p:Nat) (w : World) : Nat:=match (Instr.lookup 123 (.map (some mb)) (.int .i64 (p:Int)) false).run Tryz.prog w with
 | .ok v _ => (RowKit.intOf v).toNat
 | _ => 0
theorem Cnt.at {w : World} {mb p q j o : Nat} (h : Cnt w mb p q j o) (hp : p < 1000000) : cntAt mb p w = j:=by
 unfold cntAt;rw [h.look hp];simp [RowKit.intOf]
end
section
open Go.RowKit Go.Lib Go.Sort
structure FrM (w : World) (mb bb:Nat) (wi : World) : Prop where
 p : Blk wi w.heap.size 29 #[.int .i64 0,.int .i64 0]
 bel : Below w.heap.size w wi
 hmb : w.heap.size < mb
 hne : bb ≠ mb
 mlt : mb < wi.heap.size
 blt : bb < wi.heap.size
 c0 : wi.cell? ⟨bb,0,none⟩ = some (.int .i64 2)
 c1 : wi.cell? ⟨bb,1,none⟩ = some (.int .i64 5)
theorem FrM.step {w wi wj : World} {mb bb : Nat} (h : FrM w mb bb wi) (hb : Below wi.heap.size wi wj) : FrM w mb bb wj :=
 ⟨h.p.belowS hb,below_then h.bel hb h.bel.size,h.hmb,h.hne,Nat.lt_of_lt_of_le h.mlt hb.size,Nat.lt_of_lt_of_le h.blt hb.size,(hb.cell (p:=⟨bb,0,none⟩) h.blt).trans h.c0,(hb.cell (p:=⟨bb,1,none⟩) h.blt).trans h.c1⟩
theorem cell_grown {w w' : World} {g mb off : Nat} (hg : w.grownBy w' (some mb)) (hne : g ≠ mb) (hlt : g < w.heap.size) : w'.cell? ⟨g,off,none⟩ = w.cell? ⟨g,off,none⟩:=by
 have h:=hg.block g hlt (fun e => hne (by injection e));unfold World.cell?;rw [h]
theorem FrM.grow {w wi wj : World} {mb bb : Nat} (h : FrM w mb bb wi) (hg : wi.grownBy wj (some mb)) : FrM w mb bb wj:=by
 have hlt:=h.p.lt;have hmb:=h.hmb;refine ⟨(hg.block w.heap.size hlt (fun e => by injection e with e; omega)).trans h.p,h.bel.grown hg h.bel.size (fun k e => by injection e with e; omega),h.hmb,h.hne,Nat.lt_of_lt_of_le h.mlt hg.size,Nat.lt_of_lt_of_le h.blt hg.size,?_,?_⟩
 ·rw [cell_grown hg h.hne h.blt]; exact h.c0
 ·rw [cell_grown hg h.hne h.blt]; exact h.c1
def FrS (d:Nat) : Nat → Nat → Nat → Nat → Prop
 | 0,x,a,b => x = d∧a = 0∧b = 0
 | 1,x,a,b => (d = x * 2 ^ a∧(d = 0 → a = 0))∧(x % 2 ≠ 0∨x = 0)∧b = 0
 | _,x,a,b => ∃ m1,(d = m1 * 2 ^ a∧(d = 0 → a = 0))∧(m1 % 2 ≠ 0∨m1 = 0)∧(m1 = x * 5 ^ b∧(m1 = 0 → b = 0))∧(x % 5 ≠ 0∨x = 0)
theorem FrS.le {d k x a b : Nat} (h : FrS d k x a b) : x ≤ d:=by
 unfold FrS at h;split at h
 ·omega
 ·rw [h.1.1]; exact Nat.le_mul_of_pos_right _ (Nat.pow_pos (by decide))
 ·obtain ⟨m1,h1,_,h2,_⟩:=h;rw [h1.1];refine Nat.le_trans ?_ (Nat.le_mul_of_pos_right _ (Nat.pow_pos (by decide)));rw [h2.1];exact Nat.le_mul_of_pos_right _ (Nat.pow_pos (by decide))
theorem dlim (N K:Nat) (h : N < 2 ^ (3 * K)) : (dig 10 N).length ≤ K:=by
 refine dig_len (by decide) K N (Nat.lt_of_lt_of_le h ?_);rw [Nat.pow_mul];exact Nat.pow_le_pow_left (by decide) K
theorem dlim_any (n i j:Nat) (hn : (lg n).length ≤ 128) (hi : i ≤ 4096) (hj : j ≤ 4096) : (dig 10 (n * 2 ^ i * 5 ^ j)).length ≤ 6827:=by
 have h:=lg_pow n 128 hn;obtain ⟨a,ha⟩ : ∃ a,32 * 128 = a:=⟨_,rfl⟩;rw [ha] at h;obtain ⟨K,hK⟩ : ∃ K,6827 = K:=⟨_,rfl⟩;have h1:=dlim _ K (big_bd n a i j (3 * K) h (by omega));omega
def sLen : Value → Nat
 | .string b => b.size
 | _ => 0
theorem fraction_any {w : World} (n d:Nat) (A1 A2 : Option Addr) (c1 c2:Nat) (hn : (lg n).length ≤ 128) (hd : (lg d).length ≤ 128) (hrn : Row w A1 (i64s (dig 10 n))) (hrd : Row w A2 (i64s (dig 10 d))) :
  Calls Tryz.prog 33 #[.slice A1 (dig 10 n).length c1,.slice A2 (dig 10 d).length c2] w (FinPost w n d):=by
 have hdK:=lg_pow d 128 hd;have hlim:=fun i j => dlim_any n i j hn;have hdl : (dig 10 d).length ≤ 6827:=by have:=dlim_any d 0 0 hd (by decide) (by decide); simpa using this
 have hnl : (dig 10 n).length ≤ 6827:=by have:=dlim_any n 0 0 hn (by decide) (by decide); simpa using this
 obtain ⟨K,hK⟩ : ∃ K,32 * 128 = K:=⟨_,rfl⟩;rw [hK] at hdK;have hK2 : K ≤ 4096:=by omega
 have HKD:=hid hdK;clear hK hdK hn hd;have hF0:=Blk.new w 29 #[.int .i64 0,.int .i64 0];have hb0:=(Below.refl w.heap.size w).alloc (Nat.le_refl _) (.cells #[.int .i64 0,.int .i64 0] 29);have hmm:=@run_makeMap Tryz.prog;go_enter Tryz.func33,Tryz.ntmps33;go_wp2_with fail;obtain ⟨w1,hw1⟩ : ∃ w1,w.alloc (.cells #[.int .i64 0,.int .i64 0] 29) = w1:=⟨_,rfl⟩;have hs1 : w1.heap.size = w.heap.size + 1:=by rw [← hw1]; simp
 have hC1:=Cnt.new w1 2 5;have hF1:=hF0.alloc (.map #[] 0);have hb1:=hb0.alloc hb0.size (.map #[] 0);rw [hw1] at hF1 hb1 ⊢;obtain ⟨w2,hw2⟩ : ∃ w2,w1.alloc (.map #[] 0) = w2:=⟨_,rfl⟩;have hs2 : w2.heap.size = w.heap.size + 2:=by rw [← hw2]; simp [hs1]
 rw [hw2] at hF1 hb1 hC1 ⊢;have hB:=Blk.new w2 3 #[.int .i64 2,.int .i64 5];have ba:=(Below.refl w2.heap.size w2).alloc (Nat.le_refl _) (.cells #[.int .i64 2,.int .i64 5] 3);obtain ⟨w3,hw3⟩ : ∃ w3,w2.alloc (.cells #[.int .i64 2,.int .i64 5] 3) = w3:=⟨_,rfl⟩;rw [hw3] at hB ba ⊢;rw [hs1] at hC1;obtain ⟨mb,hmb⟩ : ∃ mb,w.heap.size + 1 = mb:=⟨_,rfl⟩;rw [hmb] at hC1 ⊢;have hM : FrM w mb w2.heap.size w3:=⟨hF1.belowS ba,below_then hb1 ba hb1.size,by omega,by omega,Nat.lt_of_lt_of_le (by omega) ba.size,hB.lt,hB.cell 0,hB.cell 1⟩;have hC3:=hC1.belowS ba;obtain ⟨bb,hbb2⟩ : ∃ bb,mb + 1 = bb:=⟨_,rfl⟩;rw [show w2.heap.size = bb by omega] at hM;rw [hbb2];clear hw1 hw2 hw3 hs1 hF0 hb0 hF1 hb1 hB ba hC1 hs2 hbb2 hmb
 go_loopw [1,8,9,10,22] (fun den _ _ _ i wr => ∃ (k x a b:Nat) (A : Option Addr) (c:Nat),k ≤ 2∧i = .int .i64 (k:Int)∧den = .slice A (dig 10 x).length c∧Row wr A (i64s (dig 10 x))∧Hid (FrS d k x a b)∧a ≤ K∧b ≤ K∧Cnt wr mb 2 5 a b∧FrM w mb bb wr) (fun _ _ _ _ i _ => 2 - (RowKit.intOf i).toNat)
 case atStart => exact ⟨0,d,0,0,A2,c2,by omega,rfl,rfl,hrd.keepB hM.bel,hid ⟨rfl,rfl,rfl⟩,Nat.zero_le _,Nat.zero_le _,hC3,hM⟩
 case round =>
  clear hC3 hM hrd;obtain ⟨k,x0,a,b,A,c,hk,rfl,rfl,hr,HS,haK,hbK,hcn0,hM⟩:=hrel;have hbl:=Nat.le_trans (dig10_mono HS.out.le) hdl;have HK:=hid (Nat.lt_of_le_of_lt HS.out.le HKD.out);rcases (show k = 0∨k = 1∨k = 2 by omega) with rfl | rfl | rfl
  ·obtain ⟨h1,rfl,rfl⟩:=HS.out;have HS0:=hid h1;clear h1 HS;rw [show (((0:Nat):Int)) = (0:Int) from rfl];have hcp : wr.cell? ⟨bb,0,none⟩ = some (.int .i64 2):=hM.c0;obtain ⟨wo,rfl⟩ : ∃ wo : World,wo = wr:=⟨_,rfl⟩;go_wp2_with fail
   go_loopw [1,9,10] (fun den _ _ wi => ∃ (x j:Nat) (A : Option Addr) (c:Nat),den = .slice A (dig 10 x).length c∧Row wi A (i64s (dig 10 x))∧Hid (x0 = x * 2 ^ j∧(x0 = 0 → j = 0))∧j ≤ K∧Cnt wi mb 2 5 j 0∧FrM w mb bb wi) (fun _ _ _ wi => K - cntAt mb 2 wi)
   case atStart => exact ⟨x0,0,A,c,rfl,hr,hid ⟨by simp,fun _ => rfl⟩,Nat.zero_le _,hcn0,hM⟩
   case round =>
    obtain ⟨x,j,A7,c7,rfl,hr7,HX,hjK,hcn,hM7⟩:=hrel;have hxb : x ≤ x0:=(by rw [HX.out.1]; exact Nat.le_mul_of_pos_right _ (Nat.pow_pos (by decide)));have hxl:=Nat.le_trans (dig10_mono hxb) hbl;have hat:=hcn.at (p:=2) (by decide);clear hM hr hcp hxb;have hcp : wr.cell? ⟨bb,0,none⟩ = some (.int .i64 2):=hM7.c0;go_wp2_with fail;refine (dquo_any x 2 A7 c7 (by omega) (by decide) (by decide) hr7).mono ?_;rintro e w2 ⟨⟨c8,rfl,hc8,hr8⟩,hbb⟩;have hM8:=hM7.step hbb;have hcn8:=hcn.belowS hbb;have hr78:=hr7.keepB hbb;have hgt:=hM7.mlt;obtain ⟨g8,hg8⟩ : ∃ g8,wr.heap.size = g8:=⟨_,rfl⟩;rw [hg8] at hr8 hgt ⊢;clear hM7 hbb hcn hr7 hcp hg8 hc8;have HDM:=hid (show x % 2 + 2 * (x / 2) = x from Nat.mod_add_div x 2);obtain ⟨r8,hr8e⟩ : ∃ r8,x % 2 = r8:=⟨_,rfl⟩;obtain ⟨y,hy⟩ : ∃ y,x / 2 = y:=⟨_,rfl⟩;have HRE:=hid hr8e;rw [hr8e,hy] at HDM;rw [hy] at hr8;rw [hr8e,hy];clear hr8e hy
    by_cases h1 : r8 = 0
    ·have h1b : ((r8:Int) != 0) = false:=by rw [bne_eq_false_iff_eq]; omega
     by_cases h2 : x = 0
     ·have h2b : (((dig 10 x).length:Int) == 0) = true:=(by rw [beq_iff_eq,h2,dig_zero]; rfl);have HE:=hid (show x % 2 ≠ 0∨x = 0 from .inr h2);clear h1 h2;go_wp2_with fail;go_roundw
      case rel => exact ⟨1,x,j,0,_,c7,by omega,by first | rfl | go_num,rfl,hr78,hid ⟨by rw [← HS0.out]; exact HX.out,HE.out,rfl⟩,hjK,Nat.zero_le _,hcn8,hM8⟩
      case measure => simp [RowKit.intOf]
     ·have h2b : (((dig 10 x).length:Int) == 0) = false:=by
       rw [beq_eq_false_iff_ne];have:=mt dig_len0.1 h2;omega
      have hjK2 : j < K:=by
       have h3:=HX.out.1;have h4 : 2 ^ j ≤ 2 ^ j:=Nat.pow_le_pow_left (by decide) j;have h5 : 2 ^ j ≤ x * 2 ^ j:=Nat.le_mul_of_pos_left _ (by omega);have h6 : 2 ^ j < 2 ^ K:=(by rw [← h3] at h5; exact Nat.lt_of_le_of_lt (Nat.le_trans h4 h5) HK.out);exact (Nat.pow_lt_pow_iff_right (by decide)).1 h6
      have hl:=hcn8.look (p:=2) (by decide);obtain ⟨w3,hup,hcn9,hgr⟩:=hcn8.put (p:=2) (by decide) (by decide) (by omega);simp only [show ((2:Nat):Int) = 2 from rfl] at hl hup;have hw1 : IntKind.i64.wrap ((j:Int) + 1) = (j:Int) + 1:=IntWalk.i64_in _ (by omega);have hM9:=hM8.grow hgr;have hr9:=row_grown hr8 hgr (fun g off e1 e2 => by injection e1 with e1; injection e1 with e1 _; injection e2 with e2; omega);have hat9:=hcn9.at (p:=2) (by decide);have HX9 : Hid (x0 = y * 2 ^ (j + 1)∧(x0 = 0 → j + 1 = 0)):=hid (by
       have h3:=HX.out.1;have h4:=HDM.out;rw [h1,Nat.zero_add] at h4;refine ⟨by rw [Nat.pow_succ,Nat.mul_comm (2 ^ j),← Nat.mul_assoc,Nat.mul_comm y,h4]; exact h3,fun h0 => ?_⟩;exfalso;rw [h0] at h3;have h5 : 0 < x * 2 ^ j:=Nat.mul_pos (by omega) (Nat.pow_pos (by decide));omega)
      clear h1 h2 hM8 hcn8 hgr hr8 hr78;go_wp2_with fail;go_roundw
      case rel => exact ⟨y,j + 1,_,c8,rfl,hr9,HX9,by omega,hcn9,hM9⟩
      case measure => rw [hat,hat9]; omega
    ·have h1b : ((r8:Int) != 0) = true:=(by rw [bne_iff_ne]; omega);have HE:=hid (show x % 2 ≠ 0∨x = 0 from .inl (by rw [HRE.out]; exact h1));clear h1;go_wp2_with fail;go_roundw
     case rel => exact ⟨1,x,j,0,_,c7,by omega,by first | rfl | go_num,rfl,hr78,hid ⟨by rw [← HS0.out]; exact HX.out,HE.out,rfl⟩,hjK,Nat.zero_le _,hcn8,hM8⟩
     case measure => simp [RowKit.intOf]
  ·obtain ⟨h1,h2,rfl⟩:=HS.out;have HS0:=hid (And.intro h1 h2);clear h1 h2 HS;rw [show (((1:Nat):Int)) = (1:Int) from rfl];have hcp : wr.cell? ⟨bb,1,none⟩ = some (.int .i64 5):=hM.c1;obtain ⟨wo,rfl⟩ : ∃ wo : World,wo = wr:=⟨_,rfl⟩;go_wp2_with fail
   go_loopw [1,9,10] (fun den _ _ wi => ∃ (x j:Nat) (A : Option Addr) (c:Nat),den = .slice A (dig 10 x).length c∧Row wi A (i64s (dig 10 x))∧Hid (x0 = x * 5 ^ j∧(x0 = 0 → j = 0))∧j ≤ K∧Cnt wi mb 5 2 j a∧FrM w mb bb wi) (fun _ _ _ wi => K - cntAt mb 5 wi)
   case atStart => exact ⟨x0,0,A,c,rfl,hr,hid ⟨by simp,fun _ => rfl⟩,Nat.zero_le _,hcn0.swap,hM⟩
   case round =>
    obtain ⟨x,j,A7,c7,rfl,hr7,HX,hjK,hcn,hM7⟩:=hrel;have hxb : x ≤ x0:=(by rw [HX.out.1]; exact Nat.le_mul_of_pos_right _ (Nat.pow_pos (by decide)));have hxl:=Nat.le_trans (dig10_mono hxb) hbl;have hat:=hcn.at (p:=5) (by decide);clear hM hr hcp hxb;have hcp : wr.cell? ⟨bb,1,none⟩ = some (.int .i64 5):=hM7.c1;go_wp2_with fail;refine (dquo_any x 5 A7 c7 (by omega) (by decide) (by decide) hr7).mono ?_;rintro e w2 ⟨⟨c8,rfl,hc8,hr8⟩,hbb⟩;have hM8:=hM7.step hbb;have hcn8:=hcn.belowS hbb;have hr78:=hr7.keepB hbb;have hgt:=hM7.mlt;obtain ⟨g8,hg8⟩ : ∃ g8,wr.heap.size = g8:=⟨_,rfl⟩;rw [hg8] at hr8 hgt ⊢;clear hM7 hbb hcn hr7 hcp hg8 hc8;have HDM:=hid (show x % 5 + 5 * (x / 5) = x from Nat.mod_add_div x 5);obtain ⟨r8,hr8e⟩ : ∃ r8,x % 5 = r8:=⟨_,rfl⟩;obtain ⟨y,hy⟩ : ∃ y,x / 5 = y:=⟨_,rfl⟩;have HRE:=hid hr8e;rw [hr8e,hy] at HDM;rw [hy] at hr8;rw [hr8e,hy];clear hr8e hy
    by_cases h1 : r8 = 0
    ·have h1b : ((r8:Int) != 0) = false:=by rw [bne_eq_false_iff_eq]; omega
     by_cases h2 : x = 0
     ·have h2b : (((dig 10 x).length:Int) == 0) = true:=(by rw [beq_iff_eq,h2,dig_zero]; rfl);have HE:=hid (show x % 5 ≠ 0∨x = 0 from .inr h2);clear h1 h2;go_wp2_with fail;go_roundw
      case rel => exact ⟨2,x,a,j,_,c7,by omega,by first | rfl | go_num,rfl,hr78,hid ⟨x0,HS0.out.1,HS0.out.2,HX.out,HE.out⟩,haK,hjK,hcn8.swap,hM8⟩
      case measure => simp [RowKit.intOf]
     ·have h2b : (((dig 10 x).length:Int) == 0) = false:=by
       rw [beq_eq_false_iff_ne];have:=mt dig_len0.1 h2;omega
      have hjK2 : j < K:=by
       have h3:=HX.out.1;have h4 : 2 ^ j ≤ 5 ^ j:=Nat.pow_le_pow_left (by decide) j;have h5 : 5 ^ j ≤ x * 5 ^ j:=Nat.le_mul_of_pos_left _ (by omega);have h6 : 2 ^ j < 2 ^ K:=(by rw [← h3] at h5; exact Nat.lt_of_le_of_lt (Nat.le_trans h4 h5) HK.out);exact (Nat.pow_lt_pow_iff_right (by decide)).1 h6
      have hl:=hcn8.look (p:=5) (by decide);obtain ⟨w3,hup,hcn9,hgr⟩:=hcn8.put (p:=5) (by decide) (by decide) (by omega);simp only [show ((5:Nat):Int) = 5 from rfl] at hl hup;have hw1 : IntKind.i64.wrap ((j:Int) + 1) = (j:Int) + 1:=IntWalk.i64_in _ (by omega);have hM9:=hM8.grow hgr;have hr9:=row_grown hr8 hgr (fun g off e1 e2 => by injection e1 with e1; injection e1 with e1 _; injection e2 with e2; omega);have hat9:=hcn9.at (p:=5) (by decide);have HX9 : Hid (x0 = y * 5 ^ (j + 1)∧(x0 = 0 → j + 1 = 0)):=hid (by
       have h3:=HX.out.1;have h4:=HDM.out;rw [h1,Nat.zero_add] at h4;refine ⟨by rw [Nat.pow_succ,Nat.mul_comm (5 ^ j),← Nat.mul_assoc,Nat.mul_comm y,h4]; exact h3,fun h0 => ?_⟩;exfalso;rw [h0] at h3;have h5 : 0 < x * 5 ^ j:=Nat.mul_pos (by omega) (Nat.pow_pos (by decide));omega)
      clear h1 h2 hM8 hcn8 hgr hr8 hr78;go_wp2_with fail;go_roundw
      case rel => exact ⟨y,j + 1,_,c8,rfl,hr9,HX9,by omega,hcn9,hM9⟩
      case measure => rw [hat,hat9]; omega
    ·have h1b : ((r8:Int) != 0) = true:=(by rw [bne_iff_ne]; omega);have HE:=hid (show x % 5 ≠ 0∨x = 0 from .inl (by rw [HRE.out]; exact h1));clear h1;go_wp2_with fail;go_roundw
     case rel => exact ⟨2,x,a,j,_,c7,by omega,by first | rfl | go_num,rfl,hr78,hid ⟨x0,HS0.out.1,HS0.out.2,HX.out,HE.out⟩,haK,hjK,hcn8.swap,hM8⟩
     case measure => simp [RowKit.intOf]
  ·obtain ⟨m1,h1,h2,h3,h4⟩:=HS.out;have H1:=hid (And.intro h1.1 (And.intro h2 h1.2));have H2:=hid (And.intro h3.1 (And.intro h4 h3.2));clear h1 h2 h3 h4 HS;have hL2:=hcn0.look (p:=2) (by decide);have hL5:=hcn0.swap.look (p:=5) (by decide);simp only [show ((2:Nat):Int) = 2 from rfl,show ((5:Nat):Int) = 5 from rfl] at hL2 hL5;have hdec:=dec_is1 x0;go_wp2_with fail;refine (dstring_any x0 A c (by omega) hr).mono ?_;rintro e w2 ⟨rfl,hw2⟩;rw [hw2];clear hw2 w2 hr;obtain ⟨S0,hS0⟩ : ∃ S,decDigits x0 = S:=⟨_,rfl⟩;rw [hS0] at hdec ⊢;clear hS0;obtain ⟨p1,p2,p3⟩:=hM.p.rules
   by_cases hm : x0 = 1
   ·subst hm;rw [decide_eq_true rfl] at hdec;go_wp2_with fail;refine (dquo_any n 2 A1 c1 (by omega) (by decide) (by decide) (hrn.keepB hM.bel)).mono ?_;rintro e w4 ⟨⟨c5,rfl,hc5,hr5⟩,hbb⟩;have hM4:=hM.step hbb;have hcn4:=hcn0.belowS hbb;clear hM hcn0 hbb hr5 hc5 p1 p2 p3 hL2 hL5 hdec;obtain ⟨x2,hx2⟩ : ∃ x2,n % 2 = x2:=⟨_,rfl⟩;rw [hx2];have HX2:=hid hx2;clear hx2;go_wp2_with fail;refine (dquo_any n 5 A1 c1 (by omega) (by decide) (by decide) (hrn.keepB hM4.bel)).mono ?_;rintro e w5 ⟨⟨c6,rfl,hc6,hr6⟩,hbb⟩;have hM5:=hM4.step hbb;have hcn5:=hcn4.belowS hbb;clear hM4 hcn4 hbb hr6 hc6;obtain ⟨x5,hx5⟩ : ∃ x5,n % 5 = x5:=⟨_,rfl⟩;rw [hx5];have HX5:=hid hx5;clear hx5;have hL2:=hcn5.look (p:=2) (by decide);have hL5:=hcn5.swap.look (p:=5) (by decide);simp only [show ((2:Nat):Int) = 2 from rfl,show ((5:Nat):Int) = 5 from rfl] at hL2 hL5
    go_upto_region 14 with fail
    go_cut [82] from 59 to 82 (fun s82 wx => s82 = .bool (decide (a + b = 0∨(0 < a∧x2 = 0)∨(0 < b∧x5 = 0)))∧wx = w5)
    case first =>
     have ew : IntKind.i64.wrap ((a:Int) + (b:Int)) = (a:Int) + (b:Int):=IntWalk.i64_in _ (by omega)
     by_cases h0 : a + b = 0
     ·have hfact : (a:Int) + (b:Int) = 0:=(by first | omega | (rw [beq_iff_eq]; omega));have HD : decide (a + b = 0∨(0 < a∧x2 = 0)∨(0 < b∧x5 = 0)) = true:=(by simp; omega);have HDD:=hid HD;clear HD h0;go_wp2_with fail;go_meet;exact ⟨by rw [HDD.out],rfl⟩
     ·have h0b : (((a:Int) + (b:Int)) == 0) = false:=by rw [beq_eq_false_iff_ne]; omega
      by_cases ha : 0 < a
      ·have hai : (0:Int) < (a:Int):=by omega
       by_cases h2 : x2 = 0
       ·have hfact : ((x2:Int) == 0) = true:=(by first | omega | (rw [beq_iff_eq]; omega));have HD : decide (a + b = 0∨(0 < a∧x2 = 0)∨(0 < b∧x5 = 0)) = true:=(by simp; omega);have HDD:=hid HD;clear HD h2;go_wp2_with fail;go_meet;exact ⟨by rw [HDD.out],rfl⟩
       ·have h2b : ((x2:Int) == 0) = false:=by rw [beq_eq_false_iff_ne]; omega
        by_cases hb : 0 < b
        ·have hbi : (0:Int) < (b:Int):=by omega
         by_cases h5 : x5 = 0
         ·have hfact : ((x5:Int) == 0) = true:=(by first | omega | (rw [beq_iff_eq]; omega));have HD : decide (a + b = 0∨(0 < a∧x2 = 0)∨(0 < b∧x5 = 0)) = true:=(by simp; omega);have HDD:=hid HD;clear HD h5;go_wp2_with fail;go_meet;exact ⟨by rw [HDD.out],rfl⟩
         ·have h5b : ((x5:Int) == 0) = false:=(by rw [beq_eq_false_iff_ne]; omega);have hfact : (0:Int) ≤ 0:=(by first | omega | (rw [beq_iff_eq]; omega));have HD : decide (a + b = 0∨(0 < a∧x2 = 0)∨(0 < b∧x5 = 0)) = false:=(by simp; omega);have HDD:=hid HD;clear HD h5;go_wp2_with fail;go_meet;exact ⟨by rw [HDD.out],rfl⟩
        ·have hfact : ¬ (0:Int) < (b:Int):=(by first | omega | (rw [beq_iff_eq]; omega));have HD : decide (a + b = 0∨(0 < a∧x2 = 0)∨(0 < b∧x5 = 0)) = false:=(by simp; omega);have HDD:=hid HD;clear HD hb;go_wp2_with fail;go_meet;exact ⟨by rw [HDD.out],rfl⟩
      ·have hbi : (0:Int) < (b:Int):=by omega
       by_cases h5 : x5 = 0
       ·have hfact2 : ¬ (0:Int) < (a:Int):=(by omega);have hfact : ((x5:Int) == 0) = true:=(by first | omega | (rw [beq_iff_eq]; omega));have HD : decide (a + b = 0∨(0 < a∧x2 = 0)∨(0 < b∧x5 = 0)) = true:=(by simp; omega);have HDD:=hid HD;clear HD h5;go_wp2_with fail;go_meet;exact ⟨by rw [HDD.out],rfl⟩
       ·have h5b : ((x5:Int) == 0) = false:=(by rw [beq_eq_false_iff_ne]; omega);have hfact : ¬ (0:Int) < (a:Int):=(by first | omega | (rw [beq_iff_eq]; omega));have HD : decide (a + b = 0∨(0 < a∧x2 = 0)∨(0 < b∧x5 = 0)) = false:=(by simp; omega);have HDD:=hid HD;clear HD ha;go_wp2_with fail;go_meet;exact ⟨by rw [HDD.out],rfl⟩
    case rest =>
     obtain ⟨rfl,rfl⟩:=hcut
     by_cases hcd : a + b = 0∨(0 < a∧x2 = 0)∨(0 < b∧x5 = 0)
     ·have hF : FinP n d (.error 6):=⟨a,m1,b,1,H1.out.1,H1.out.2.1,H1.out.2.2,H2.out.1,H2.out.2.1,H2.out.2.2,by rw [if_neg (by decide),if_pos (by rw [HX2.out,HX5.out]; exact hcd)]⟩;have HF:=hid hF;rw [decide_eq_true hcd];clear hF hcd hL2 hL5;go_wp2_with fail;refine (atR_any (6) (-1) _).mono ?_;rintro e w9 ⟨rfl,hbb9⟩;unfold flt;have hC9:=FrM.step hM5 hbb9;obtain ⟨p1,p2,p3⟩:=hC9.p.rules;go_wp2_with fail;have hPz:=(hC9.p.set_ 0 (.int .i64 (6))).set_ 1 (.int .i64 (-1));exact ret_tmp_blk rfl rfl hPz _ Tryz.underlying29 rfl (by kernel_rfl) rfl _ rfl ⟨(hC9.bel.setCell (p:=⟨w.heap.size,0,none⟩) (Nat.le_refl _) _).setCell (p:=⟨w.heap.size,1,none⟩) (Nat.le_refl _) _,.error (6),HF.out,rfl⟩
     ·have hF : FinP n d (.ok (pointed (max a b) (decDigits (n * 2 ^ (max a b - a) * 5 ^ (max a b - b))))):=⟨a,m1,b,1,H1.out.1,H1.out.2.1,H1.out.2.2,H2.out.1,H2.out.2.1,H2.out.2.2,by rw [if_neg (by decide),if_neg (by rw [HX2.out,HX5.out]; exact hcd)]⟩;have HF:=hid hF;rw [decide_eq_false hcd];clear hF hcd H1 H2 HX2 HX5
      go_upto_if 89 with fail
      go_cut [15] (fun s15 wy => s15 = .int .i64 ((max a b:Nat):Int)∧wy = wc)
      case first =>
       by_cases hab : a < b
       ·have habi : (a:Int) < (b:Int):=(by omega);have HMX:=hid (show max a b = b by omega);clear hab;go_wp2_with fail;go_meet;exact ⟨by rw [HMX.out],rfl⟩
       ·have habi : ¬ (a:Int) < (b:Int):=(by omega);have HMX:=hid (show max a b = a by omega);clear hab;go_wp2_with fail;go_meet;exact ⟨by rw [HMX.out],rfl⟩
      case rest =>
       obtain ⟨rfl,rfl⟩:=hcut;obtain ⟨p,hp⟩ : ∃ p,max a b = p:=⟨_,rfl⟩;have hpa : a ≤ p:=(by omega);have hpb : b ≤ p:=(by omega);have hpK : p ≤ 4096:=(by omega);obtain ⟨e1,he1⟩ : ∃ e1,p - a = e1:=⟨_,rfl⟩;obtain ⟨e2,he2⟩ : ∃ e2,p - b = e2:=⟨_,rfl⟩;rw [hp,he1,he2] at HF;rw [hp];have he1K : e1 ≤ 4096:=(by omega);have he2K : e2 ≤ 4096:=(by omega);have hae : a + e1 = p:=(by omega);have hbe : b + e2 = p:=(by omega);clear hp he1 he2;go_wp2_with fail
       go_loopw [0,16] (fun v i wr => ∃ (j:Nat) (A7 : Option Addr) (c7:Nat),j ≤ e1∧i = .int .i64 ((a + j:Nat):Int)∧v = .slice A7 (dig 10 (n * 2 ^ j)).length c7∧Row wr A7 (i64s (dig 10 (n * 2 ^ j)))∧Cnt wr mb 2 5 a b∧FrM w mb bb wr) (fun _ i _ => p - (RowKit.intOf i).toNat)
       case atStart => exact ⟨0,A1,c1,Nat.zero_le _,rfl,by rw [Nat.pow_zero,Nat.mul_one],by rw [Nat.pow_zero,Nat.mul_one]; exact hrn.keepB hM5.bel,hcn5,hM5⟩
       case round =>
        clear hL2 hL5 hcn5 hM5;obtain ⟨j,A7,c7,hj,rfl,rfl,hrj,hcnj,hMj⟩:=hrel;have hlj:=hlim j 0 (by omega) (by omega);rw [Nat.pow_zero,Nat.mul_one] at hlj
        by_cases hlt : j < e1
        ·have hlti : ((a + j:Nat):Int) < (p:Int):=(by omega);have hw1 : IntKind.i64.wrap (((a + j:Nat):Int) + 1) = ((a + (j + 1):Nat):Int):=(by rw [IntWalk.i64_in _ (by omega)]; omega);obtain ⟨aj,haj⟩ : ∃ aj,a + j = aj:=⟨_,rfl⟩;obtain ⟨aj1,haj1⟩ : ∃ aj,a + (j + 1) = aj:=⟨_,rfl⟩;rw [haj] at hlti hw1 ⊢;rw [haj1] at hw1;have HAJ:=hid haj1;have HAK:=hid haj;clear haj haj1;go_wp2_with fail;refine (affine_any (n * 2 ^ j) 2 0 A7 c7 (by omega) (by decide) (by decide) hrj).mono ?_;rintro e w6 ⟨⟨A8,c8,rfl,hc8,hr8⟩,hbb⟩;have hM6:=hMj.step hbb;have hcn6:=hcnj.belowS hbb;rw [Nat.add_zero,Nat.mul_assoc,← Nat.pow_succ] at hr8 hc8 ⊢;clear hMj hcnj hbb hrj;go_wp2_with fail;go_roundw
         case rel => exact ⟨j + 1,A8,c8,by omega,by rw [HAJ.out],rfl,hr8,hcn6,hM6⟩
         case measure => have g1:=HAJ.out; have g2:=HAK.out; simp [RowKit.intOf]; omega
        ·have hje : j = e1:=(by omega);subst hje;rw [hae];have hL5:=hcnj.swap.look (p:=5) (by decide);simp only [show ((5:Nat):Int) = 5 from rfl] at hL5;obtain ⟨N,hN⟩ : ∃ N,n * 2 ^ j = N:=⟨_,rfl⟩;rw [hN] at hrj hlj HF ⊢;have hlim2:=fun i => hlim j i (by omega);rw [hN] at hlim2;clear hN hlt;go_wp2_with fail
         go_loopw [0,17] (fun v i wr => ∃ (y:Nat) (A7 : Option Addr) (c7:Nat),y ≤ e2∧i = .int .i64 ((b + y:Nat):Int)∧v = .slice A7 (dig 10 (N * 5 ^ y)).length c7∧Row wr A7 (i64s (dig 10 (N * 5 ^ y)))∧FrM w mb bb wr) (fun _ i _ => p - (RowKit.intOf i).toNat)
         case atStart => exact ⟨0,A7,c7,Nat.zero_le _,rfl,by rw [Nat.pow_zero,Nat.mul_one],by rw [Nat.pow_zero,Nat.mul_one]; exact hrj,hMj⟩
         case round =>
          clear hL5 hcnj hMj hrj;obtain ⟨y,A9,c9,hy,rfl,rfl,hry,hMy⟩:=hrel;have hly:=hlim2 y (by omega)
          by_cases hlt : y < e2
          ·have hlti : ((b + y:Nat):Int) < (p:Int):=(by omega);have hw1 : IntKind.i64.wrap (((b + y:Nat):Int) + 1) = ((b + (y + 1):Nat):Int):=(by rw [IntWalk.i64_in _ (by omega)]; omega);obtain ⟨aj,haj⟩ : ∃ aj,b + y = aj:=⟨_,rfl⟩;obtain ⟨aj1,haj1⟩ : ∃ aj,b + (y + 1) = aj:=⟨_,rfl⟩;rw [haj] at hlti hw1 ⊢;rw [haj1] at hw1;have HAJ:=hid haj1;have HAK:=hid haj;clear haj haj1;go_wp2_with fail;refine (affine_any (N * 5 ^ y) 5 0 A9 c9 (by omega) (by decide) (by decide) hry).mono ?_;rintro e w6 ⟨⟨A8,c8,rfl,hc8,hr8⟩,hbb⟩;have hM6:=hMy.step hbb;rw [Nat.add_zero,Nat.mul_assoc,← Nat.pow_succ] at hr8 hc8 ⊢;clear hMy hbb hry;go_wp2_with fail;go_roundw
           case rel => exact ⟨y + 1,A8,c8,by omega,by rw [HAJ.out],rfl,hr8,hM6⟩
           case measure => have g1:=HAJ.out; have g2:=HAK.out; simp [RowKit.intOf]; omega
          ·have hye : y = e2:=(by omega);subst hye;rw [hbe];obtain ⟨M,hM⟩ : ∃ M,N * 5 ^ y = M:=⟨_,rfl⟩;rw [hM] at hry hly HF ⊢;clear hM hlt;go_wp2_with fail;refine (dstring_any M A9 c9 (by omega) hry).mono ?_;rintro e w7 ⟨rfl,hw7⟩;rw [hw7];clear hw7 w7 hry;have hld : (decDigits M).length ≤ 6828:=by
            have h1:=Nat.lt_of_lt_of_le (V_lt (B:=10) (by decide) (dig 10 M) (dig_lt (by decide) M)) (Nat.pow_le_pow_right (by decide) hly);rw [V_dig (by decide)] at h1;obtain ⟨T,hT⟩ : ∃ T,6827 = T:=⟨_,rfl⟩;rw [hT] at h1;have h2:=(padL_eq T M (Nat.lt_of_lt_of_le h1 (Nat.pow_le_pow_right (by decide) (Nat.le_succ T)))).2.1;omega
           obtain ⟨S,hS⟩ : ∃ S,decDigits M = S:=⟨_,rfl⟩;rw [hS] at hld HF ⊢;clear hS;have hpl : p < (padP p S).length:=(by unfold padP; simp; omega);have hpl2 : (padP p S).length ≤ 30000:=(by unfold padP; simp; omega);have HPO:=hid (show pointed p S = (padP p S).take ((padP p S).length - p) ++ [46] ++ (padP p S).drop ((padP p S).length - p) from rfl);have HPX:=hid (show padP p S = List.replicate (p + 1 - S.length) 48 ++ S from rfl);obtain ⟨X,hX⟩ : ∃ X,padP p S = X:=⟨_,rfl⟩;rw [hX] at hpl hpl2 HPO HPX;clear hX;go_wp2_with fail
           go_loop [18] (fun s => ∃ z : Nat,s = .string ⟨(List.replicate z 48 ++ S).toArray⟩∧(z = 0∨z + S.length ≤ p + 1)) (fun s => p + 1 - sLen s)
           case atStart => exact ⟨0,rfl,.inl rfl⟩
           case round =>
            obtain ⟨z,rfl,hz⟩:=hrel;obtain ⟨Z,hZ⟩ : ∃ Z,List.replicate z (48 : UInt8) ++ S = Z:=⟨_,rfl⟩;have hZl : Z.length = z + S.length:=(by rw [← hZ]; simp);rw [hZ]
            by_cases hsp : Z.length ≤ p
            ·have hspi : (Z.length:Int) ≤ (p:Int):=(by omega);have hadd : ∀ W : World,(Op.stringOp .add ⟨#[48]⟩ ⟨Z.toArray⟩).run Tryz.prog W = .ok (.string ⟨(48 :: Z).toArray⟩) W:=fun W => run_string_add_lists W [48] Z (by simp) (by omega);have HZZ:=hid hZ;have HZL:=hid hZl;clear hZ hZl;go_wp2_with fail
             go_round
             case rel => exact ⟨z + 1,by rw [List.replicate_succ,List.cons_append,HZZ.out],.inr (by have:=HZL.out; omega)⟩
             case measure => simp [sLen,ByteArray.size]; omega
            ·have hspi : ¬ (Z.length:Int) ≤ (p:Int):=(by omega);have hzx : Z = X:=by
              rw [HPX.out,← hZ]
              congr 2
              omega
             subst hzx;clear hZ hZl hz hsp HPX;go_wp2_with fail;obtain ⟨q,hq⟩ : ∃ q,Z.length - p = q:=⟨_,rfl⟩;obtain ⟨j9,hj9⟩ : ∃ j9 : Int,(Z.length:Int) - (p:Int) = j9:=⟨_,rfl⟩;have hqj : j9 = (q:Int):=(by omega);rw [hqj] at hj9;have hqw : IntKind.i64.wrap (q:Int) = (q:Int):=IntWalk.i64_in _ (by omega);have hs1:=fun W => run_upto Z q (by omega) (q:Int) rfl W;have hs2 : ∀ W : World,(Instr.slice 9 (.string ⟨Z.toArray⟩) (some (.int .i64 (q:Int))) none none).run Tryz.prog W = .ok (.string ⟨(Z.drop q).toArray⟩) W:=fun W => by
              rw [run_slice_string_from_if W 9 ⟨Z.toArray⟩ .i64 _ Tryz.underlying9,if_pos ⟨by omega,by simp [ByteArray.size]; omega⟩,Int.toNat_natCast,extract_from _ _ _ (by simp [ByteArray.size])]
             have ha1 : (Z.take q).length ≤ 30000:=(by rw [List.length_take]; omega);have ha2 : (Z.drop q).length ≤ 30000:=(by rw [List.length_drop]; omega);obtain ⟨U,hU⟩ : ∃ U,Z.take q = U:=⟨_,rfl⟩;obtain ⟨V9,hV9⟩ : ∃ V9,Z.drop q = V9:=⟨_,rfl⟩;obtain ⟨U2,hU2⟩ : ∃ U2,U ++ [46] = U2:=⟨_,rfl⟩;obtain ⟨U3,hU3⟩ : ∃ U3,U2 ++ V9 = U3:=⟨_,rfl⟩;rw [hU] at hs1 ha1;rw [hV9] at hs2 ha2;have hl2 : U2.length ≤ 30001:=(by rw [← hU2]; simp; omega);have had1 : ∀ W : World,(Op.stringOp .add ⟨U.toArray⟩ ⟨#[46]⟩).run Tryz.prog W = .ok (.string ⟨U2.toArray⟩) W:=fun W => by rw [← hU2]; exact run_string_add_lists W U [46] (by omega) (by simp)
             have had2 : ∀ W : World,(Op.stringOp .add ⟨U2.toArray⟩ ⟨V9.toArray⟩).run Tryz.prog W = .ok (.string ⟨U3.toArray⟩) W:=fun W => by rw [← hU3]; exact run_string_add_lists W U2 V9 (by omega) (by omega)
             have HPP : Hid (pointed p S = U3):=hid (by rw [HPO.out,hq,hU,hV9,hU2,hU3]);have hq0 : (0:Int) ≤ (q:Int):=(by omega);have hq1 : (q:Int) ≤ (Z.length:Int):=(by omega);clear hq hqj hU hV9 hU2 hU3 HPO;obtain ⟨p1,p2,p3⟩:=hMy.p.rules
             go_region_with (fail)
             all_goals go_wp2_with fail
             all_goals exact ret_tmp_blk rfl rfl ((hMy.p.drew.set_ 0 (.int .i64 0)).set_ 1 (.int .i64 0)) _ Tryz.underlying29 rfl (by kernel_rfl) rfl _ rfl ⟨(hMy.bel.drew.setCell (p:=⟨w.heap.size,0,none⟩) (Nat.le_refl _) _).setCell (p:=⟨w.heap.size,1,none⟩) (Nat.le_refl _) _,.ok (pointed p S),HF.out,by rw [HPP.out]; rfl⟩
   ·rw [decide_eq_false hm] at hdec;have hF : FinP n d (.error 26):=⟨a,m1,b,x0,H1.out.1,H1.out.2.1,H1.out.2.2,H2.out.1,H2.out.2.1,H2.out.2.2,by rw [if_pos hm]⟩;have HF:=hid hF;clear hm hF;go_wp2_with fail;refine (atR_any (26) (-1) _).mono ?_;rintro e w9 ⟨rfl,hbb9⟩;unfold flt;have hC9:=FrM.step hM hbb9;obtain ⟨p1,p2,p3⟩:=hC9.p.rules;go_wp2_with fail;have hPz:=(hC9.p.set_ 0 (.int .i64 (26))).set_ 1 (.int .i64 (-1));exact ret_tmp_blk rfl rfl hPz _ Tryz.underlying29 rfl (by kernel_rfl) rfl _ rfl ⟨(hC9.bel.setCell (p:=⟨w.heap.size,0,none⟩) (Nat.le_refl _) _).setCell (p:=⟨w.heap.size,1,none⟩) (Nat.le_refl _) _,.error (26),HF.out,rfl⟩
def shownV (Q : UInt8) (r:Nat) (h : Bool) : List UInt8 :=
 if r = 10 then [92,110] else if r = 9 then [92,116] else if r = 92∨runeB r = [Q] then 92 :: runeB r
 else if h = true then [92,120,hexC (r / 16),hexC (r % 16)] else runeB r
theorem run_hexs (x:Nat) (h : x < 16) (W : World) : (Instr.slice 9 (.string ⟨#[48,49,50,51,52,53,54,55,56,57,97,98,99,100,101,102]⟩) (some (.int .i32 (x:Int))) (some (.int .i32 ((x:Int) + 1))) none).run Tryz.prog W = .ok (.string ⟨#[hexC x]⟩) W:=by
 rw [run_slice_string W 9 ⟨#[48,49,50,51,52,53,54,55,56,57,97,98,99,100,101,102]⟩ .i32 .i32 _ _ Tryz.underlying9 (by omega) (by omega) (by simp [ByteArray.size]; omega)];have h2 : ∀ i : Fin 16,(⟨#[48,49,50,51,52,53,54,55,56,57,97,98,99,100,101,102]⟩ : ByteArray).extract (i.val:Int).toNat ((i.val:Int) + 1).toNat = ⟨#[hexC i.val]⟩:=by
  intro i
  match i with
  | ⟨0,_⟩ => rfl
  | ⟨1,_⟩ => rfl
  | ⟨2,_⟩ => rfl
  | ⟨3,_⟩ => rfl
  | ⟨4,_⟩ => rfl
  | ⟨5,_⟩ => rfl
  | ⟨6,_⟩ => rfl
  | ⟨7,_⟩ => rfl
  | ⟨8,_⟩ => rfl
  | ⟨9,_⟩ => rfl
  | ⟨10,_⟩ => rfl
  | ⟨11,_⟩ => rfl
  | ⟨12,_⟩ => rfl
  | ⟨13,_⟩ => rfl
  | ⟨14,_⟩ => rfl
  | ⟨15,_⟩ => rfl
  | ⟨n + 16,h⟩ => exact absurd h (by omega)
 rw [h2 ⟨x,h⟩]
theorem shown_any (Q : UInt8) (r:Nat) (h : Bool) (w : World) (hr : r < 1114112) (hh : h = true → r < 256) :
  Calls Tryz.prog 35 #[.int .i32 (r:Int),.string ⟨#[Q]⟩,.bool h] w fun e w' => e = .returned (.string ⟨(shownV Q r h).toArray⟩)∧∃ n,w' = w.drewN n:=by
 obtain ⟨R,hR⟩ : ∃ R,shownV Q r h = R:=⟨_,rfl⟩;rw [hR];unfold shownV at hR;have hcv:=fun W => run_rune_str r W;have hul:=runeB_len r
 by_cases h10 : r = 10
 ·rw [if_pos h10] at hR;subst hR;subst h10;clear hcv;go_enter Tryz.func35,Tryz.ntmps35;go_wp2_with fail;go_ret;exact ⟨rfl,0,rfl⟩
 ·rw [if_neg h10] at hR;have b10 : ((r:Int) == 10) = false:=by rw [beq_eq_false_iff_ne]; omega
  by_cases h9 : r = 9
  ·rw [if_pos h9] at hR;subst hR;subst h9;clear hcv b10;go_enter Tryz.func35,Tryz.ntmps35;go_wp2_with fail;go_ret;exact ⟨rfl,0,rfl⟩
  ·rw [if_neg h9] at hR;have b9 : ((r:Int) == 9) = false:=by rw [beq_eq_false_iff_ne]; omega
   by_cases h92 : r = 92
   ·rw [if_pos (.inl h92)] at hR;subst hR;subst h92;have e92 : runeB 92 = [92]:=(by decide);rw [e92] at hcv ⊢;clear hul b10 b9;go_enter Tryz.func35,Tryz.ntmps35;go_wp2_with fail;go_ret;exact ⟨rfl,0,rfl⟩
   ·have b92 : ((r:Int) == 92) = false:=(by rw [beq_eq_false_iff_ne]; omega);obtain ⟨U,hU⟩ : ∃ U,runeB r = U:=⟨_,rfl⟩;rw [hU] at hcv hul hR;clear hU
    by_cases hq : U = [Q]
    ·rw [if_pos (.inr hq)] at hR;have bq : (U == [Q]) = true:=(by rw [beq_iff_eq]; exact hq);have hadd : ∀ W : World,(Op.stringOp .add ⟨#[92]⟩ ⟨U.toArray⟩).run Tryz.prog W = .ok (.string ⟨(92 :: U).toArray⟩) W:=fun W => run_string_add_lists W [92] U (by simp) (by omega);rw [hR] at hadd;clear hq h10 h9 h92 hR;go_enter Tryz.func35,Tryz.ntmps35;go_wp2_with fail;go_ret;exact ⟨rfl,0,rfl⟩
    ·rw [if_neg (by rintro (h | h); exact h92 h; exact hq h)] at hR;have bq : (U == [Q]) = false:=(by rw [beq_eq_false_iff_ne]; exact hq);clear hq;cases h with
     | false =>
      rw [if_neg (by decide)] at hR;subst hR;clear h10 h9 h92;go_enter Tryz.func35,Tryz.ntmps35;go_wp2_with fail;go_ret;exact ⟨rfl,0,rfl⟩
     | true =>
      rw [if_pos rfl] at hR;have h256:=hh rfl;have hq1 : ((r:Int)).tdiv 16 = ((r / 16:Nat):Int):=(by rw [Int.tdiv_eq_ediv_of_nonneg (by omega)]; rfl);have hq2 : ((r:Int)) / 16 = ((r / 16:Nat):Int):=rfl;have hm1 : ((r:Int)).tmod 16 = ((r % 16:Nat):Int):=(by rw [Int.tmod_eq_emod_of_nonneg (by omega)]; rfl);have hm2 : ((r:Int)) % 16 = ((r % 16:Nat):Int):=rfl;have hql : r / 16 < 16:=(by omega);have hml : r % 16 < 16:=(by omega);obtain ⟨q,hqe⟩ : ∃ q,r / 16 = q:=⟨_,rfl⟩;obtain ⟨m,hme⟩ : ∃ m,r % 16 = m:=⟨_,rfl⟩;rw [hqe] at hq1 hq2 hql hR;rw [hme] at hm1 hm2 hml hR;have s1:=run_hexs q hql;have s2:=run_hexs m hml;obtain ⟨a,ha⟩ : ∃ a,hexC q = a:=⟨_,rfl⟩;obtain ⟨b,hb⟩ : ∃ b,hexC m = b:=⟨_,rfl⟩;rw [ha] at s1 hR;rw [hb] at s2 hR;have a1 : ∀ W : World,(Op.stringOp .add ⟨#[92,120]⟩ ⟨#[a]⟩).run Tryz.prog W = .ok (.string ⟨#[92,120,a]⟩) W:=fun W => run_string_add_lists W [92,120] [a] (by simp) (by simp);have a2 : ∀ W : World,(Op.stringOp .add ⟨#[92,120,a]⟩ ⟨#[b]⟩).run Tryz.prog W = .ok (.string ⟨#[92,120,a,b]⟩) W:=fun W => run_string_add_lists W [92,120,a] [b] (by simp) (by simp);have w1 : IntKind.i32.wrap (q:Int) = (q:Int):=IntWalk.i32_in _ (by omega);have w2 : IntKind.i32.wrap (m:Int) = (m:Int):=IntWalk.i32_in _ (by omega);have w3 : IntKind.i32.wrap ((q:Int) + 1) = (q:Int) + 1:=IntWalk.i32_in _ (by omega);have w4 : IntKind.i32.wrap ((m:Int) + 1) = (m:Int) + 1:=IntWalk.i32_in _ (by omega);subst hR;clear hqe hme ha hb h10 h9 h92 h256 hh;go_enter Tryz.func35,Tryz.ntmps35;go_wp2_with fail;go_quiet (fail);go_wp2_with fail;go_ret;exact ⟨rfl,_,rfl⟩
end
end Go.Proofs.YtonehlkiackhcaaGreatDoor