/- The literals: a numeral with a point is reduced. Nothing is claimed here. -/
import Derived.Test.YtonehlkiackhcaaGreatDoorLitNd
set_option linter.unusedVariables false
set_option linter.unusedSimpArgs false
set_option maxRecDepth 100000
set_option maxHeartbeats 16000000
namespace Go.Proofs.YtonehlkiackhcaaGreatDoor
open Go.RowKit Go.Lib Go.Sort
theorem integer_any (A : Option Addr) (l c:Nat) (w : World) : Calls Tryz.prog 40 #[.slice A l c] w fun e w' => e = .returned (.agg (valD 2 false (.slice A l c) false (.slice none 0 0) [] 0))∧Below w.heap.size w w':=by
 go_enter Tryz.func40,Tryz.ntmps40;go_wp2_with fail;exact ret_blk rfl rfl (Blk.new w 26 (valD 2 false (.slice A l c) false (.slice none 0 0) [] 0)) _ Tryz.underlying26 rfl (by kernel_rfl) rfl ⟨rfl,(Below.refl _ _).alloc (Nat.le_refl _) _⟩
def redS (B:Nat) (x : Nat × Nat) : Nat × Nat:=if x.1 = 0 then x else if x.1 % B = 0 then (x.1 / B,x.2) else (x.1,x.2 * B)
def redI (B:Nat) : Nat → Nat × Nat → Nat × Nat
 | 0,x => x
 | k + 1,x => redS B (redI B k x)
theorem redS_le (B:Nat) (hB : 1 ≤ B) (x : Nat × Nat) : (redS B x).1 ≤ x.1∧(redS B x).2 ≤ x.2 * B:=by
 unfold redS;split
 ·exact ⟨Nat.le_refl _,Nat.le_mul_of_pos_right _ hB⟩
 ·split
  ·exact ⟨Nat.div_le_self _ _,Nat.le_mul_of_pos_right _ hB⟩
  ·exact ⟨Nat.le_refl _,Nat.le_refl _⟩
theorem redI_le (B:Nat) (hB : 1 ≤ B) (x : Nat × Nat) : ∀ k,(redI B k x).1 ≤ x.1∧(redI B k x).2 ≤ x.2 * B ^ k
 | 0 => by simp [redI]
 | k + 1 => by
  obtain ⟨h1,h2⟩:=redI_le B hB x k;obtain ⟨h3,h4⟩:=redS_le B hB (redI B k x);refine ⟨Nat.le_trans h3 h1,Nat.le_trans h4 ?_⟩;rw [Nat.pow_succ,← Nat.mul_assoc];exact Nat.mul_le_mul_right _ h2
def baseK (k:Nat) : Nat:=if k = 0 then 2 else 5
def outS (n p k:Nat) : Nat × Nat:=if k = 0 then (n,1) else if k = 1 then redI 2 p (n,1) else redI 5 p (redI 2 p (n,1))
theorem outS_next (n p:Nat) {k : Nat} (h : k < 2) : redI (baseK k) p (outS n p k) = outS n p (k + 1):=by
 rcases (show k = 0∨k = 1 by omega) with rfl | rfl <;> rfl
theorem outS_le (n p:Nat) {k : Nat} (h : k ≤ 2) : (outS n p k).1 ≤ n∧(outS n p k).2 ≤ 2 ^ p * 5 ^ p:=by
 have h2:=redI_le 2 (by decide) (n,1) p;have h5:=redI_le 5 (by decide) (redI 2 p (n,1)) p;have hp : 1 ≤ 2 ^ p:=Nat.pow_pos (by decide);have hq : 1 ≤ 5 ^ p:=Nat.pow_pos (by decide);simp only [Nat.one_mul] at h2;rcases (show k = 0∨k = 1∨k = 2 by omega) with rfl | rfl | rfl
 ·exact ⟨Nat.le_refl _,Nat.mul_le_mul hp hq⟩
 ·exact ⟨h2.1,Nat.le_trans h2.2 (Nat.le_mul_of_pos_right _ hq)⟩
 ·exact ⟨Nat.le_trans h5.1 h2.1,Nat.le_trans h5.2 (Nat.mul_le_mul_right _ h2.2)⟩
theorem outS_in (n p:Nat) {k j : Nat} (h : k < 2) (hj : j ≤ p) : (redI (baseK k) j (outS n p k)).2 ≤ 2 ^ p * 5 ^ p:=by
 rcases (show k = 0∨k = 1 by omega) with rfl | rfl
 ·have h1:=(redI_le 2 (by decide) (n,1) j).2;simp only [Nat.one_mul] at h1;have h2 : 2 ^ j ≤ 2 ^ p:=Nat.pow_le_pow_right (by decide) hj;have h3 : 2 ^ p ≤ 2 ^ p * 5 ^ p:=Nat.le_mul_of_pos_right _ (Nat.pow_pos (by decide));exact Nat.le_trans h1 (Nat.le_trans h2 h3)
 ·have h1:=(redI_le 5 (by decide) (redI 2 p (n,1)) j).2;have h2:=(redI_le 2 (by decide) (n,1) p).2;simp only [Nat.one_mul] at h2;have h3 : 5 ^ j ≤ 5 ^ p:=Nat.pow_le_pow_right (by decide) hj;exact Nat.le_trans h1 (Nat.mul_le_mul h2 h3)
structure RedM (w : World) (bb:Nat) (x : Nat × Nat) (v0 v5 : Value) (wr : World) : Prop where
 a : ∃ A c,v0 = .slice A (lg x.1).length c∧Row wr A (u32s (lg x.1))
 b : ∃ A c,v5 = .slice A (lg x.2).length c∧Row wr A (u32s (lg x.2))
 c0 : wr.cell? ⟨bb,0,none⟩ = some (.int .u32 2)
 c1 : wr.cell? ⟨bb,1,none⟩ = some (.int .u32 5)
 hbb : bb < wr.heap.size
 blk : Blk wr w.heap.size 26 (valD 0 false (.slice none 0 0) false (.slice none 0 0) [] 0)
 bel : Below w.heap.size w wr
theorem RedM.step {w wr w2 : World} {bb : Nat} {x : Nat × Nat} {v0 v5 : Value} (h : RedM w bb x v0 v5 wr) (hb : Below wr.heap.size wr w2) : RedM w bb x v0 v5 w2:=by
 obtain ⟨⟨A,c,h1,h2⟩,⟨A',c',h3,h4⟩,h5,h6,h7,h8,h9⟩:=h;exact ⟨⟨A,c,h1,h2.keepB hb⟩,⟨A',c',h3,h4.keepB hb⟩,(hb.cell (p:=⟨bb,0,none⟩) h7).trans h5,(hb.cell (p:=⟨bb,1,none⟩) h7).trans h6,Nat.lt_of_lt_of_le h7 hb.size,h8.belowS hb,below_then h9 hb h9.size⟩
theorem RedM.start {w : World} {n : Nat} {A : Option Addr} {c : Nat} (hr : Row w A (u32s (lg n))) :
  RedM w (w.heap.size + 1 + 1) (n,1) (.slice A (lg n).length c) (.slice (some ⟨w.heap.size + 1,0,none⟩) 1 1) (((w.alloc (.cells (valD 0 false (.slice none 0 0) false (.slice none 0 0) [] 0) 26)).alloc (.cells #[.int .u32 1] 63)).alloc (.cells #[.int .u32 2,.int .u32 5] 63)):=by
 have hb1:=(Below.refl w.heap.size w).alloc (Nat.le_refl _) (.cells (valD 0 false (.slice none 0 0) false (.slice none 0 0) [] 0) 26);have hb2:=hb1.alloc hb1.size (.cells #[.int .u32 1] 63);have hb3:=hb2.alloc hb2.size (.cells #[.int .u32 2,.int .u32 5] 63);have hB:=Blk.new ((w.alloc (.cells (valD 0 false (.slice none 0 0) false (.slice none 0 0) [] 0) 26)).alloc (.cells #[.int .u32 1] 63)) 63 #[.int .u32 2,.int .u32 5];have hR:=Row.new (w.alloc (.cells (valD 0 false (.slice none 0 0) false (.slice none 0 0) [] 0) 26)) #[.int .u32 1] 63;have e1 : (w.alloc (.cells (valD 0 false (.slice none 0 0) false (.slice none 0 0) [] 0) 26)).heap.size = w.heap.size + 1:=by simp
 have e2 : ((w.alloc (.cells (valD 0 false (.slice none 0 0) false (.slice none 0 0) [] 0) 26)).alloc (.cells #[.int .u32 1] 63)).heap.size = w.heap.size + 1 + 1:=by simp
 rw [e2] at hB;rw [e1] at hR;refine ⟨⟨A,c,rfl,hr.keepB hb3⟩,⟨some ⟨w.heap.size + 1,0,none⟩,1,by rw [lg_one]; rfl,?_⟩,hB.cell 0,hB.cell 1,hB.lt,((Blk.new w 26 _).alloc _).alloc _,hb3⟩;rw [lg_one];exact hR.keepB ((Below.refl _ _).alloc (Nat.le_refl _) _)
def RedIn (w : World) (bb p B:Nat) (X : Nat × Nat) (v0 v5 i : Value) (wr : World) : Prop:=∃ j : Nat,j ≤ p∧i = .int .i64 (j:Int)∧RedM w bb (redI B j X) v0 v5 wr
def RedOut (w : World) (bb n p:Nat) (v0 v5 i : Value) (wr : World) : Prop:=∃ k : Nat,k ≤ 2∧i = .int .i64 (k:Int)∧RedM w bb (outS n p k) v0 v5 wr
theorem row_setRow {w : World} {g : Nat} {A : Option Addr} {l : List Nat} (h : Row w A (u32s l)) (hB : Blk w g 26 #[.int .i64 0,.bool false,.slice none 0 0,.bool false,.slice none 0 0,.string ⟨#[]⟩,.int .i64 0]) (cs : Array Value) : Row (w.setRow g cs) A (u32s l):=by
 rcases h with h0 | ⟨b,off,rfl,hlt,hc⟩
 ·exact .inl h0
 ·cases l with
  | nil => exact .inl rfl
  | cons x l =>
   have hne : b ≠ g:=by
    rintro rfl;have h1:=hc 0 (.int .u32 (x:Int)) rfl;rw [hB.cell] at h1;rcases off with _ | _ | _ | _ | _ | _ | _ | off <;> simp at h1
   have hh : (w.setRow g cs).heap[b]? = w.heap[b]?:=by
    unfold World.setRow;simp only [Array.getElem?_modify];rw [if_neg (fun e => hne e.symm)]
   refine .inr ⟨b,off,rfl,by simpa [World.setRow] using hlt,fun j u hu => ?_⟩;rw [World.cell?_of_block (w:=w) hh];exact hc j u hu
theorem one_bd (p:Nat) (hp : p ≤ 1000) : (lg (2 ^ p * 5 ^ p)).length ≤ 640:=by
 have h:=(lim_any 1 p p (by rw [lg_one]; decide) (by omega) (by omega)).1
 rwa [Nat.one_mul] at h
def RedPost (w : World) (x : Nat × Nat) (e : Ending) (w' : World) : Prop:=Below w.heap.size w w'∧∃ A c,Row w' A (u32s (lg x.1)) ∧
 if x.2 = 1 then e = .returned (.agg (valD 2 false (.slice A (lg x.1).length c) false (.slice none 0 0) [] 0))
 else ∃ A' c',Row w' A' (u32s (lg x.2))∧e = .returned (.agg (valD 3 false (.slice A (lg x.1).length c) false (.slice A' (lg x.2).length c') [] 0))
theorem reduce_any {w : World} (n p:Nat) (A : Option Addr) (c:Nat) (hn : (lg n).length ≤ 1000) (hp : p ≤ 1000) (hr : Row w A (u32s (lg n))) :
  Calls Tryz.prog 42 #[.slice A (lg n).length c,.int .i64 (p:Int)] w (RedPost w (outS n p 2)):=by
 have hS:=RedM.start (c:=c) hr;have HBD:=hid (one_bd p hp);go_enter Tryz.func42,Tryz.ntmps42;go_wp2_with fail
 go_loopw [0,5,7,8,9,13] (fun v0 v5 _ _ _ i wr => RedOut w (w.heap.size + 1 + 1) n p v0 v5 i wr) (fun _ _ _ _ _ i _ => 2 - (RowKit.intOf i).toNat)
 case atStart => exact ⟨0,by omega,rfl,hS⟩
 case round =>
  obtain ⟨k,hk,rfl,hM⟩:=hrel;clear hS hr
  by_cases hlt : k < 2
  ·have hc : wr.cell? ⟨w.heap.size + 1 + 1,k,none⟩ = some (.int .u32 (baseK k:Int)):=by
    rcases (show k = 0∨k = 1 by omega) with rfl | rfl
    ·exact hM.c0
    ·exact hM.c1
   have HNX:=hid (outS_next n p hlt);have hle:=outS_le n p (k:=k) (by omega);have hB1 : 2 ≤ baseK k∧baseK k ≤ 5:=(by unfold baseK; split <;> decide);have HIL:=hid (fun j => redI_le (baseK k) (by omega) (outS n p k) j);have HOL:=hid (fun j (hj : j ≤ p) => show (redI (baseK k) j (outS n p k)).2 ≤ 2 ^ p * 5 ^ p from outS_in n p hlt hj);obtain ⟨B,hB⟩ : ∃ B,baseK k = B:=⟨_,rfl⟩;obtain ⟨X,hX⟩ : ∃ X,outS n p k = X:=⟨_,rfl⟩;rw [hB] at hc HNX hB1 HIL HOL;rw [hX] at HNX hM hle HIL HOL;obtain ⟨hle1,hle2⟩:=hle;obtain ⟨hB2,hB5⟩:=hB1;clear hB hX hle2;obtain ⟨wo,rfl⟩ : ∃ wo : World,wo = wr:=⟨_,rfl⟩;have hki : (k:Int) < 2:=(by omega);have hkd : decide ((k:Int) < 2) = true:=(by simpa using hki);go_wp2_with fail
   go_loopw [0,5,8,9,18] (fun v0 v5 _ _ i wr => RedIn w (w.heap.size + 1 + 1) p B X v0 v5 i wr) (fun _ _ _ _ i _ => p - (RowKit.intOf i).toNat)
   case atStart => exact ⟨0,Nat.zero_le _,rfl,hM⟩
   case round =>
    obtain ⟨j,hj,rfl,hMj⟩:=hrel;clear hM hc
    by_cases hlj : j < p
    ·have hx1:=Nat.le_trans (HIL.out j).1 hle1;have hx2:=HOL.out j hj;have hbd:=HBD.out;obtain ⟨⟨A1,c1,rfl,hr1⟩,⟨A2,c2,rfl,hr2⟩,_,_,_,_,_⟩:=id hMj;have HST:=hid (show redI B (j + 1) X = redS B (redI B j X) from rfl);obtain ⟨Y,hY⟩ : ∃ Y,redI B j X = Y:=⟨_,rfl⟩;rw [hY] at hx1 hx2 hr1 hr2 HST hMj ⊢;clear hY;obtain ⟨y1,y2⟩:=Y;dsimp only at hx1 hx2 hr1 hr2 ⊢;have hl1:=Nat.le_trans (lg_mono hx1) hn;have hl2:=Nat.le_trans (lg_mono hx2) hbd;clear hx1 hx2 hbd;go_wp2_with fail;refine (quo_any y1 B A1 c1 (by omega) (by omega) (by omega) hr1).mono ?_;rintro e w2 ⟨⟨A3,c3,rfl,hr3⟩,hbb⟩;have hM2:=hMj.step hbb;have hr12:=hr1.keepB hbb;have hr22:=hr2.keepB hbb;clear hMj hbb hr1 hr2;have HUN:=hid (show redS B (y1,y2) = if y1 = 0 then (y1,y2) else if y1 % B = 0 then (y1 / B,y2) else (y1,y2 * B) from rfl)
     by_cases hy : y1 = 0
     ·have hl0 : ¬ (0:Int) < ((lg y1).length:Int):=(by rw [lg_len0.2 hy]; decide);have hr0 : y1 % B = 0:=(by rw [hy]; exact Nat.zero_mod _);rw [if_pos hy] at HUN;obtain ⟨q,hq⟩ : ∃ q,y1 % B = q:=⟨_,rfl⟩;rw [hq] at hr0 ⊢;have hqb : ((q:Int) == 0) = true:=(by rw [beq_iff_eq]; omega);clear hy hr0 hq;go_wp2_with fail;go_roundw
      case rel => exact ⟨j + 1,by omega,by go_num,by rw [HST.out,HUN.out]; exact ⟨⟨A1,c1,rfl,hr12⟩,⟨A2,c2,rfl,hr22⟩,hM2.c0,hM2.c1,hM2.hbb,hM2.blk,hM2.bel⟩⟩
      case measure => simp [RowKit.intOf]; omega
     ·have hl0 : (0:Int) < ((lg y1).length:Int):=by
       have : (lg y1).length ≠ 0:=fun h => hy (lg_len0.1 h);omega
      rw [if_neg hy] at HUN;clear hy
      by_cases hr0 : y1 % B = 0
      ·rw [if_pos hr0] at HUN;obtain ⟨q,hq⟩ : ∃ q,y1 % B = q:=⟨_,rfl⟩;rw [hq] at hr0 ⊢;have hqb : ((q:Int) == 0) = true:=(by rw [beq_iff_eq]; omega);clear hr0 hq;go_wp2_with fail;go_roundw
       case rel => exact ⟨j + 1,by omega,by go_num,by rw [HST.out,HUN.out]; exact ⟨⟨A3,c3,rfl,hr3⟩,⟨A2,c2,rfl,hr22⟩,hM2.c0,hM2.c1,hM2.hbb,hM2.blk,hM2.bel⟩⟩
       case measure => simp [RowKit.intOf]; omega
      ·rw [if_neg hr0] at HUN;obtain ⟨q,hq⟩ : ∃ q,y1 % B = q:=⟨_,rfl⟩;rw [hq] at hr0 ⊢;have hqb : ((q:Int) == 0) = false:=(by rw [beq_eq_false_iff_ne]; omega);clear hr0 hq;go_wp2_with fail;refine (prod_any y2 B 0 A2 c2 (by omega) (by omega) (by omega) (by decide) hr22).mono ?_;rintro e w3 ⟨⟨A4,c4,rfl,hr4⟩,hbb⟩;have hM3:=hM2.step hbb;have hr13:=hr12.keepB hbb;rw [Nat.add_zero] at hr4 ⊢;clear hM2 hbb hr12 hr22 hr3;go_wp2_with fail;go_roundw
       case rel => exact ⟨j + 1,by omega,by go_num,by rw [HST.out,HUN.out]; exact ⟨⟨A1,c1,rfl,hr13⟩,⟨A4,c4,rfl,hr4⟩,hM3.c0,hM3.c1,hM3.hbb,hM3.blk,hM3.bel⟩⟩
       case measure => simp [RowKit.intOf]; omega
    ·have hjp : j = p:=(by omega);subst hjp;go_wp2_with fail;go_roundw
     case rel => exact ⟨k + 1,by omega,by go_num,by rw [← HNX.out]; exact hMj⟩
     case measure => simp [RowKit.intOf]; omega
  ·have hk2 : k = 2:=(by omega);subst hk2;obtain ⟨⟨A1,c1,rfl,hr1⟩,⟨A2,c2,rfl,hr2⟩,-,-,-,hblk,hbel⟩:=hM;obtain ⟨X,hX⟩ : ∃ X,outS n p 2 = X:=⟨_,rfl⟩;have HX2:=hid hX;rw [hX] at hr1 hr2 ⊢;clear hX;obtain ⟨y1,y2⟩:=X;dsimp only at hr1 hr2 ⊢
   by_cases hy : y2 = 1
   ·subst hy;obtain ⟨g,off,rfl,hc⟩:=row_u32 hr2 (j:=0) (by rw [lg_one]; decide);have hc : wr.cell? ⟨g,off,none⟩ = some (.int .u32 1):=(by simpa [lg_one] using hc);have hl1 : (lg 1).length = 1:=(by rw [lg_one]; rfl);rw [hl1];clear hr2 hl1;go_wp2_with fail;refine (integer_any A1 (lg y1).length c1 wr).mono ?_;rintro e w2 ⟨rfl,hbb⟩;have hr12:=hr1.keepB hbb;have hblk2:=hblk.belowS hbb;have hb2:=below_then hbel hbb hbel.size;clear hr1 hblk hbb hbel;unfold valD at *
    go_wp2_with (refine wpList_store_row rfl 26 (.tmp 4) (.tmp 52) rfl w.heap.size #[.int .i64 2,.bool false,.slice A1 (lg y1).length c1,.bool false,.slice none 0 0,.string ⟨#[]⟩,.int .i64 0] rfl rfl 26 #[.int .i64 0,.bool false,.slice none 0 0,.bool false,.slice none 0 0,.string ⟨#[]⟩,.int .i64 0] hblk2 (by kernel_rfl) rfl (by simp [Value.oneCell']) ?_);rw [HX2.out];exact ret_blk rfl rfl (hblk2.setRow _) _ Tryz.underlying26 rfl (by kernel_rfl) rfl ⟨Go.below_setRow hb2 (Nat.le_refl _) _,A1,c1,row_setRow hr12 hblk2 _,by rw [if_pos rfl]; rfl⟩
   ·have hlm : (lg y2).length ≠ 1∨(∃ (x g off:Nat),A2 = some ⟨g,off,none⟩∧(lg y2).length = 1∧wr.cell? ⟨g,off,none⟩ = some (.int .u32 (x:Int))∧x ≠ 1):=by
     by_cases h : (lg y2).length = 1
     ·obtain ⟨g,off,h1,h2⟩:=row_u32 hr2 (j:=0) (by rw [h]; decide);refine .inr ⟨_,g,off,h1,h,h2,?_⟩;intro h3;have h4 : V 4294967296 (lg y2) = y2:=V_dig (by decide) y2;obtain ⟨x,hx⟩:=List.length_eq_one_iff.1 h;rw [hx] at h4;simp only [hx] at h3;simp [V] at h4;simp at h3;omega
     ·exact .inl h
    have HY:=hid hy;clear hy;rcases hlm with hl | ⟨x,g,off,rfl,hl,hc,hx⟩
    ·have hlb : (((lg y2).length:Int) == 1) = false:=(by rw [beq_eq_false_iff_ne]; omega);clear hl;unfold valD at *
     go_wp2_with (refine wpList_store_row rfl 26 (.tmp 4) (.tmp 57) rfl w.heap.size #[.int .i64 3,.bool false,.slice A1 (lg y1).length c1,.bool false,.slice A2 (lg y2).length c2,.string ⟨#[]⟩,.int .i64 0] rfl rfl 26 #[.int .i64 0,.bool false,.slice none 0 0,.bool false,.slice none 0 0,.string ⟨#[]⟩,.int .i64 0] hblk (by kernel_rfl) rfl (by simp [Value.oneCell']) ?_);rw [HX2.out];exact ret_blk rfl rfl (hblk.setRow _) _ Tryz.underlying26 rfl (by kernel_rfl) rfl ⟨Go.below_setRow hbel (Nat.le_refl _) _,A1,c1,row_setRow hr1 hblk _,by rw [if_neg HY.out]; exact ⟨A2,c2,row_setRow hr2 hblk _,rfl⟩⟩
    ·have hxb : ((x:Int) == 1) = false:=(by rw [beq_eq_false_iff_ne]; omega);have hlb : (((lg y2).length:Int) == 1) = true:=(by rw [beq_iff_eq]; omega);have hlp : (0:Int) < ((lg y2).length:Int):=(by omega);clear hl hx;unfold valD at *
     go_wp2_with (refine wpList_store_row rfl 26 (.tmp 4) (.tmp 57) rfl w.heap.size #[.int .i64 3,.bool false,.slice A1 (lg y1).length c1,.bool false,.slice (some ⟨g,off,none⟩) (lg y2).length c2,.string ⟨#[]⟩,.int .i64 0] rfl rfl 26 #[.int .i64 0,.bool false,.slice none 0 0,.bool false,.slice none 0 0,.string ⟨#[]⟩,.int .i64 0] hblk (by kernel_rfl) rfl (by simp [Value.oneCell']) ?_);rw [HX2.out];exact ret_blk rfl rfl (hblk.setRow _) _ Tryz.underlying26 rfl (by kernel_rfl) rfl ⟨Go.below_setRow hbel (Nat.le_refl _) _,A1,c1,row_setRow hr1 hblk _,by rw [if_neg HY.out]; exact ⟨(some ⟨g,off,none⟩),c2,row_setRow hr2 hblk _,rfl⟩⟩
end Go.Proofs.YtonehlkiackhcaaGreatDoor
