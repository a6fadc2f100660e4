/- utf8.ValidString over this dump, as the kit's command for the shelf lays contracts in plain words. Nothing is claimed here. -/
import Derived.Shelf.Strings.SlTrimAscii
import Derived.Test.YtonehlkiackhcaaGreatDoorLitNc
import Derived.Shelf.Unicode.ValidAny
set_option linter.unusedVariables false
set_option linter.unusedSimpArgs false
set_option maxRecDepth 100000
set_option maxHeartbeats 16000000
namespace Go.Proofs.YtonehlkiackhcaaGreatDoor
section
open Go.RowKit Go.Lib Go.Sort
theorem trim_any (s cs : List UInt8) (w : World) (hs : s.length ≤ 4294967) (hcs : cs.length < 4294967) (hac : cs.all (fun b => decide (b.toNat < 128)) = true) :
  Calls Tryz.prog 81 #[.string ⟨s.toArray⟩,.string ⟨cs.toArray⟩] w fun e w' => e = .returned (.string ⟨(Lib.trimS s cs).toArray⟩)∧Below w.heap.size w w':=by
 refine (Any.strings_Trim_laid Tryz.lays160 (by kernel_rfl) ⟨s.toArray⟩ ⟨cs.toArray⟩ w (by simp [ByteArray.size]; omega) (by simp [ByteArray.size]; omega) (ascii_of_all hac)).mono ?_;rintro e w' ⟨rfl,h⟩;exact ⟨rfl,h⟩
theorem dropWhile_nil (p : UInt8 → Bool) : ∀ l : List UInt8,l.dropWhile p = [] ↔ l.all p = true
 | [] => by simp
 | a :: l => by
  rw [List.dropWhile_cons];cases h : p a
  ·simp [h]
  ·simp [h,dropWhile_nil p l]
theorem trimS_nil (s cs : List UInt8) : trimS s cs = [] ↔ s.all (cs.contains ·) = true:=by
 unfold trimS trimLeftS trimRightS;rw [dropWhile_nil];constructor
 ·intro h;cases hr : s.reverse.dropWhile (cs.contains ·) with
  | nil =>
   rw [dropWhile_nil] at hr;simpa using hr
  | cons a l =>
   rw [hr] at h;have h1 : cs.contains a = true:=by
    have:=List.all_eq_true.1 h a (by simp);exact this
   have h2:=List.head?_dropWhile_not (cs.contains ·) s.reverse;rw [hr] at h2;simp at h2;simp at h1;exact absurd h1 h2
 ·intro h;have h1 : s.reverse.all (cs.contains ·) = true:=(by simpa using h);rw [(dropWhile_nil _ _).2 h1];rfl
def onlyV (s cs : List UInt8) : Bool:=decide (s ≠ []) && s.all (cs.contains ·)
theorem only_any (s cs : List UInt8) (w : World) (hs : s.length ≤ 4294967) (hcs : cs.length < 4294967) (hac : cs.all (fun b => decide (b.toNat < 128)) = true) :
  Calls Tryz.prog 38 #[.string ⟨s.toArray⟩,.string ⟨cs.toArray⟩] w fun e w' => e = .returned (.bool (onlyV s cs))∧Below w.heap.size w w':=by
 have HT:=hid (trim_any s cs w hs hcs hac);have hiff:=trimS_nil s cs;obtain ⟨T,hT⟩ : ∃ T,trimS s cs = T:=⟨_,rfl⟩;rw [hT] at HT hiff
 by_cases h0 : s = []
 ·subst h0;clear hiff hT;go_enter Tryz.func38,Tryz.ntmps38;go_wp2_with fail;go_ret;exact ⟨rfl,Below.refl _ _⟩
 ·have h0b : (s != []) = true:=(by simpa using h0);have h0c : (s == []) = false:=by simpa using h0
  by_cases h1 : T = []
  ·have HV:=hid (show onlyV s cs = true from by unfold onlyV; rw [hiff.1 h1]; simpa using h0);have h1b : (T == []) = true:=(by simpa using h1);clear hiff hT h0 h1;go_enter Tryz.func38,Tryz.ntmps38;go_wp2_with fail;refine HT.out.mono ?_;rintro e w2 ⟨rfl,hb⟩;go_wp2_with fail;go_ret;exact ⟨ret_bool (by rw [HV.out]),hb⟩
  ·have HV:=hid (show onlyV s cs = false from by
    unfold onlyV;cases h : s.all (cs.contains ·)
    ·simp
    ·exact absurd (hiff.2 h) h1)
   have h1b : (T == []) = false:=(by simpa using h1);clear hiff hT h0 h1;go_enter Tryz.func38,Tryz.ntmps38;go_wp2_with fail;refine HT.out.mono ?_;rintro e w2 ⟨rfl,hb⟩;go_wp2_with fail;go_ret;exact ⟨ret_bool (by rw [HV.out]),hb⟩
theorem integer_any (A : Option Addr) (l c:Nat) (w : World) : Calls Tryz.prog 40 #[.slice A l c] w fun e w' => e = .returned (.agg (valD 2 false (.slice A l c) false (.slice none 0 0) [] 0))∧Below w.heap.size w w':=by
 go_enter Tryz.func40,Tryz.ntmps40;go_wp2_with fail;exact ret_blk rfl rfl (Blk.new w 26 (valD 2 false (.slice A l c) false (.slice none 0 0) [] 0)) _ Tryz.underlying26 rfl (by kernel_rfl) rfl ⟨rfl,(Below.refl _ _).alloc (Nat.le_refl _) _⟩
def redS (B:Nat) (x : Nat × Nat) : Nat × Nat:=if x.1 = 0 then x else if x.1 % B = 0 then (x.1 / B,x.2) else (x.1,x.2 * B)
def redI (B:Nat) : Nat → Nat × Nat → Nat × Nat
 | 0,x => x
 | k + 1,x => redS B (redI B k x)
theorem redS_le (B:Nat) (hB : 1 ≤ B) (x : Nat × Nat) : (redS B x).1 ≤ x.1∧(redS B x).2 ≤ x.2 * B:=by
 unfold redS;split
 ·exact ⟨Nat.le_refl _,Nat.le_mul_of_pos_right _ hB⟩
 ·split
  ·exact ⟨Nat.div_le_self _ _,Nat.le_mul_of_pos_right _ hB⟩
  ·exact ⟨Nat.le_refl _,Nat.le_refl _⟩
theorem redI_le (B:Nat) (hB : 1 ≤ B) (x : Nat × Nat) : ∀ k,(redI B k x).1 ≤ x.1∧(redI B k x).2 ≤ x.2 * B ^ k
 | 0 => by simp [redI]
 | k + 1 => by
  obtain ⟨h1,h2⟩:=redI_le B hB x k;obtain ⟨h3,h4⟩:=redS_le B hB (redI B k x);refine ⟨Nat.le_trans h3 h1,Nat.le_trans h4 ?_⟩;rw [Nat.pow_succ,← Nat.mul_assoc];exact Nat.mul_le_mul_right _ h2
def baseK (k:Nat) : Nat:=if k = 0 then 2 else 5
def outS (n p k:Nat) : Nat × Nat:=if k = 0 then (n,1) else if k = 1 then redI 2 p (n,1) else redI 5 p (redI 2 p (n,1))
theorem outS_next (n p:Nat) {k : Nat} (h : k < 2) : redI (baseK k) p (outS n p k) = outS n p (k + 1):=by
 rcases (show k = 0∨k = 1 by omega) with rfl | rfl <;> rfl
theorem outS_le (n p:Nat) {k : Nat} (h : k ≤ 2) : (outS n p k).1 ≤ n∧(outS n p k).2 ≤ 2 ^ p * 5 ^ p:=by
 have h2:=redI_le 2 (by decide) (n,1) p;have h5:=redI_le 5 (by decide) (redI 2 p (n,1)) p;have hp : 1 ≤ 2 ^ p:=Nat.pow_pos (by decide);have hq : 1 ≤ 5 ^ p:=Nat.pow_pos (by decide);simp only [Nat.one_mul] at h2;rcases (show k = 0∨k = 1∨k = 2 by omega) with rfl | rfl | rfl
 ·exact ⟨Nat.le_refl _,Nat.mul_le_mul hp hq⟩
 ·exact ⟨h2.1,Nat.le_trans h2.2 (Nat.le_mul_of_pos_right _ hq)⟩
 ·exact ⟨Nat.le_trans h5.1 h2.1,Nat.le_trans h5.2 (Nat.mul_le_mul_right _ h2.2)⟩
theorem outS_in (n p:Nat) {k j : Nat} (h : k < 2) (hj : j ≤ p) : (redI (baseK k) j (outS n p k)).2 ≤ 2 ^ p * 5 ^ p:=by
 rcases (show k = 0∨k = 1 by omega) with rfl | rfl
 ·have h1:=(redI_le 2 (by decide) (n,1) j).2;simp only [Nat.one_mul] at h1;have h2 : 2 ^ j ≤ 2 ^ p:=Nat.pow_le_pow_right (by decide) hj;have h3 : 2 ^ p ≤ 2 ^ p * 5 ^ p:=Nat.le_mul_of_pos_right _ (Nat.pow_pos (by decide));exact Nat.le_trans h1 (Nat.le_trans h2 h3)
 ·have h1:=(redI_le 5 (by decide) (redI 2 p (n,1)) j).2;have h2:=(redI_le 2 (by decide) (n,1) p).2;simp only [Nat.one_mul] at h2;have h3 : 5 ^ j ≤ 5 ^ p:=Nat.pow_le_pow_right (by decide) hj;exact Nat.le_trans h1 (Nat.mul_le_mul h2 h3)
structure RedM (w : World) (bb:Nat) (x : Nat × Nat) (v0 v5 : Value) (wr : World) : Prop where
 a : ∃ A c,v0 = .slice A (lg x.1).length c∧Row wr A (u32s (lg x.1))
 b : ∃ A c,v5 = .slice A (lg x.2).length c∧Row wr A (u32s (lg x.2))
 c0 : wr.cell? ⟨bb,0,none⟩ = some (.int .u32 2)
 c1 : wr.cell? ⟨bb,1,none⟩ = some (.int .u32 5)
 hbb : bb < wr.heap.size
 blk : Blk wr w.heap.size 26 (valD 0 false (.slice none 0 0) false (.slice none 0 0) [] 0)
 bel : Below w.heap.size w wr
theorem RedM.step {w wr w2 : World} {bb : Nat} {x : Nat × Nat} {v0 v5 : Value} (h : RedM w bb x v0 v5 wr) (hb : Below wr.heap.size wr w2) : RedM w bb x v0 v5 w2:=by
 obtain ⟨⟨A,c,h1,h2⟩,⟨A',c',h3,h4⟩,h5,h6,h7,h8,h9⟩:=h;exact ⟨⟨A,c,h1,h2.keepB hb⟩,⟨A',c',h3,h4.keepB hb⟩,(hb.cell (p:=⟨bb,0,none⟩) h7).trans h5,(hb.cell (p:=⟨bb,1,none⟩) h7).trans h6,Nat.lt_of_lt_of_le h7 hb.size,h8.belowS hb,below_then h9 hb h9.size⟩
theorem RedM.start {w : World} {n : Nat} {A : Option Addr} {c : Nat} (hr : Row w A (u32s (lg n))) :
  RedM w (w.heap.size + 1 + 1) (n,1) (.slice A (lg n).length c) (.slice (some ⟨w.heap.size + 1,0,none⟩) 1 1) (((w.alloc (.cells (valD 0 false (.slice none 0 0) false (.slice none 0 0) [] 0) 26)).alloc (.cells #[.int .u32 1] 63)).alloc (.cells #[.int .u32 2,.int .u32 5] 63)):=by
 have hb1:=(Below.refl w.heap.size w).alloc (Nat.le_refl _) (.cells (valD 0 false (.slice none 0 0) false (.slice none 0 0) [] 0) 26);have hb2:=hb1.alloc hb1.size (.cells #[.int .u32 1] 63);have hb3:=hb2.alloc hb2.size (.cells #[.int .u32 2,.int .u32 5] 63);have hB:=Blk.new ((w.alloc (.cells (valD 0 false (.slice none 0 0) false (.slice none 0 0) [] 0) 26)).alloc (.cells #[.int .u32 1] 63)) 63 #[.int .u32 2,.int .u32 5];have hR:=Row.new (w.alloc (.cells (valD 0 false (.slice none 0 0) false (.slice none 0 0) [] 0) 26)) #[.int .u32 1] 63;have e1 : (w.alloc (.cells (valD 0 false (.slice none 0 0) false (.slice none 0 0) [] 0) 26)).heap.size = w.heap.size + 1:=by simp
 have e2 : ((w.alloc (.cells (valD 0 false (.slice none 0 0) false (.slice none 0 0) [] 0) 26)).alloc (.cells #[.int .u32 1] 63)).heap.size = w.heap.size + 1 + 1:=by simp
 rw [e2] at hB;rw [e1] at hR;refine ⟨⟨A,c,rfl,hr.keepB hb3⟩,⟨some ⟨w.heap.size + 1,0,none⟩,1,by rw [lg_one]; rfl,?_⟩,hB.cell 0,hB.cell 1,hB.lt,((Blk.new w 26 _).alloc _).alloc _,hb3⟩;rw [lg_one];exact hR.keepB ((Below.refl _ _).alloc (Nat.le_refl _) _)
def RedIn (w : World) (bb p B:Nat) (X : Nat × Nat) (v0 v5 i : Value) (wr : World) : Prop:=∃ j : Nat,j ≤ p∧i = .int .i64 (j:Int)∧RedM w bb (redI B j X) v0 v5 wr
def RedOut (w : World) (bb n p:Nat) (v0 v5 i : Value) (wr : World) : Prop:=∃ k : Nat,k ≤ 2∧i = .int .i64 (k:Int)∧RedM w bb (outS n p k) v0 v5 wr
theorem row_setRow {w : World} {g : Nat} {A : Option Addr} {l : List Nat} (h : Row w A (u32s l)) (hB : Blk w g 26 #[.int .i64 0,.bool false,.slice none 0 0,.bool false,.slice none 0 0,.string ⟨#[]⟩,.int .i64 0]) (cs : Array Value) : Row (w.setRow g cs) A (u32s l):=by
 rcases h with h0 | ⟨b,off,rfl,hlt,hc⟩
 ·exact .inl h0
 ·cases l with
  | nil => exact .inl rfl
  | cons x l =>
   have hne : b ≠ g:=by
    rintro rfl;have h1:=hc 0 (.int .u32 (x:Int)) rfl;rw [hB.cell] at h1;rcases off with _ | _ | _ | _ | _ | _ | _ | off <;> simp at h1
   have hh : (w.setRow g cs).heap[b]? = w.heap[b]?:=by
    unfold World.setRow;simp only [Array.getElem?_modify];rw [if_neg (fun e => hne e.symm)]
   refine .inr ⟨b,off,rfl,by simpa [World.setRow] using hlt,fun j u hu => ?_⟩;rw [World.cell?_of_block (w:=w) hh];exact hc j u hu
theorem one_bd (p:Nat) (hp : p ≤ 1000) : (lg (2 ^ p * 5 ^ p)).length ≤ 640:=by
 have h:=(lim_any 1 p p (by rw [lg_one]; decide) (by omega) (by omega)).1
 rwa [Nat.one_mul] at h
def RedPost (w : World) (x : Nat × Nat) (e : Ending) (w' : World) : Prop:=Below w.heap.size w w'∧∃ A c,Row w' A (u32s (lg x.1)) ∧
 if x.2 = 1 then e = .returned (.agg (valD 2 false (.slice A (lg x.1).length c) false (.slice none 0 0) [] 0))
 else ∃ A' c',Row w' A' (u32s (lg x.2))∧e = .returned (.agg (valD 3 false (.slice A (lg x.1).length c) false (.slice A' (lg x.2).length c') [] 0))
theorem reduce_any {w : World} (n p:Nat) (A : Option Addr) (c:Nat) (hn : (lg n).length ≤ 1000) (hp : p ≤ 1000) (hr : Row w A (u32s (lg n))) :
  Calls Tryz.prog 42 #[.slice A (lg n).length c,.int .i64 (p:Int)] w (RedPost w (outS n p 2)):=by
 have hS:=RedM.start (c:=c) hr;have HBD:=hid (one_bd p hp);go_enter Tryz.func42,Tryz.ntmps42;go_wp2_with fail
 go_loopw [0,5,7,8,9,13] (fun v0 v5 _ _ _ i wr => RedOut w (w.heap.size + 1 + 1) n p v0 v5 i wr) (fun _ _ _ _ _ i _ => 2 - (RowKit.intOf i).toNat)
 case atStart => exact ⟨0,by omega,rfl,hS⟩
 case round =>
  obtain ⟨k,hk,rfl,hM⟩:=hrel;clear hS hr
  by_cases hlt : k < 2
  ·have hc : wr.cell? ⟨w.heap.size + 1 + 1,k,none⟩ = some (.int .u32 (baseK k:Int)):=by
    rcases (show k = 0∨k = 1 by omega) with rfl | rfl
    ·exact hM.c0
    ·exact hM.c1
   have HNX:=hid (outS_next n p hlt);have hle:=outS_le n p (k:=k) (by omega);have hB1 : 2 ≤ baseK k∧baseK k ≤ 5:=(by unfold baseK; split <;> decide);have HIL:=hid (fun j => redI_le (baseK k) (by omega) (outS n p k) j);have HOL:=hid (fun j (hj : j ≤ p) => show (redI (baseK k) j (outS n p k)).2 ≤ 2 ^ p * 5 ^ p from outS_in n p hlt hj);obtain ⟨B,hB⟩ : ∃ B,baseK k = B:=⟨_,rfl⟩;obtain ⟨X,hX⟩ : ∃ X,outS n p k = X:=⟨_,rfl⟩;rw [hB] at hc HNX hB1 HIL HOL;rw [hX] at HNX hM hle HIL HOL;obtain ⟨hle1,hle2⟩:=hle;obtain ⟨hB2,hB5⟩:=hB1;clear hB hX hle2;obtain ⟨wo,rfl⟩ : ∃ wo : World,wo = wr:=⟨_,rfl⟩;have hki : (k:Int) < 2:=(by omega);have hkd : decide ((k:Int) < 2) = true:=(by simpa using hki);go_wp2_with fail
   go_loopw [0,5,8,9,18] (fun v0 v5 _ _ i wr => RedIn w (w.heap.size + 1 + 1) p B X v0 v5 i wr) (fun _ _ _ _ i _ => p - (RowKit.intOf i).toNat)
   case atStart => exact ⟨0,Nat.zero_le _,rfl,hM⟩
   case round =>
    obtain ⟨j,hj,rfl,hMj⟩:=hrel;clear hM hc
    by_cases hlj : j < p
    ·have hx1:=Nat.le_trans (HIL.out j).1 hle1;have hx2:=HOL.out j hj;have hbd:=HBD.out;obtain ⟨⟨A1,c1,rfl,hr1⟩,⟨A2,c2,rfl,hr2⟩,_,_,_,_,_⟩:=id hMj;have HST:=hid (show redI B (j + 1) X = redS B (redI B j X) from rfl);obtain ⟨Y,hY⟩ : ∃ Y,redI B j X = Y:=⟨_,rfl⟩;rw [hY] at hx1 hx2 hr1 hr2 HST hMj ⊢;clear hY;obtain ⟨y1,y2⟩:=Y;dsimp only at hx1 hx2 hr1 hr2 ⊢;have hl1:=Nat.le_trans (lg_mono hx1) hn;have hl2:=Nat.le_trans (lg_mono hx2) hbd;clear hx1 hx2 hbd;go_wp2_with fail;refine (quo_any y1 B A1 c1 (by omega) (by omega) (by omega) hr1).mono ?_;rintro e w2 ⟨⟨A3,c3,rfl,hr3⟩,hbb⟩;have hM2:=hMj.step hbb;have hr12:=hr1.keepB hbb;have hr22:=hr2.keepB hbb;clear hMj hbb hr1 hr2;have HUN:=hid (show redS B (y1,y2) = if y1 = 0 then (y1,y2) else if y1 % B = 0 then (y1 / B,y2) else (y1,y2 * B) from rfl)
     by_cases hy : y1 = 0
     ·have hl0 : ¬ (0:Int) < ((lg y1).length:Int):=(by rw [lg_len0.2 hy]; decide);have hr0 : y1 % B = 0:=(by rw [hy]; exact Nat.zero_mod _);rw [if_pos hy] at HUN;obtain ⟨q,hq⟩ : ∃ q,y1 % B = q:=⟨_,rfl⟩;rw [hq] at hr0 ⊢;have hqb : ((q:Int) == 0) = true:=(by rw [beq_iff_eq]; omega);clear hy hr0 hq;go_wp2_with fail;go_roundw
      case rel => exact ⟨j + 1,by omega,by go_num,by rw [HST.out,HUN.out]; exact ⟨⟨A1,c1,rfl,hr12⟩,⟨A2,c2,rfl,hr22⟩,hM2.c0,hM2.c1,hM2.hbb,hM2.blk,hM2.bel⟩⟩
      case measure => simp [RowKit.intOf]; omega
     ·have hl0 : (0:Int) < ((lg y1).length:Int):=by
       have : (lg y1).length ≠ 0:=fun h => hy (lg_len0.1 h);omega
      rw [if_neg hy] at HUN;clear hy
      by_cases hr0 : y1 % B = 0
      ·rw [if_pos hr0] at HUN;obtain ⟨q,hq⟩ : ∃ q,y1 % B = q:=⟨_,rfl⟩;rw [hq] at hr0 ⊢;have hqb : ((q:Int) == 0) = true:=(by rw [beq_iff_eq]; omega);clear hr0 hq;go_wp2_with fail;go_roundw
       case rel => exact ⟨j + 1,by omega,by go_num,by rw [HST.out,HUN.out]; exact ⟨⟨A3,c3,rfl,hr3⟩,⟨A2,c2,rfl,hr22⟩,hM2.c0,hM2.c1,hM2.hbb,hM2.blk,hM2.bel⟩⟩
       case measure => simp [RowKit.intOf]; omega
      ·rw [if_neg hr0] at HUN;obtain ⟨q,hq⟩ : ∃ q,y1 % B = q:=⟨_,rfl⟩;rw [hq] at hr0 ⊢;have hqb : ((q:Int) == 0) = false:=(by rw [beq_eq_false_iff_ne]; omega);clear hr0 hq;go_wp2_with fail;refine (prod_any y2 B 0 A2 c2 (by omega) (by omega) (by omega) (by decide) hr22).mono ?_;rintro e w3 ⟨⟨A4,c4,rfl,hr4⟩,hbb⟩;have hM3:=hM2.step hbb;have hr13:=hr12.keepB hbb;rw [Nat.add_zero] at hr4 ⊢;clear hM2 hbb hr12 hr22 hr3;go_wp2_with fail;go_roundw
       case rel => exact ⟨j + 1,by omega,by go_num,by rw [HST.out,HUN.out]; exact ⟨⟨A1,c1,rfl,hr13⟩,⟨A4,c4,rfl,hr4⟩,hM3.c0,hM3.c1,hM3.hbb,hM3.blk,hM3.bel⟩⟩
       case measure => simp [RowKit.intOf]; omega
    ·have hjp : j = p:=(by omega);subst hjp;go_wp2_with fail;go_roundw
     case rel => exact ⟨k + 1,by omega,by go_num,by rw [← HNX.out]; exact hMj⟩
     case measure => simp [RowKit.intOf]; omega
  ·have hk2 : k = 2:=(by omega);subst hk2;obtain ⟨⟨A1,c1,rfl,hr1⟩,⟨A2,c2,rfl,hr2⟩,-,-,-,hblk,hbel⟩:=hM;obtain ⟨X,hX⟩ : ∃ X,outS n p 2 = X:=⟨_,rfl⟩;have HX2:=hid hX;rw [hX] at hr1 hr2 ⊢;clear hX;obtain ⟨y1,y2⟩:=X;dsimp only at hr1 hr2 ⊢
   by_cases hy : y2 = 1
   ·subst hy;obtain ⟨g,off,rfl,hc⟩:=row_u32 hr2 (j:=0) (by rw [lg_one]; decide);have hc : wr.cell? ⟨g,off,none⟩ = some (.int .u32 1):=(by simpa [lg_one] using hc);have hl1 : (lg 1).length = 1:=(by rw [lg_one]; rfl);rw [hl1];clear hr2 hl1;go_wp2_with fail;refine (integer_any A1 (lg y1).length c1 wr).mono ?_;rintro e w2 ⟨rfl,hbb⟩;have hr12:=hr1.keepB hbb;have hblk2:=hblk.belowS hbb;have hb2:=below_then hbel hbb hbel.size;clear hr1 hblk hbb hbel;unfold valD at *
    go_wp2_with (refine wpList_store_row rfl 26 (.tmp 4) (.tmp 52) rfl w.heap.size #[.int .i64 2,.bool false,.slice A1 (lg y1).length c1,.bool false,.slice none 0 0,.string ⟨#[]⟩,.int .i64 0] rfl rfl 26 #[.int .i64 0,.bool false,.slice none 0 0,.bool false,.slice none 0 0,.string ⟨#[]⟩,.int .i64 0] hblk2 (by kernel_rfl) rfl (by simp [Value.oneCell']) ?_);rw [HX2.out];exact ret_blk rfl rfl (hblk2.setRow _) _ Tryz.underlying26 rfl (by kernel_rfl) rfl ⟨Go.below_setRow hb2 (Nat.le_refl _) _,A1,c1,row_setRow hr12 hblk2 _,by rw [if_pos rfl]; rfl⟩
   ·have hlm : (lg y2).length ≠ 1∨(∃ (x g off:Nat),A2 = some ⟨g,off,none⟩∧(lg y2).length = 1∧wr.cell? ⟨g,off,none⟩ = some (.int .u32 (x:Int))∧x ≠ 1):=by
     by_cases h : (lg y2).length = 1
     ·obtain ⟨g,off,h1,h2⟩:=row_u32 hr2 (j:=0) (by rw [h]; decide);refine .inr ⟨_,g,off,h1,h,h2,?_⟩;intro h3;have h4 : V 4294967296 (lg y2) = y2:=V_dig (by decide) y2;obtain ⟨x,hx⟩:=List.length_eq_one_iff.1 h;rw [hx] at h4;simp only [hx] at h3;simp [V] at h4;simp at h3;omega
     ·exact .inl h
    have HY:=hid hy;clear hy;rcases hlm with hl | ⟨x,g,off,rfl,hl,hc,hx⟩
    ·have hlb : (((lg y2).length:Int) == 1) = false:=(by rw [beq_eq_false_iff_ne]; omega);clear hl;unfold valD at *
     go_wp2_with (refine wpList_store_row rfl 26 (.tmp 4) (.tmp 57) rfl w.heap.size #[.int .i64 3,.bool false,.slice A1 (lg y1).length c1,.bool false,.slice A2 (lg y2).length c2,.string ⟨#[]⟩,.int .i64 0] rfl rfl 26 #[.int .i64 0,.bool false,.slice none 0 0,.bool false,.slice none 0 0,.string ⟨#[]⟩,.int .i64 0] hblk (by kernel_rfl) rfl (by simp [Value.oneCell']) ?_);rw [HX2.out];exact ret_blk rfl rfl (hblk.setRow _) _ Tryz.underlying26 rfl (by kernel_rfl) rfl ⟨Go.below_setRow hbel (Nat.le_refl _) _,A1,c1,row_setRow hr1 hblk _,by rw [if_neg HY.out]; exact ⟨A2,c2,row_setRow hr2 hblk _,rfl⟩⟩
    ·have hxb : ((x:Int) == 1) = false:=(by rw [beq_eq_false_iff_ne]; omega);have hlb : (((lg y2).length:Int) == 1) = true:=(by rw [beq_iff_eq]; omega);have hlp : (0:Int) < ((lg y2).length:Int):=(by omega);clear hl hx;unfold valD at *
     go_wp2_with (refine wpList_store_row rfl 26 (.tmp 4) (.tmp 57) rfl w.heap.size #[.int .i64 3,.bool false,.slice A1 (lg y1).length c1,.bool false,.slice (some ⟨g,off,none⟩) (lg y2).length c2,.string ⟨#[]⟩,.int .i64 0] rfl rfl 26 #[.int .i64 0,.bool false,.slice none 0 0,.bool false,.slice none 0 0,.string ⟨#[]⟩,.int .i64 0] hblk (by kernel_rfl) rfl (by simp [Value.oneCell']) ?_);rw [HX2.out];exact ret_blk rfl rfl (hblk.setRow _) _ Tryz.underlying26 rfl (by kernel_rfl) rfl ⟨Go.below_setRow hbel (Nat.le_refl _) _,A1,c1,row_setRow hr1 hblk _,by rw [if_neg HY.out]; exact ⟨(some ⟨g,off,none⟩),c2,row_setRow hr2 hblk _,rfl⟩⟩
theorem lvalid3_any {w : World} (ln ld : List Nat) (A1 A2 : Option Addr) (c1 c2:Nat) (h1 : wellV ln = true) (h2 : wellV ld = true) (hl1 : ln.length ≤ 128) (hl2 : ld.length ≤ 128) (hrn : Row w A1 (u32s ln)) (hrd : Row w A2 (u32s ld)) :
  Calls Tryz.prog 21 #[.agg (valD 3 false (.slice A1 ln.length c1) false (.slice A2 ld.length c2) [] 0)] w fun e w' => e = .returned (.bool true)∧Below w.heap.size w w':=by
 have hB:=Blk.new w 26 (valD 3 false (.slice A1 ln.length c1) false (.slice A2 ld.length c2) [] 0);have hbel:=(Below.refl w.heap.size w).alloc (Nat.le_refl _) (.cells (valD 3 false (.slice A1 ln.length c1) false (.slice A2 ld.length c2) [] 0) 26);have hr1:=hrn.keepB hbel;have hr2:=hrd.keepB hbel;unfold valD at *
 obtain ⟨v1,v2,v3⟩:=hB.rules;go_enter Tryz.func21,Tryz.ntmps21;go_wp2_with fail;refine (well_any ln A1 c1 (by omega) hr1).mono ?_;rintro e w2 ⟨rfl,hbb⟩;rw [h1];have hB2:=hB.belowS hbb;have hbel2:=below_then hbel hbb hbel.size;have hr22:=hr2.keepB hbb;clear hB hbel hbb hr1 hr2 v1 v2 v3;obtain ⟨v1,v2,v3⟩:=hB2.rules;go_wp2_with fail;refine (well_any ld A2 c2 (by omega) hr22).mono ?_;rintro e w3 ⟨rfl,hbb⟩;rw [h2];have hB3:=hB2.belowS hbb;have hbel3:=below_then hbel2 hbb hbel2.size;clear hB2 hbel2 hbb hr22 v1 v2 v3;obtain ⟨v1,v2,v3⟩:=hB3.rules;go_wp2_with fail;go_ret;exact ⟨rfl,hbel3⟩
def PrPost (w : World) (n d:Nat) (e : Ending) (w' : World) : Prop:=Below w.heap.size w w'∧∃ R,FinP n d R∧match R with
 | .error c => e = .returned (.tuple #[.string ⟨#[]⟩,flt c (-1)])
 | .ok t => e = .returned (.tuple #[.string ⟨(if 600 < t.length then [] else t).toArray⟩,if 600 < t.length then flt 3 (-1) else flt 0 0])
theorem lprint3_any {w : World} (n d:Nat) (A1 A2 : Option Addr) (c1 c2:Nat) (hn : (lg n).length ≤ 128) (hd : (lg d).length ≤ 128) (h1 : wellV (lg n) = true) (h2 : wellV (lg d) = true) (hrn : Row w A1 (u32s (lg n))) (hrd : Row w A2 (u32s (lg d))) (htab : Lib.TabIs Tryz.prog w "internal/strconv.uint64pow10" .u64 Lib.pow10Tab) :
  Calls Tryz.prog 8 #[.agg (valD 3 false (.slice A1 (lg n).length c1) false (.slice A2 (lg d).length c2) [] 0)] w (PrPost w n d):=by
 have hC:=FiC.new w (valD 3 false (.slice A1 (lg n).length c1) false (.slice A2 (lg d).length c2) [] 0);obtain ⟨v1,v2,v3⟩:=hC.v.rules;have HV:=hid (fun W (hr1 : Row W A1 (u32s (lg n))) (hr2 : Row W A2 (u32s (lg d))) => lvalid3_any (lg n) (lg d) A1 A2 c1 c2 h1 h2 hn hd hr1 hr2);have HFI:=hid (fun W hr1 hr2 ht => finite_any (w:=W) n d 3 0 false false [] A1 A2 c1 c2 hn hd hr1 hr2 ht);unfold valD at *
 go_enter Tryz.func8,Tryz.ntmps8;go_wp2_with fail;refine (HV.out _ (hrn.keepB hC.bel) (hrd.keepB hC.bel)).mono ?_;rintro e w2 ⟨rfl,hbb⟩;have hC2:=hC.step hbb;clear hC hbb v1 v2 v3;obtain ⟨v1,v2,v3⟩:=hC2.v.rules;go_wp2_with fail;have hF:=Blk.new w2 29 #[.int .i64 0,.int .i64 0];have hba:=(Below.refl w2.heap.size w2).alloc (Nat.le_refl _) (.cells #[.int .i64 0,.int .i64 0] 29);have hC3:=hC2.step hba;have hqs:=hC2.p.lt;have hr1:=hrn.keepB hC3.bel;have hr2:=hrd.keepB hC3.bel;have ht3:=tab_keep htab hC3.bel;obtain ⟨w3,hw3⟩ : ∃ w3,w2.alloc (.cells #[.int .i64 0,.int .i64 0] 29) = w3:=⟨_,rfl⟩;rw [hw3] at hF hC3 hr1 hr2 ht3 ⊢;obtain ⟨q,hq⟩ : ∃ q,w2.heap.size = q:=⟨_,rfl⟩;rw [hq] at hF hqs ⊢;clear hw3 hq hC2 hba v1 v2 v3 hrn hrd htab;refine (HFI.out _ hr1 hr2 ht3).mono ?_;rintro e w4 ⟨hbb,R,hR,hpost⟩;have hC4:=hC3.step hbb;have hF4:=hF.belowS hbb;have HR:=hid hR;clear hC3 hbb hF hR hr1 hr2 ht3;rcases R with c | t
 ·obtain rfl:=hpost;unfold flt;obtain ⟨q1,q2,q3⟩:=hF4.rules;obtain ⟨p1,p2,p3⟩:=hC4.p.rules;go_wp2_with fail;have hF5:=(hF4.set_ 0 (.int .i64 c)).set_ 1 (.int .i64 (-1));have hP5:=(hC4.p.far (p:=⟨q,0,none⟩) (by show w.heap.size + 1 ≠ q; omega) (.int .i64 c)).far (p:=⟨q,1,none⟩) (by show w.heap.size + 1 ≠ q; omega) (.int .i64 (-1));have hb5:=(hC4.bel.setCell (p:=⟨q,0,none⟩) (by show w.heap.size ≤ q; omega) (.int .i64 c)).setCell (p:=⟨q,1,none⟩) (by show w.heap.size ≤ q; omega) (.int .i64 (-1));obtain ⟨w5,hw5⟩ : ∃ w5,(w4.setCell ⟨q,0,none⟩ (.int .i64 c)).setCell ⟨q,1,none⟩ (.int .i64 (-1)) = w5:=⟨_,rfl⟩;rw [hw5] at hF5 hP5 hb5 ⊢;clear hw5 q1 q2 q3 p1 p2 p3 hF4 hC4;obtain ⟨q1,q2,q3⟩:=hF5.rules;obtain ⟨p1,p2,p3⟩:=hP5.rules;go_region
  all_goals go_wp2_with fail
  all_goals exact ret_tmp_blk rfl rfl ((hP5.set_ 0 (.int .i64 c)).set_ 1 (.int .i64 (-1))).drew _ Tryz.underlying29 rfl (by kernel_rfl) rfl _ rfl ⟨((hb5.setCell (p:=⟨w.heap.size + 1,0,none⟩) (Nat.le_succ _) (.int .i64 c)).setCell (p:=⟨w.heap.size + 1,1,none⟩) (Nat.le_succ _) (.int .i64 (-1))).drew,.error c,HR.out,rfl⟩
 ·obtain rfl:=hpost;unfold flt;obtain ⟨q1,q2,q3⟩:=hF4.rules;obtain ⟨p1,p2,p3⟩:=hC4.p.rules
  by_cases ht : 600 < t.length
  ·have hti : (600:Int) < (t.length:Int):=(by omega);have HT:=hid ht;clear ht;go_wp2_with fail;have hF5:=(hF4.set_ 0 (.int .i64 0)).set_ 1 (.int .i64 0);have hP5:=(hC4.p.far (p:=⟨q,0,none⟩) (by show w.heap.size + 1 ≠ q; omega) (.int .i64 0)).far (p:=⟨q,1,none⟩) (by show w.heap.size + 1 ≠ q; omega) (.int .i64 0);have hb5:=(hC4.bel.setCell (p:=⟨q,0,none⟩) (by show w.heap.size ≤ q; omega) (.int .i64 0)).setCell (p:=⟨q,1,none⟩) (by show w.heap.size ≤ q; omega) (.int .i64 0);obtain ⟨w5,hw5⟩ : ∃ w5,(w4.setCell ⟨q,0,none⟩ (.int .i64 0)).setCell ⟨q,1,none⟩ (.int .i64 0) = w5:=⟨_,rfl⟩;rw [hw5] at hF5 hP5 hb5 ⊢;clear hw5 q1 q2 q3 p1 p2 p3 hF4 hC4;obtain ⟨q1,q2,q3⟩:=hF5.rules;obtain ⟨p1,p2,p3⟩:=hP5.rules;refine (lfault_any 3 (-1) _).mono ?_;rintro e w9 ⟨rfl,hbb9⟩;have hP9:=hP5.belowS hbb9;have hb9:=below_then hb5 hbb9 hb5.size;clear q1 q2 q3 p1 p2 p3 hP5 hF5 hb5;obtain ⟨p1,p2,p3⟩:=hP9.rules;go_wp2_with fail;exact ret_tmp_blk rfl rfl ((hP9.set_ 0 (.int .i64 3)).set_ 1 (.int .i64 (-1))) _ Tryz.underlying29 rfl (by kernel_rfl) rfl _ rfl ⟨(hb9.setCell (p:=⟨w.heap.size + 1,0,none⟩) (Nat.le_succ _) (.int .i64 3)).setCell (p:=⟨w.heap.size + 1,1,none⟩) (Nat.le_succ _) (.int .i64 (-1)),.ok t,HR.out,by simp only [if_pos HT.out]; rfl⟩
  ·have hti : ¬ (600:Int) < (t.length:Int):=(by omega);have HT:=hid ht;clear ht;go_wp2_with fail;have hF5:=(hF4.set_ 0 (.int .i64 0)).set_ 1 (.int .i64 0);have hP5:=(hC4.p.far (p:=⟨q,0,none⟩) (by show w.heap.size + 1 ≠ q; omega) (.int .i64 0)).far (p:=⟨q,1,none⟩) (by show w.heap.size + 1 ≠ q; omega) (.int .i64 0);have hb5:=(hC4.bel.setCell (p:=⟨q,0,none⟩) (by show w.heap.size ≤ q; omega) (.int .i64 0)).setCell (p:=⟨q,1,none⟩) (by show w.heap.size ≤ q; omega) (.int .i64 0);obtain ⟨w5,hw5⟩ : ∃ w5,(w4.setCell ⟨q,0,none⟩ (.int .i64 0)).setCell ⟨q,1,none⟩ (.int .i64 0) = w5:=⟨_,rfl⟩;rw [hw5] at hF5 hP5 hb5 ⊢;clear hw5 q1 q2 q3 p1 p2 p3 hF4 hC4;obtain ⟨q1,q2,q3⟩:=hF5.rules;obtain ⟨p1,p2,p3⟩:=hP5.rules;go_region
   all_goals go_wp2_with fail
   all_goals exact ret_tmp_blk rfl rfl ((hP5.set_ 0 (.int .i64 0)).set_ 1 (.int .i64 0)).drew _ Tryz.underlying29 rfl (by kernel_rfl) rfl _ rfl ⟨((hb5.setCell (p:=⟨w.heap.size + 1,0,none⟩) (Nat.le_succ _) (.int .i64 0)).setCell (p:=⟨w.heap.size + 1,1,none⟩) (Nat.le_succ _) (.int .i64 0)).drew,.ok t,HR.out,(by simp only [if_neg HT.out]; rfl)⟩
end
end Go.Proofs.YtonehlkiackhcaaGreatDoor

namespace Go.Proofs
open Go.Shelf
def Tryz.laysV_ren : Go.Shelf.Ren:=⟨fun | 196 => 69 | 259 => 102 | n => n,fun | 0 => 0 | 3 => 3 | 4 => 4 | 5 => 5 | 9 => 9 | 12 => 12 | 46 => 121 | 53 => 164 | 119 => 160 | 138 => 162 | 139 => 163 | n => n,fun | 3 => 0 | 4 => 1 | n => n⟩
theorem Tryz.laysV196 : Go.Proofs.Lays.n196 Tryz.prog Tryz.laysV_ren:={
 mixed:=by kernel_rfl
 f196:=Tryz.func69.trans (congrArg some (by kernel_rfl))
 f259:=Tryz.func102.trans (congrArg some (by kernel_rfl))
 t0:=Tryz.underlying0
 a0:=Tryz.isAgg0
 z0:=Tryz.sizeOf0
 v0:=Tryz.zeroValue0
 t3:=Tryz.underlying3
 a3:=Tryz.isAgg3
 z3:=Tryz.sizeOf3
 v3:=Tryz.zeroValue3
 t4:=Tryz.underlying4
 a4:=Tryz.isAgg4
 z4:=Tryz.sizeOf4
 v4:=Tryz.zeroValue4
 t5:=Tryz.underlying5
 a5:=Tryz.isAgg5
 z5:=Tryz.sizeOf5
 v5:=Tryz.zeroValue5
 t9:=Tryz.underlying9
 a9:=Tryz.isAgg9
 z9:=Tryz.sizeOf9
 v9:=Tryz.zeroValue9
 t12:=Tryz.underlying12
 a12:=Tryz.isAgg12
 z12:=Tryz.sizeOf12
 v12:=Tryz.zeroValue12
 t46:=Tryz.underlying121
 a46:=Tryz.isAgg121
 z46:=Tryz.sizeOf121
 v46:=Tryz.zeroValue121
 t53:=Tryz.underlying164
 a53:=Tryz.isAgg164
 z53:=Tryz.sizeOf164
 v53:=Tryz.zeroValue164
 t119:=Tryz.underlying160
 a119:=Tryz.isAgg160
 z119:=Tryz.sizeOf160
 t138:=Tryz.underlying162
 a138:=Tryz.isAgg162
 z138:=Tryz.sizeOf162
 v138:=Tryz.zeroValue162
 t139:=Tryz.underlying163
 a139:=Tryz.isAgg163
 z139:=Tryz.sizeOf163
 v139:=Tryz.zeroValue163
 g3:=by kernel_rfl
 g4:=by kernel_rfl
}
open Go.RowKit Go.Lib in
theorem Tryz.utf8_ValidString (s : ByteArray) (w : World) (hs : s.size ≤ 9223372036854775807) (hT : Lib.Utf8Tabs 0 1 w) :
  Calls Tryz.prog 69 #[.string s] w fun e w' => e = .returned (.bool (Lib.validD s.data.toList))∧Below w.heap.size w w':=Any.utf8_ValidString Tryz.laysV196 s w hs hT
end Go.Proofs
