/- The literals: a strings.Replacer over two bytes is built at its first use, and replaces. Nothing is claimed here. -/
import Derived.Test.YtonehlkiackhcaaGreatDoorLitBd
import Derived.Laws.CopyOwn
set_option linter.unusedVariables false
set_option linter.unusedSimpArgs false
set_option maxRecDepth 100000
set_option maxHeartbeats 16000000
namespace Go.Proofs.YtonehlkiackhcaaGreatDoor
section
open Go.RowKit Go.Lib
theorem own_at {w : World} {B : Nat} {e : TypeId} {n : Nat} {v : Value} {xs : List Value} (h : w.ownsRow B e 1 v n xs) (hn : n ≠ 0) :
  ∃ q c,v = .slice (some ⟨q,0,none⟩) n c∧q < w.heap.size∧B ≤ q∧∀ (j:Nat) (u : Value),xs[j]? = some u → w.cell? ⟨q,j,none⟩ = some u:=by
 rcases h.2 with ⟨_,h0⟩ | ⟨g,cap,cur,hv,hB,hh,hnc,_,hsz,htk⟩
 ·exact absurd h0 hn
 ·refine ⟨g,cap,hv,(Array.getElem?_eq_some_iff.1 hh).1,hB,fun j u hu => ?_⟩;rw [cell_of_row w g j cur e (0,0) hh];rw [← htk,List.getElem?_take] at hu;split at hu
  ·simpa using hu
  ·cases hu
theorem RB.far {B rb k : Nat} {w : World} {x y v : Value} (h : RB B rb k w x y v) {r : Nat} {t : TypeId} {cs : Array Value} (hr : Blk w r t cs) (hne : t ≠ 224) (hnb : t ≠ 5) (hns : 9 ≠ t) (i:Nat) (u : Value) : RB B rb k (w.setCell ⟨r,i,none⟩ u) x y v :=
 have hk:=(KB.refl w).far hr hnb i u
 ⟨h.blk.far (p:=⟨r,i,none⟩) (h.blk.ne_ hr (Ne.symm hne)) u,own_farS (i:=i) h.own (own_blk_ne h.own hr hns) u,h.lo,h.xn,h.yn,fun a => (h.xd a).keep hk,fun a => (h.yd a).keep hk⟩
theorem RB.drew {B rb k : Nat} {w : World} {x y v : Value} (h : RB B rb k w x y v) : RB B rb k w.drew x y v :=
 ⟨h.blk.drew,own_same h.own (fun _ _ => rfl),h.lo,h.xn,h.yn,fun a => (h.xd a).keep (fun _ _ _ e => e),fun a => (h.yd a).keep (fun _ _ _ e => e)⟩
theorem RB.belowS {B rb k : Nat} {w w' : World} {x y v : Value} (h : RB B rb k w x y v) (hb : Below w.heap.size w w') : RB B rb k w' x y v :=
 ⟨h.blk.belowS hb,own_same h.own (fun j hj => hb.block j (h.own.lt j hj).2),h.lo,h.xn,h.yn,fun a => (h.xd a).keep ((KB.refl w).below hb),fun a => (h.yd a).keep ((KB.refl w).below hb)⟩
theorem bonce_any {w : World} {r q c : Nat} {s : Int} (hR : Blk w r 156 #[.int .u32 0,.int .i32 s,.int .u32 0,.nilIface,.slice (some ⟨q,0,none⟩) 4 c])
  (c0 : w.cell? ⟨q,0,none⟩ = some (strV [123])) (c1 : w.cell? ⟨q,1,none⟩ = some (strV [123,123])) (c2 : w.cell? ⟨q,2,none⟩ = some (strV [125])) (c3 : w.cell? ⟨q,3,none⟩ = some (strV [125,125])) (hqs : q < w.heap.size) :
  Calls Tryz.prog 101 #[.pointer (some ⟨r,0,none⟩)] w fun e w' => e = .returned (.tuple #[])∧∃ rb x y v,Blk w' r 156 #[.int .u32 0,.int .i32 s,.int .u32 0,.iface 225 (.pointer (some ⟨rb,0,none⟩)),.slice none 0 0]∧RB w.heap.size rb 2 w' x y v ∧
   ∀ B W,B ≤ r → Below B W w → Below B W w':=by
 have hB:=hid (rbuild_any hR c0 c1 c2 c3 hqs);clear c0 c1 c2 c3 hqs;go_enter Tryz.func101,Tryz.ntmps101;go_wp2_with fail;refine hB.out.mono ?_;rintro e w1 ⟨rb,x,y,v,rfl,hRB,hb1⟩;have hR1:=hR.belowS hb1;have hR2:=hR1.set_ 3 (.iface 225 (.pointer (some ⟨rb,0,none⟩)));have hR3:=hR2.set_ 4 (.slice none 0 0);obtain ⟨q1,q2,q3⟩:=hR1.rules;have hlt:=hR.lt;clear hR hB;go_wp2_with fail;go_end0;refine ⟨rfl,rb,x,y,v,hR3,(hRB.far hR1 (by decide) (by decide) (by decide) 3 _).far hR2 (by decide) (by decide) (by decide) 4 _,fun B W hBr hb => ?_⟩;exact ((below_then hb hb1 (by omega)).setCell (p:=⟨r,3,none⟩) hBr _).setCell (p:=⟨r,4,none⟩) hBr _
theorem newrep_any {w : World} {q0 : Nat} (hrow : Row w (some ⟨q0,0,none⟩) [strV [123],strV [123,123],strV [125],strV [125,125]]) :
  Calls Tryz.prog 63 #[.slice (some ⟨q0,0,none⟩) 4 4] w fun e w' => ∃ r q c,e = .returned (.pointer (some ⟨r,0,none⟩))∧w.heap.size ≤ r∧Blk w' r 156 #[.int .u32 0,.int .i32 0,.int .u32 0,.nilIface,.slice (some ⟨q,0,none⟩) 4 c] ∧
   w'.cell? ⟨q,0,none⟩ = some (strV [123])∧w'.cell? ⟨q,1,none⟩ = some (strV [123,123])∧w'.cell? ⟨q,2,none⟩ = some (strV [125])∧w'.cell? ⟨q,3,none⟩ = some (strV [125,125])∧q < w'.heap.size∧Below w.heap.size w w':=by
 obtain ⟨B,hB⟩ : ∃ B,w.heap.size = B:=⟨_,rfl⟩;have HB:=hid hB;obtain ⟨i0,hi0,hz0,hz1,hz2⟩:=info_parts info_str16;have hnil : w.ownsRow B 9 1 (.slice none 0 0) 0 []:=⟨rfl,.inl ⟨rfl,rfl⟩⟩;rw [hB];clear hB;go_enter Tryz.func63,Tryz.ntmps63;go_wp2_with (at_builtin; refine wpList_append_row _ rfl (.const (.slice none 0 0)) (.tmp 8) 50 rfl B 9 i0 (.string ByteArray.empty) 1 16 Tryz.underlying50 hi0 hz0 hz1 hz2 rfl (by decide) _ 0 [] rfl hnil (some ⟨q0,0,none⟩) 4 4 [strV [123],strV [123,123],strV [125],strV [125,125]] rfl rfl hrow (by simp [Value.oneCell',strV]) (by decide) (by decide) (by rw [HB.out]; exact Nat.le_refl _) ?_; intro v3 w3 hown3 hg3 hat3; obtain ⟨q,c,hv3,hq3⟩:=own_at hown3 (by decide); subst hv3);go_ret;obtain ⟨hq,hBq,hcell⟩:=hq3;have hb3 : Below B w w3:=(Below.refl B w).grown hg3 (by rw [HB.out]; exact Nat.le_refl _) (fun k e => by cases e);have hbs : B ≤ w3.heap.size:=by have:=hb3.size; rw [HB.out] at this; exact this
 have hN:=Blk.new w3 156 #[.int .u32 0,.int .i32 0,.int .u32 0,.nilIface,.slice (some ⟨q,0,none⟩) 4 c];have hpa : Below w3.heap.size w3 (w3.alloc (.cells #[.int .u32 0,.int .i32 0,.int .u32 0,.nilIface,.slice (some ⟨q,0,none⟩) 4 c] 156)):=(Below.refl _ w3).alloc (Nat.le_refl _) _;have hk : ∀ (j:Nat) (u : Value),[strV [123],strV [123,123],strV [125],strV [125,125]][j]? = some u → (w3.alloc (.cells #[.int .u32 0,.int .i32 0,.int .u32 0,.nilIface,.slice (some ⟨q,0,none⟩) 4 c] 156)).cell? ⟨q,j,none⟩ = some u :=
  fun j u hu => (hpa.cell (p:=⟨q,j,none⟩) hq).trans (hcell j u hu)
 exact ⟨w3.heap.size,q,c,rfl,hbs,hN,hk 0 _ rfl,hk 1 _ rfl,hk 2 _ rfl,hk 3 _ rfl,Nat.lt_of_lt_of_le hq hpa.size,hb3.alloc hbs _⟩
def repl (s : List UInt8) : List UInt8:=s.flatMap fun c => if c = 123∨c = 125 then [c,c] else [c]
def brN (s : List UInt8) : Nat:=s.count 125 + s.count 123
theorem brN_cons (c : UInt8) (s : List UInt8) : brN (c :: s) = brN s + (if c = 123∨c = 125 then 1 else 0):=by
 unfold brN;rw [List.count_cons,List.count_cons]
 by_cases h1 : c = 123
 ·subst h1; simp; omega
 ·by_cases h2 : c = 125
  ·subst h2; simp; omega
  ·simp [h1,h2]
theorem brN_le (s : List UInt8) : brN s ≤ s.length:=by
 induction s with
 | nil => exact Nat.le_refl _
 | cons c s ih =>
  rw [brN_cons,List.length_cons];split <;> omega
theorem repl_len (s : List UInt8) : (repl s).length = s.length + brN s:=by
 induction s with
 | nil => rfl
 | cons c s ih =>
  rw [brN_cons];unfold repl at ih ⊢;rw [List.flatMap_cons,List.length_append,ih,List.length_cons];split <;> simp <;> omega
theorem repl_none (s : List UInt8) (h : brN s = 0) : repl s = s:=by
 induction s with
 | nil => rfl
 | cons c s ih =>
  rw [brN_cons] at h;unfold repl at ih ⊢;rw [List.flatMap_cons,ih (by omega)];split at h
  ·omega
  ·rename_i h1; rw [if_neg h1]; rfl
theorem repl_snoc (s : List UInt8) (c : UInt8) : repl (s ++ [c]) = repl s ++ (if c = 123∨c = 125 then [c,c] else [c]):=by simp [repl]
theorem brN_snoc (s : List UInt8) (c : UInt8) : brN (s ++ [c]) = brN s + (if c = 123∨c = 125 then 1 else 0):=by
 unfold brN;rw [List.count_append,List.count_append]
 by_cases h1 : c = 123
 ·subst h1; simp; omega
 ·by_cases h2 : c = 125
  ·subst h2; simp; omega
  ·simp [h1,h2]
end
section
open Go.RowKit Go.Lib Go.Sort
attribute [local go_sem] steady
theorem drewN_two (w : World) (a b:Nat) : (w.drewN a).drewN b = w.drewN (a + b):=by
 simp [World.drewN,Nat.add_assoc]
theorem count_one (l : List UInt8) (c : UInt8) (w : World) : Calls Tryz.prog 237 #[.string ⟨l.toArray⟩,.string ⟨#[c]⟩] w fun e w' => e = .returned (.int .i64 (l.count c:Nat))∧w' = w:=Tryz.strings_Count_one ⟨l.toArray⟩ c w
theorem byte3 (c : UInt8) : c = 125∨c = 123∨(c ≠ 125∧c ≠ 123):=by
 by_cases h1 : c = 125
 ·exact .inl h1
 ·by_cases h2 : c = 123
  ·exact .inr (.inl h2)
  ·exact .inr (.inr ⟨h1,h2⟩)
def bufL (A : List UInt8) (m:Nat) : List Value:=bytc A ++ List.replicate m (.int .u8 0)
theorem made_u8 (n:Nat) : madeCells (Value.cells (.int .u8 0)) n = (bufL [] n).toArray:=by
 apply Array.ext
 ·simp [madeCells,bufL,bytc]
 ·intro i h1 h2;simp [madeCells,bufL,bytc,Value.cells,Nat.mod_one]
theorem bufL_set (A : List UInt8) (m:Nat) (c : UInt8) : ((bufL A (m + 1)).toArray).setIfInBounds A.length (.int .u8 (c.toNat:Int)) = (bufL (A ++ [c]) m).toArray:=by
 unfold bufL;rw [List.setIfInBounds_toArray,List.set_append_right _ _ (by simp [bytc])];simp [bytc,List.replicate_succ]
theorem bufL_splice (A : List UInt8) (m:Nat) (c : UInt8) : splice (bufL A (m + 2)) A.length (bytc [c,c]) = bufL (A ++ [c,c]) m:=by
 unfold splice bufL;have h1 : (bytc A).length = A.length:=by simp [bytc]
 rw [List.take_append_of_le_length (by omega),List.take_of_length_le (by omega),List.drop_append,h1];simp [bytc,List.replicate_succ]
theorem run_cutB (b N k:Nat) (h : k < N) (W : World) : (Instr.slice 71 (.slice (some ⟨b,0,none⟩) N N) (some (.int .i64 (k:Int))) none none).run Tryz.prog W = .ok (.slice (some ⟨b,k,none⟩) (N - k) (N - k)) W:=by
 rw [run_slice_l W 71 (some ⟨b,0,none⟩) N N (by kernel_rfl) .i64 (k:Int) (by omega) (by omega),show Tryz.prog.elem 71 = 5 from by kernel_rfl,Tryz.sizeOf5 W];simp [Result.andThen,sliced,show N ≠ k by omega,Addr.add];exact fun h => h.symm
theorem repl_take_le (s : List UInt8) (k:Nat) : (repl (s.take k)).length ≤ (repl s).length:=by
 conv => rhs; rw [← List.take_append_drop k s]
 unfold repl;rw [List.flatMap_append,List.length_append];omega
theorem bsrep_any {w : World} {B rb : Nat} {x y v : Value} (h : RB B rb 2 w x y v) (s : List UInt8) (hl : s.length ≤ 1099511627776) :
  Calls Tryz.prog 274 #[.pointer (some ⟨rb,0,none⟩),.string ⟨s.toArray⟩] w fun e w' => e = .returned (.string ⟨(repl s).toArray⟩)∧Below w.heap.size w w':=by
 have hT:=h.blk;obtain ⟨ib,hib,hbz0,hbz1,hbz2⟩:=info_parts info_byte;obtain ⟨q,c,rfl,hq,_,hcell⟩:=own_at h.own (by decide);have d0:=hcell 0 _ rfl;have d1:=hcell 1 _ rfl;obtain ⟨r1,r2,r3⟩:=hT.rules;have g256:=(r1 256).trans (tabR_last _ _ _);have H:=hid h;unfold strV at d0 d1;clear hcell r1 h hT;go_enter Tryz.func274,Tryz.ntmps274
 go_upto_if 26 with fail
 go_cut [5,6,8,9,10,11] from 26 to 80 (fun s5 s6 s8 s9 s10 s11 wx => s5 = .int .i64 ((s.length:Int) + (brN s:Nat))∧s6 = .bool (decide (brN s ≠ 0))∧∃ k,wx = w.drewN k)
 case first =>
  by_cases h16 : 16 ≤ s.length
  ·have f16 : decide ((16:Int) ≤ (s.length:Int)) = true:=decide_eq_true (by omega);rw [f16];go_wp2_with fail;clear f16 h16
   go_loopw [5,6,8,9,32] (fun n f _ _ i wr => ∃ j,wr = w.drewN j∧((i = .int .i64 0∧n = .int .i64 (s.length:Int)∧f = .bool false)∨(i = .int .i64 1∧n = .int .i64 ((s.length:Int) + (s.count 125:Nat))∧f = .bool (decide (s.count 125 ≠ 0)))∨(i = .int .i64 2∧n = .int .i64 ((s.length:Int) + (brN s:Nat))∧f = .bool (decide (brN s ≠ 0))))) (fun _ _ _ _ i _ => 2 - (RowKit.intOf i).toNat)
   case atStart => exact ⟨0,rfl,.inl ⟨rfl,rfl,rfl⟩⟩
   case round =>
    obtain ⟨j,hj,⟨rfl,rfl,rfl⟩ | ⟨rfl,rfl,rfl⟩ | ⟨rfl,rfl,rfl⟩⟩:=hrel
    ·obtain ⟨qx,cx,cs,fr,hxv,hxh,hx0,hx1⟩:=H.out.xd (by decide);have e0 : wr.cell? ⟨q,0,none⟩ = some (.string ⟨#[125]⟩):=(by rw [hj]; exact d0);have e1 : wr.cell? ⟨rb,125,none⟩ = some (.slice (some ⟨qx,0,none⟩) 2 cx):=(by rw [hj]; exact ((H.out.blk.cell 125).trans (tabR_at 125 (by decide) _ _ _)).trans (by rw [← hxv]; rfl));have e2 : ∀ i,wr.frozen? ⟨rb,i,none⟩ = false:=fun i => by rw [hj]; exact r2 i
     have hx9 : ((⟨#[125]⟩ : ByteArray)[0]'(by decide)).toNat = 125:=rfl;have HJ:=hid hj;have HC:=hid (count_one s 125 wr);have hml : s.count 125 ≤ s.length:=List.count_le_length;have hml2 : s.count 125 ≤ s.length:=List.count_le_length;have HBN:=hid (show brN s = s.count 125 + s.count 123 from rfl);clear hj hxv hxh hx0 hx1;obtain ⟨m,hm⟩ : ∃ m,s.count 125 = m:=⟨_,rfl⟩;rw [hm] at HC hml;have HM:=hid hm;clear hm
     by_cases hz : m = 0
     ·subst hz;go_wp2_with (go_at_call 237; refine HC.out.mono ?_; rintro e w' ⟨rfl,rfl⟩);go_roundw
      case rel => exact ⟨j,HJ.out,.inr (.inl ⟨rfl,by first | (rw [HM.out]; go_num) | (rw [HBN.out,HM.out]; go_num),by first | (rw [HM.out]; rfl) | (rw [HBN.out,HM.out]; simp)⟩)⟩
      case measure => simp [RowKit.intOf]
     ·have hz1 : ((m:Int) != 0) = true:=(by simpa using hz);go_wp2_with (go_at_call 237; refine HC.out.mono ?_; rintro e w' ⟨rfl,rfl⟩);go_quiet (fail);go_wp2_with fail;go_roundw
      case rel => exact ⟨j + nq,by rw [HJ.out]; exact drewN_two w j nq,.inr (.inl ⟨rfl,by first | rw [HM.out] | (rw [HM.out]; go_num) | (rw [HBN.out,HM.out]; go_num),by first | (rw [HM.out]; simp [hz]) | (rw [HBN.out,HM.out]; simp [hz])⟩)⟩
      case measure => simp [RowKit.intOf]
    ·obtain ⟨qx,cx,cs,fr,hxv,hxh,hx0,hx1⟩:=H.out.yd (by decide);have e0 : wr.cell? ⟨q,1,none⟩ = some (.string ⟨#[123]⟩):=(by rw [hj]; exact d1);have e1 : wr.cell? ⟨rb,123,none⟩ = some (.slice (some ⟨qx,0,none⟩) 2 cx):=(by rw [hj]; exact ((H.out.blk.cell 123).trans (tabR_at 123 (by decide) _ _ _)).trans (by rw [← hxv]; rfl));have e2 : ∀ i,wr.frozen? ⟨rb,i,none⟩ = false:=fun i => by rw [hj]; exact r2 i
     have hx9 : ((⟨#[123]⟩ : ByteArray)[0]'(by decide)).toNat = 123:=rfl;have HJ:=hid hj;have HC:=hid (count_one s 123 wr);have hml : s.count 123 ≤ s.length:=List.count_le_length;have hml2 : s.count 125 ≤ s.length:=List.count_le_length;have HBN:=hid (show brN s = s.count 125 + s.count 123 from rfl);clear hj hxv hxh hx0 hx1;obtain ⟨m,hm⟩ : ∃ m,s.count 123 = m:=⟨_,rfl⟩;rw [hm] at HC hml;have HM:=hid hm;clear hm
     by_cases hz : m = 0
     ·subst hz;go_wp2_with (go_at_call 237; refine HC.out.mono ?_; rintro e w' ⟨rfl,rfl⟩);go_roundw
      case rel => exact ⟨j,HJ.out,.inr (.inr ⟨rfl,by first | (rw [HM.out]; go_num) | (rw [HBN.out,HM.out]; go_num),by first | (rw [HM.out]; rfl) | (rw [HBN.out,HM.out]; simp)⟩)⟩
      case measure => simp [RowKit.intOf]
     ·have hz1 : ((m:Int) != 0) = true:=(by simpa using hz);go_wp2_with (go_at_call 237; refine HC.out.mono ?_; rintro e w' ⟨rfl,rfl⟩);go_quiet (fail);go_wp2_with fail;go_roundw
      case rel => exact ⟨j + nq,by rw [HJ.out]; exact drewN_two w j nq,.inr (.inr ⟨rfl,by first | rw [HM.out] | (rw [HM.out]; go_num) | (rw [HBN.out,HM.out]; go_num),by first | (rw [HM.out]; simp [hz]) | (rw [HBN.out,HM.out]; simp [hz])⟩)⟩
      case measure => simp [RowKit.intOf]
    ·subst hj;go_wp2_with fail;go_meet
     case rel => exact ⟨by first | rfl | trivial,by first | rfl | trivial,j,rfl⟩
  ·have f16 : decide ((16:Int) ≤ (s.length:Int)) = false:=decide_eq_false (by omega);go_wp2_with fail
   go_loopw [5,6,10,11] (fun n f i c wr => ∃ k,k ≤ s.length∧i = .int .i64 (k:Int)∧n = .int .i64 ((s.length:Int) + (brN (s.take k):Nat))∧f = .bool (decide (brN (s.take k) ≠ 0))∧wr = w) (fun _ _ i _ _ => s.length - (RowKit.intOf i).toNat)
   case atStart => exact ⟨0,Nat.zero_le _,rfl,rfl,rfl,rfl⟩
   case round =>
    obtain ⟨k,hk,rfl,rfl,rfl,rfl⟩:=hrel
    by_cases hlt : k < s.length
    ·have hix:=run_idx s k hlt (k:Int) rfl;have hbn : brN (s.take (k + 1)) = brN (s.take k) + (if at0 s k = 123∨at0 s k = 125 then 1 else 0):=by
      rw [List.take_add_one,← brN_snoc,at0_lt s k hlt,List.getElem?_eq_getElem hlt]; rfl
     have hbl : brN (s.take k) ≤ s.length:=Nat.le_trans (brN_le _) (by rw [List.length_take]; omega);have hm : (at0 s k).toNat < 256:=UInt8.toNat_lt _;rcases byte3 (at0 s k) with h3 | h3 | ⟨h3,h4⟩
     ·obtain ⟨qx,cx,cs,fr,hxv,hxh,hx0,hx1⟩:=H.out.xd (by decide);rw [h3] at hix hbn;have gK : wr.cell? ⟨rb,125,none⟩ = some (.slice (some ⟨qx,0,none⟩) 2 cx):=(by rw [(H.out.blk.cell 125).trans (tabR_at 125 (by decide) _ _ _),← hxv]; rfl);have hnn : (binOp .neq 71 (.slice (some ⟨qx,0,none⟩) 2 cx) (.slice none 0 0)).run Tryz.prog wr = .ok (.bool true) wr:=run_neq_slice_nil_any wr 71 5 _ 2 cx 0 0 Tryz.underlying71;rw [if_pos (by decide)] at hbn;clear hxv h3;go_wp2_with fail;go_roundw
      case rel => exact ⟨k + 1,by omega,by go_num,by rw [hbn]; go_num,by rw [hbn]; simp,by trivial⟩
      case measure => simp [RowKit.intOf]; omega
     ·obtain ⟨qx,cx,cs,fr,hxv,hxh,hx0,hx1⟩:=H.out.yd (by decide);rw [h3] at hix hbn;have gK : wr.cell? ⟨rb,123,none⟩ = some (.slice (some ⟨qx,0,none⟩) 2 cx):=(by rw [(H.out.blk.cell 123).trans (tabR_at 123 (by decide) _ _ _),← hxv]; rfl);have hnn : (binOp .neq 71 (.slice (some ⟨qx,0,none⟩) 2 cx) (.slice none 0 0)).run Tryz.prog wr = .ok (.bool true) wr:=run_neq_slice_nil_any wr 71 5 _ 2 cx 0 0 Tryz.underlying71;rw [if_pos (by decide)] at hbn;clear hxv h3;go_wp2_with fail;go_roundw
      case rel => exact ⟨k + 1,by omega,by go_num,by rw [hbn]; go_num,by rw [hbn]; simp,by trivial⟩
      case measure => simp [RowKit.intOf]; omega
     ·have hfx : fT x y (at0 s k).toNat = .slice none 0 0:=by
       unfold fT;have e1 : (at0 s k).toNat ≠ 125:=fun e => h3 (UInt8.toNat_inj.1 e);have e2 : (at0 s k).toNat ≠ 123:=fun e => h4 (UInt8.toNat_inj.1 e);rw [if_neg e1,if_neg e2]
      have gK : wr.cell? ⟨rb,(at0 s k).toNat,none⟩ = some (.slice none 0 0):=(by rw [(H.out.blk.cell _).trans (tabR_at _ hm _ _ _),hfx]);have hnn : (binOp .neq 71 (.slice none 0 0) (.slice none 0 0)).run Tryz.prog wr = .ok (.bool false) wr:=run_neq_slice_nil_any wr 71 5 none 0 0 0 0 Tryz.underlying71;rw [if_neg (by rintro (e | e); exact h4 e; exact h3 e)] at hbn;generalize (at0 s k).toNat = mm at hix gK hm;clear hfx h3 h4;go_wp2_with fail;go_roundw
      case rel => exact ⟨k + 1,by omega,by go_num,by rw [hbn]; rfl,by rw [hbn]; rfl,by trivial⟩
      case measure => simp [RowKit.intOf]; omega
    ·rw [List.take_of_length_le (by omega)];go_wp2_with fail;go_meet
     case rel => exact ⟨rfl,rfl,0,rfl⟩
 case rest =>
  obtain ⟨rfl,rfl,k0,rfl⟩:=hcut
  by_cases hz : brN s = 0
  ·have hd : decide (brN s ≠ 0) = false:=(by simp [hz]);rw [hd];have HRP:=hid (repl_none s hz);clear hz hd;go_wp2_with fail;go_ret;exact ⟨by rw [HRP.out]; rfl,below_drewN (Below.refl _ _) _⟩
  ·have hd : decide (brN s ≠ 0) = true:=(by simp [hz]);rw [hd];have hrl:=repl_len s;have hbl:=brN_le s;obtain ⟨N,hN⟩ : ∃ N,s.length + brN s = N:=⟨_,rfl⟩;rw [hN] at hrl;rw [show ((s.length:Int) + ((brN s:Nat):Int)) = (N:Int) by omega];have hN41 : N ≤ 2199023255552:=(by omega);have HRL:=hid hrl;have HTK:=hid (fun k => repl_take_le s k);clear hd hz hN hrl hbl;have hrun:=run_make (P:=Tryz.prog) (w.drewN k0) 71 5 ib (.int .u8 0) Tryz.underlying71 hib hbz0 .i64 .i64 (N:Int) (N:Int) (by omega) (Int.le_refl _) (by rw [hbz2]; omega) (by omega);rw [hbz1,Int.toNat_natCast,Nat.mul_one,made_u8] at hrun;have hb1:=(below_drewN (Below.refl w.heap.size w) k0).alloc (Nat.le_refl _) (.cells (bufL [] N).toArray 5);have hB1 : ((w.drewN k0).alloc (.cells (bufL [] N).toArray 5)).heap[(w.drewN k0).heap.size]? = some (.cells (bufL [] N).toArray 5 (0,0)):=heap_alloc_new _ _;obtain ⟨w1,hw1⟩ : ∃ w1,(w.drewN k0).alloc (.cells (bufL [] N).toArray 5) = w1:=⟨_,rfl⟩;rw [hw1] at hrun hb1 hB1;have hszb : (w.drewN k0).heap.size = w.heap.size:=rfl;rw [hszb] at hrun hB1;have hrlt:=H.out.blk.lt;obtain ⟨b,hbb⟩ : ∃ b,w.heap.size = b:=⟨_,rfl⟩;rw [hbb] at hrun hB1 hb1 hrlt;have HBB:=hid hbb;have HB1:=hid hB1;clear hw1 hszb hbb hB1;go_wp2_with fail;clear hrun
   go_loopw [13,14,15] (fun j i _ wr => ∃ k,k ≤ s.length∧i = .int .i64 (k:Int)∧j = .int .i64 ((repl (s.take k)).length:Int)∧Hid (wr.heap[b]? = some (.cells (bufL (repl (s.take k)) (N - (repl (s.take k)).length)).toArray 5 (0,0)))∧Below b w wr) (fun _ i _ _ => s.length - (RowKit.intOf i).toNat)
   case atStart => exact ⟨0,Nat.zero_le _,rfl,rfl,HB1,hb1⟩
   case round =>
    clear hb1 HB1;obtain ⟨k,hk,rfl,rfl,HBK,hb⟩:=hrel;have hb' : Below w.heap.size w wr:=by rw [HBB.out]; exact hb
    by_cases hlt : k < s.length
    ·have hix:=run_idx s k hlt (k:Int) rfl;have hrp : repl (s.take (k + 1)) = repl (s.take k) ++ (if at0 s k = 123∨at0 s k = 125 then [at0 s k,at0 s k] else [at0 s k]):=by
      rw [List.take_add_one,← repl_snoc,at0_lt s k hlt,List.getElem?_eq_getElem hlt]; rfl
     have htk1:=HTK.out (k + 1);rw [HRL.out] at htk1;rcases byte3 (at0 s k) with h3 | h3 | ⟨h3,h4⟩
     ·obtain ⟨qx,cx,cs,fr,hxv,hxh,hx0,hx1⟩:=(H.out.belowS hb').xd (by decide);have gK : wr.cell? ⟨rb,125,none⟩ = some (.slice (some ⟨qx,0,none⟩) 2 cx):=(by rw [((H.out.belowS hb').blk.cell 125).trans (tabR_at 125 (by decide) _ _ _),← hxv]; rfl);have gK0 : Hid (w.cell? ⟨rb,125,none⟩ = some (.slice (some ⟨qx,0,none⟩) 2 cx)):=hid (by rw [(H.out.blk.cell 125).trans (tabR_at 125 (by decide) _ _ _),← hxv]; rfl);have hnn : (binOp .neq 71 (.slice (some ⟨qx,0,none⟩) 2 cx) (.slice none 0 0)).run Tryz.prog wr = .ok (.bool true) wr:=run_neq_slice_nil_any wr 71 5 _ 2 cx 0 0 Tryz.underlying71;have hsrc : ∀ j v,(bytc [125,125])[j]? = some v → wr.cell? (Addr.add ⟨qx,0,none⟩ j) = some v:=fun j v hv => by
       have h1:=cell_of_row wr qx j cs 5 fr hxh;rw [Addr.add_lit,Nat.zero_add,h1];rcases j with _ | _ | j
       ·rw [hx0]; exact hv
       ·rw [hx1]; exact hv
       ·simp [bytc] at hv
      have HSRC:=hid hsrc;rw [h3,if_pos (by decide)] at hrp;rw [h3] at hix;have hrpl : (repl (s.take (k + 1))).length = (repl (s.take k)).length + 2:=(by rw [hrp,List.length_append]; rfl);obtain ⟨m,hm⟩ : ∃ m,N - (repl (s.take k)).length = m + 2:=⟨N - (repl (s.take k)).length - 2,by omega⟩;have hm2 : N - (repl (s.take (k + 1))).length = m:=(by omega);have HRP:=hid hrp;have HM2:=hid hm2;have hjN : (repl (s.take k)).length + 2 ≤ N:=(by omega);obtain ⟨A,hA⟩ : ∃ A,repl (s.take k) = A:=⟨_,rfl⟩;have hmA : N - A.length = m + 2:=(by rw [← hA]; exact hm);rw [hA] at HRP hjN hrpl;rw [hA,hmA] at HBK;rw [hA];have HMA:=hid hmA;have HA:=hid hA;have hrbb : rb ≠ b:=(by omega);have G1 : ∀ (p : Held fun w' => w'.cell? ⟨rb,125,none⟩ = some (.slice (some ⟨qx,0,none⟩) 2 cx)),p.w.cell? ⟨rb,125,none⟩ = some (.slice (some ⟨qx,0,none⟩) 2 cx):=fun p => p.h;have hdr : wr.drew.cell? ⟨rb,125,none⟩ = some (.slice (some ⟨qx,0,none⟩) 2 cx):=gK;have HBD : Hid (wr.drew.heap[b]? = some (.cells (bufL A (m + 2)).toArray 5 (0,0))):=hid HBK.out;have HSRD : Hid (∀ j v,(bytc [125,125])[j]? = some v → wr.drew.cell? (Addr.add ⟨qx,0,none⟩ j) = some v):=hid HSRC.out;have hbd:=hb.drew;have hcut:=fun W => run_cutB b N A.length (by omega) W;have hmin : (bytc [125,125]).length = Nat.min 2 (N - A.length):=by
       show 2 = min 2 (N - A.length);omega
      have HMIN:=hid hmin;clear hmin;have hAl : (bufL A (m + 2)).length = A.length + (m + 2):=(by simp [bufL,bytc]);clear hxv hxh hx0 hx1 hsrc hrp hm hm2 hmA hA h3;go_wp2_with fail;refine wp_region_steady_tail 10 11 (by kernel_rfl) (by kernel_rfl) (fun w' => ∃ p : Held fun w' => w'.cell? ⟨rb,125,none⟩ = some (.slice (some ⟨qx,0,none⟩) 2 cx),w' = p.w) (isHeld_mk hdr) (fun c a d v w h => by cases d <;> exact h) ?_;simp only [List.take_succ_cons,List.take_zero,List.drop_succ_cons,List.drop_zero]
      repeat (refine wpSteady_step (fun K hK => ?_) --
              go_simp
              first
                | (refine ⟨_,fun _ => rfl,hK _ ?_⟩; clear hK K)
                | (refine hK _ ?_; clear hK K))
      refine wpSteady_nil ?_;refine tailM_one ?_;generalize wr.drew = wd at HBD HSRD hbd ⊢;clear G1 hdr gK hnn hcut;go_wp2_with (with_reducible refine wpList_copy_splice rfl (.tmp 105) (.tmp 111) 71 71 rfl 5 Tryz.underlying71 (by kernel_rfl) _ _ _ _ _ _ rfl rfl b A.length (bufL A (m + 2)) 5 HBD.out (bytc [125,125]) HMIN.out (fun _ => ⟨rfl,⟨⟨qx,0,none⟩,rfl,HSRD.out⟩⟩) (by rw [hAl]; simp [bytc]) (by simp [bytc,Value.oneCell']) b w hbd (Nat.le_refl _) ?_; intro w2 HG2 hb2);refine thenC_mk (isHeld_mk ((hb2.cell (p:=⟨rb,125,none⟩) hrlt).trans gK0.out)) ?_;refine tailM_zero ?_;have hbl2 : (bytc [125,125]).length = 2:=rfl;go_wp2_with fail;rw [bufL_splice] at HG2;go_roundw
      case rel => exact ⟨k + 1,by omega,by go_num,by rw [hrpl]; go_num,hid (by rw [HM2.out,HRP.out]; exact HG2.out),hb2⟩
      case measure => simp [RowKit.intOf]; omega
     ·obtain ⟨qx,cx,cs,fr,hxv,hxh,hx0,hx1⟩:=(H.out.belowS hb').yd (by decide);have gK : wr.cell? ⟨rb,123,none⟩ = some (.slice (some ⟨qx,0,none⟩) 2 cx):=(by rw [((H.out.belowS hb').blk.cell 123).trans (tabR_at 123 (by decide) _ _ _),← hxv]; rfl);have gK0 : Hid (w.cell? ⟨rb,123,none⟩ = some (.slice (some ⟨qx,0,none⟩) 2 cx)):=hid (by rw [(H.out.blk.cell 123).trans (tabR_at 123 (by decide) _ _ _),← hxv]; rfl);have hnn : (binOp .neq 71 (.slice (some ⟨qx,0,none⟩) 2 cx) (.slice none 0 0)).run Tryz.prog wr = .ok (.bool true) wr:=run_neq_slice_nil_any wr 71 5 _ 2 cx 0 0 Tryz.underlying71;have hsrc : ∀ j v,(bytc [123,123])[j]? = some v → wr.cell? (Addr.add ⟨qx,0,none⟩ j) = some v:=fun j v hv => by
       have h1:=cell_of_row wr qx j cs 5 fr hxh;rw [Addr.add_lit,Nat.zero_add,h1];rcases j with _ | _ | j
       ·rw [hx0]; exact hv
       ·rw [hx1]; exact hv
       ·simp [bytc] at hv
      have HSRC:=hid hsrc;rw [h3,if_pos (by decide)] at hrp;rw [h3] at hix;have hrpl : (repl (s.take (k + 1))).length = (repl (s.take k)).length + 2:=(by rw [hrp,List.length_append]; rfl);obtain ⟨m,hm⟩ : ∃ m,N - (repl (s.take k)).length = m + 2:=⟨N - (repl (s.take k)).length - 2,by omega⟩;have hm2 : N - (repl (s.take (k + 1))).length = m:=(by omega);have HRP:=hid hrp;have HM2:=hid hm2;have hjN : (repl (s.take k)).length + 2 ≤ N:=(by omega);obtain ⟨A,hA⟩ : ∃ A,repl (s.take k) = A:=⟨_,rfl⟩;have hmA : N - A.length = m + 2:=(by rw [← hA]; exact hm);rw [hA] at HRP hjN hrpl;rw [hA,hmA] at HBK;rw [hA];have HMA:=hid hmA;have HA:=hid hA;have hrbb : rb ≠ b:=(by omega);have G1 : ∀ (p : Held fun w' => w'.cell? ⟨rb,123,none⟩ = some (.slice (some ⟨qx,0,none⟩) 2 cx)),p.w.cell? ⟨rb,123,none⟩ = some (.slice (some ⟨qx,0,none⟩) 2 cx):=fun p => p.h;have hdr : wr.drew.cell? ⟨rb,123,none⟩ = some (.slice (some ⟨qx,0,none⟩) 2 cx):=gK;have HBD : Hid (wr.drew.heap[b]? = some (.cells (bufL A (m + 2)).toArray 5 (0,0))):=hid HBK.out;have HSRD : Hid (∀ j v,(bytc [123,123])[j]? = some v → wr.drew.cell? (Addr.add ⟨qx,0,none⟩ j) = some v):=hid HSRC.out;have hbd:=hb.drew;have hcut:=fun W => run_cutB b N A.length (by omega) W;have hmin : (bytc [123,123]).length = Nat.min 2 (N - A.length):=by
       show 2 = min 2 (N - A.length);omega
      have HMIN:=hid hmin;clear hmin;have hAl : (bufL A (m + 2)).length = A.length + (m + 2):=(by simp [bufL,bytc]);clear hxv hxh hx0 hx1 hsrc hrp hm hm2 hmA hA h3;go_wp2_with fail;refine wp_region_steady_tail 10 11 (by kernel_rfl) (by kernel_rfl) (fun w' => ∃ p : Held fun w' => w'.cell? ⟨rb,123,none⟩ = some (.slice (some ⟨qx,0,none⟩) 2 cx),w' = p.w) (isHeld_mk hdr) (fun c a d v w h => by cases d <;> exact h) ?_;simp only [List.take_succ_cons,List.take_zero,List.drop_succ_cons,List.drop_zero]
      repeat (refine wpSteady_step (fun K hK => ?_) --
              go_simp
              first
                | (refine ⟨_,fun _ => rfl,hK _ ?_⟩; clear hK K)
                | (refine hK _ ?_; clear hK K))
      refine wpSteady_nil ?_;refine tailM_one ?_;generalize wr.drew = wd at HBD HSRD hbd ⊢;clear G1 hdr gK hnn hcut;go_wp2_with (with_reducible refine wpList_copy_splice rfl (.tmp 105) (.tmp 111) 71 71 rfl 5 Tryz.underlying71 (by kernel_rfl) _ _ _ _ _ _ rfl rfl b A.length (bufL A (m + 2)) 5 HBD.out (bytc [123,123]) HMIN.out (fun _ => ⟨rfl,⟨⟨qx,0,none⟩,rfl,HSRD.out⟩⟩) (by rw [hAl]; simp [bytc]) (by simp [bytc,Value.oneCell']) b w hbd (Nat.le_refl _) ?_; intro w2 HG2 hb2);refine thenC_mk (isHeld_mk ((hb2.cell (p:=⟨rb,123,none⟩) hrlt).trans gK0.out)) ?_;refine tailM_zero ?_;have hbl2 : (bytc [123,123]).length = 2:=rfl;go_wp2_with fail;rw [bufL_splice] at HG2;go_roundw
      case rel => exact ⟨k + 1,by omega,by go_num,by rw [hrpl]; go_num,hid (by rw [HM2.out,HRP.out]; exact HG2.out),hb2⟩
      case measure => simp [RowKit.intOf]; omega
     ·have hfx : fT x y (at0 s k).toNat = .slice none 0 0:=by
       unfold fT;have e1 : (at0 s k).toNat ≠ 125:=fun e => h3 (UInt8.toNat_inj.1 e);have e2 : (at0 s k).toNat ≠ 123:=fun e => h4 (UInt8.toNat_inj.1 e);rw [if_neg e1,if_neg e2]
      have hm : (at0 s k).toNat < 256:=UInt8.toNat_lt _;have gK : wr.cell? ⟨rb,(at0 s k).toNat,none⟩ = some (.slice none 0 0):=(by rw [((H.out.belowS hb').blk.cell _).trans (tabR_at _ hm _ _ _),hfx]);have hnn : (binOp .neq 71 (.slice none 0 0) (.slice none 0 0)).run Tryz.prog wr = .ok (.bool false) wr:=run_neq_slice_nil_any wr 71 5 none 0 0 0 0 Tryz.underlying71;rw [if_neg (by rintro (e | e); exact h4 e; exact h3 e)] at hrp;have hrpl : (repl (s.take (k + 1))).length = (repl (s.take k)).length + 1:=(by rw [hrp,List.length_append]; rfl);obtain ⟨m,hm1⟩ : ∃ m,N - (repl (s.take k)).length = m + 1:=⟨N - (repl (s.take k)).length - 1,by omega⟩;have hm2 : N - (repl (s.take (k + 1))).length = m:=(by omega);have HRP:=hid hrp;have HM2:=hid hm2;have hjN : (repl (s.take k)).length + 1 ≤ N:=(by omega);obtain ⟨A,hA⟩ : ∃ A,repl (s.take k) = A:=⟨_,rfl⟩;rw [hA] at HRP hjN hrpl hm1;rw [hA,hm1] at HBK;rw [hA];have hBB : Blk wr b 5 (bufL A (m + 1)).toArray:=HBK.out;obtain ⟨q1,q2,q3⟩:=hBB.rules;have hcb : wr.cell? ⟨b,A.length,none⟩ = some (.int .u8 0):=by
       rw [q1];unfold bufL;rw [List.getElem?_toArray,List.getElem?_append_right (by simp [bytc])];simp [bytc,List.replicate_succ]
      have hset:=hBB.set_ A.length (.int .u8 ((at0 s k).toNat:Int));rw [bufL_set] at hset;have HSET:=hid hset;clear q1 hset hBB hm1 hm2 hrp hfx h3 h4 hA;obtain ⟨cb,hcbe⟩ : ∃ cb,at0 s k = cb:=⟨_,rfl⟩;rw [hcbe] at hix gK HSET HRP hm;clear hcbe;go_wp2_with fail;go_roundw
      case rel => exact ⟨k + 1,by omega,by go_num,by rw [hrpl]; go_num,hid (by rw [HM2.out,HRP.out]; exact HSET.out),hb.setCell (p:=⟨b,A.length,none⟩) (Nat.le_refl _) _⟩
      case measure => simp [RowKit.intOf]; omega
    ·have hks : s.take k = s:=List.take_of_length_le (by omega);rw [hks,HRL.out,Nat.sub_self] at HBK;have hB0 : bufL (repl s) 0 = bytc (repl s):=(by simp [bufL]);rw [hB0] at HBK;have hbl : (bytc (repl s)).length = N:=(by rw [← HRL.out]; simp [bytc]);have hown : wr.ownsRow b 5 1 (.slice (some ⟨b,0,none⟩) N N) (repl s).length (bytc (repl s)) :=
      ⟨by rw [hbl,HRL.out]; omega,.inr ⟨b,N,(bytc (repl s)).toArray,by rw [HRL.out],Nat.le_refl _,HBK.out,by rw [HRL.out]; exact Nat.le_refl _,by unfold maxLen; omega,by simp [hbl],by rw [HRL.out,Nat.mul_one]; simp [← hbl]⟩⟩
     have hcv:=str_of_own hown;clear hB0 hbl hks hown;go_wp2_with fail;go_ret;exact ⟨rfl,hb'⟩
end
section
open Go.RowKit Go.Lib
theorem replace_any {w : World} {r q c : Nat} (hR : Blk w r 156 #[.int .u32 0,.int .i32 0,.int .u32 0,.nilIface,.slice (some ⟨q,0,none⟩) 4 c])
  (c0 : w.cell? ⟨q,0,none⟩ = some (strV [123])) (c1 : w.cell? ⟨q,1,none⟩ = some (strV [123,123])) (c2 : w.cell? ⟨q,2,none⟩ = some (strV [125])) (c3 : w.cell? ⟨q,3,none⟩ = some (strV [125,125])) (hqs : q < w.heap.size)
  (s : List UInt8) (hl : s.length ≤ 1099511627776) :
  Calls Tryz.prog 64 #[.pointer (some ⟨r,0,none⟩),.string ⟨s.toArray⟩] w fun e w' => e = .returned (.string ⟨(repl s).toArray⟩)∧∀ B W,B ≤ r → Below B W w → Below B W w':=by
 have hqr : q ≠ r:=by
  rintro rfl;rw [hR.cell 0] at c0;unfold strV at c0;simp at c0
 have hR1 : Blk (w.setCell ⟨r,1,none⟩ (.int .i32 1)) r 156 #[.int .u32 0,.int .i32 1,.int .u32 0,.nilIface,.slice (some ⟨q,0,none⟩) 4 c]:=hR.set_ 1 _;have hk : ∀ j,(w.setCell ⟨r,1,none⟩ (.int .i32 1)).cell? ⟨q,j,none⟩ = w.cell? ⟨q,j,none⟩:=fun j => cell_same (Below.heap_setCell w ⟨r,1,none⟩ (.int .i32 1) q hqr) j;have hbo:=bonce_any hR1 ((hk 0).trans c0) ((hk 1).trans c1) ((hk 2).trans c2) ((hk 3).trans c3) (by simpa [World.setCell] using hqs)
 have hdo := do_any (w := w) (b := r) (R := fun w' => ∃ rb x y v, Blk w' r 156 #[.int .u32 0, .int .i32 1, .int .u32 0, .iface 225 (.pointer (some ⟨rb, 0, none⟩)), .slice none 0 0] ∧ RB (w.setCell ⟨r, 1, none⟩ (.int .i32 1)).heap.size rb 2 w' x y v ∧ --
     ∀ B W,B ≤ r → Below B W (w.setCell ⟨r,1,none⟩ (.int .i32 1)) → Below B W w') (hR.cell 0) (hR.cell 1) (hR.frozen 1) hbo (by
   rintro w2 ⟨rb,x,y,v,h1,h2,h3⟩
   exact ⟨h1.cell 0,h1.cell 1,h1.frozen 0,h1.frozen 1⟩)
 have HDO:=hid hdo;have hlt:=hR.lt;obtain ⟨q1,q2,q3⟩:=hR.rules;clear hdo hbo hk hR1 c0 c1 c2 c3;go_enter Tryz.func64,Tryz.ntmps64;go_wp2_with fail;refine HDO.out.mono ?_;rintro e w1 ⟨rfl,w2,⟨rb,x,y,v,h1,h2,h3⟩,rfl⟩;have h1d:=h1.drew;have hA : Blk (w2.drew.setCell ⟨r,0,none⟩ (.int .u32 1)) r 156 #[.int .u32 1,.int .i32 1,.int .u32 0,.iface 225 (.pointer (some ⟨rb,0,none⟩)),.slice none 0 0]:=h1d.set_ 0 _;have hA2 : Blk ((w2.drew.setCell ⟨r,0,none⟩ (.int .u32 1)).setCell ⟨r,1,none⟩ (.int .i32 0)) r 156 #[.int .u32 1,.int .i32 0,.int .u32 0,.iface 225 (.pointer (some ⟨rb,0,none⟩)),.slice none 0 0]:=hA.set_ 1 _;have hRB:=(h2.drew.far h1d (by decide) (by decide) (by decide) 0 (.int .u32 1)).far hA (by decide) (by decide) (by decide) 1 (.int .i32 0);have hbel : ∀ B W,B ≤ r → Below B W w → Below B W ((w2.drew.setCell ⟨r,0,none⟩ (.int .u32 1)).setCell ⟨r,1,none⟩ (.int .i32 0)):=fun B W hB hb =>
  ((h3 B W hB (hb.setCell (p:=⟨r,1,none⟩) hB _)).drew.setCell (p:=⟨r,0,none⟩) hB _).setCell (p:=⟨r,1,none⟩) hB _
 generalize (w2.drew.setCell ⟨r,0,none⟩ (.int .u32 1)).setCell ⟨r,1,none⟩ (.int .i32 0) = w3 at hA2 hRB hbel ⊢;have HBEL:=hid hbel;clear HDO h1 h2 h3 h1d hA q1 q2 q3 hbel;have hlt3:=hA2.lt;obtain ⟨q1,q2,q3⟩:=hA2.rules;go_wp2_with fail;refine (bsrep_any hRB s hl).mono ?_;rintro e w4 ⟨rfl,hb4⟩;go_wp2_with fail;go_ret;exact ⟨rfl,fun B W hB hb => below_then (HBEL.out B W hB hb) hb4 (by omega)⟩
end
end Go.Proofs.YtonehlkiackhcaaGreatDoor