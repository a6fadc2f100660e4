/- The literals: the reference's literal of a constant: the faults, and what is shown of one kind after the other. Nothing is claimed here. -/
import Derived.Test.YtonehlkiackhcaaGreatDoorLitSx
import Derived.Test.YtonehlkiackhcaaGreatDoorLitVc
import Derived.Test.YtonehlkiackhcaaGreatDoorLitVd
import Derived.Test.YtonehlkiackhcaaGreatDoorLitVe
set_option linter.unusedVariables false
set_option linter.unusedSimpArgs false
set_option maxRecDepth 100000
set_option maxHeartbeats 16000000
namespace Go.Proofs.YtonehlkiackhcaaGreatDoor
section
open Go.RowKit Go.Lib Go.Sort
theorem shownV_len (Q : UInt8) (r:Nat) (h : Bool) : (shownV Q r h).length ≤ 4:=by
 have hl:=runeB_len r;unfold shownV;split
 ·decide
 ·split
  ·decide
  ·split
   ·rename_i h1;rcases h1 with rfl | h1
    ·decide
    ·rw [h1]; simp
   ·split
    ·exact Nat.le_refl 4
    ·omega
def textV (Q : UInt8) (rs : List Nat) : List UInt8:=Q :: rs.flatMap (fun r => shownV Q r (ctlB r)) ++ [Q]
theorem textShown_any (Q : UInt8) (l : List UInt8) (w : World) (hl : l.length ≤ 1048576) :
  Calls Tryz.prog 34 #[.string ⟨l.toArray⟩,.string ⟨#[Q]⟩] w fun e w' => e = .returned (.string ⟨(textV Q (runesL l)).toArray⟩)∧Below w.heap.size w w':=by
 obtain ⟨E,hE⟩ : ∃ E,Q :: (runesL l).flatMap (fun r => shownV Q r (ctlB r)) = E:=⟨_,rfl⟩;have HF : Hid (textV Q (runesL l) = E ++ [Q]):=hid (by unfold textV; rw [hE]);have HE0 : Hid ([Q] ++ (runesF l.length (l.drop 0)).flatMap (fun r => shownV Q r (ctlB r)) = E):=hid (by rw [List.drop_zero]; exact hE);clear hE;go_enter Tryz.func34,Tryz.ntmps34;go_wp2_with fail
 go_loopw [5,7] (fun s5 _ wr => ∃ (pos f:Nat) (t : List UInt8),wr.heap[w.heap.size]? = some (.stringIter ⟨l.toArray⟩ pos)∧Below w.heap.size w wr∧l.length ≤ pos + f∧pos ≤ l.length∧s5 = .string ⟨t.toArray⟩∧Hid (t ++ (runesF f (l.drop pos)).flatMap (fun r => shownV Q r (ctlB r)) = E)∧t.length ≤ 1 + 4 * pos) (fun _ _ wr => l.length - wr.iterPos w.heap.size)
 case atStart => exact ⟨0,l.length,[Q],World.iter_heap w ⟨l.toArray⟩ 0,(Below.refl _ w).alloc (Nat.le_refl _) _,by omega,Nat.zero_le _,rfl,HE0,by simp⟩
 case round =>
  obtain ⟨pos,f,t,hit,hb,hf,hpl,rfl,HE,htl⟩:=hrel
  by_cases hp : pos < l.length
  ·have hne : l.drop pos ≠ []:=(by intro e; have:=congrArg List.length e; rw [List.length_drop,List.length_nil] at this; omega);obtain ⟨r,n,hd⟩ : ∃ r n,decodeL (l.drop pos) = (r,n):=⟨_,_,rfl⟩;have hnx : ∀ ty,(Instr.next (.pointer (some ⟨w.heap.size,0,none⟩)) true ty).run Tryz.prog wr = _:=fun ty => run_next_any_at wr w.heap.size ⟨l.toArray⟩ pos ty hit hp;rw [decode_drop,hd] at hnx;have hw1:=width_pos _ hne;have hw2:=decodeL_width_le _ hne;have hrl:=decodeL_lt (l.drop pos);rw [hd] at hw1 hw2 hrl;rw [List.length_drop] at hw2;dsimp only at hw1 hw2 hrl;obtain ⟨f',rfl⟩ : ∃ f',f = f' + 1:=⟨f - 1,by omega⟩;have hE1 : (t ++ shownV Q r (ctlB r)) ++ (runesF f' (l.drop (pos + n))).flatMap (fun r => shownV Q r (ctlB r)) = E:=by
    rw [← HE.out,runesF,if_neg hne,hd,List.flatMap_cons,List.drop_drop,List.append_assoc]
   have hsl:=shownV_len Q r (ctlB r);obtain ⟨V,hV⟩ : ∃ V,shownV Q r (ctlB r) = V:=⟨_,rfl⟩;rw [hV] at hE1 hsl;have hadd : ∀ W : World,(Op.stringOp .add ⟨t.toArray⟩ ⟨V.toArray⟩).run Tryz.prog W = .ok (.string ⟨(t ++ V).toArray⟩) W:=fun W => run_string_add_lists W t V (by omega) (by omega);obtain ⟨T,hT⟩ : ∃ T,t ++ V = T:=⟨_,rfl⟩;have hTl : T.length ≤ 1 + 4 * (pos + n):=(by rw [← hT,List.length_append]; omega);rw [hT] at hadd hE1;have HE2:=hid hE1;have HV:=hid hV;have HI:=hid hit;have hpn : pos + n ≤ l.length:=(by omega);clear hE1 hT hV hd hit HE
   go_upto_region 4 with fail
   obtain ⟨W1,hW1⟩ : ∃ W1,wr.iterAt w.heap.size ⟨l.toArray⟩ (pos + n) = W1:=⟨_,rfl⟩;have hb1 : Below w.heap.size w W1:=(by rw [← hW1]; exact below_iterAt hb (Nat.le_refl _) _ _);have hit1 : W1.heap[w.heap.size]? = some (.stringIter ⟨l.toArray⟩ (pos + n)):=(by rw [← hW1]; exact iterAt_heap _ _ _ _ _ HI.out);rw [hW1];have HI1:=hid hit1;clear hW1 hnx hit1 hb
   by_cases h32 : r < 32
   ·have HSV : Hid (shownV Q r true = V):=hid (by rw [← HV.out,show ctlB r = true from by unfold ctlB; rw [decide_eq_true h32]; rfl]);have d1 : decide ((r:Int) < 32) = true:=decide_eq_true (by omega);go_wp2_with fail;refine (shown_any Q r true _ hrl (fun _ => (by omega))).mono ?_;rintro e w4 ⟨rfl,nn,rfl⟩;rw [HSV.out];go_wp2_with fail;have hit4 : (W1.drewN nn).heap[w.heap.size]? = some (.stringIter ⟨l.toArray⟩ (pos + n)):=HI1.out;go_roundw
    case rel => exact ⟨pos + n,f',T,hit4,below_drewN hb1 _,by omega,hpn,rfl,HE2,hTl⟩
    case measure =>
     unfold World.iterPos;rw [hit4,HI.out];simp only;omega
   ·have d1 : decide ((r:Int) < 32) = false:=decide_eq_false (by omega)
    by_cases h127 : 127 ≤ r
    ·have d2 : decide ((127:Int) ≤ (r:Int)) = true:=decide_eq_true (by omega)
     by_cases h160 : r < 160
     ·have HSV : Hid (shownV Q r true = V):=hid (by rw [← HV.out,show ctlB r = true from by unfold ctlB; rw [decide_eq_true h127,decide_eq_true h160,decide_eq_false h32]; rfl]);have d3 : decide ((r:Int) < 160) = true:=decide_eq_true (by omega);go_wp2_with fail;refine (shown_any Q r true _ hrl (fun _ => (by omega))).mono ?_;rintro e w4 ⟨rfl,nn,rfl⟩;rw [HSV.out];go_wp2_with fail;have hit4 : (W1.drewN nn).heap[w.heap.size]? = some (.stringIter ⟨l.toArray⟩ (pos + n)):=HI1.out;go_roundw
      case rel => exact ⟨pos + n,f',T,hit4,below_drewN hb1 _,by omega,hpn,rfl,HE2,hTl⟩
      case measure =>
       unfold World.iterPos;rw [hit4,HI.out];simp only;omega
     ·have HSV : Hid (shownV Q r false = V):=hid (by rw [← HV.out,show ctlB r = false from by unfold ctlB; rw [decide_eq_false h32,decide_eq_false h160,Bool.and_false]; rfl]);have d3 : decide ((r:Int) < 160) = false:=decide_eq_false (by omega);go_wp2_with fail;refine (shown_any Q r false _ hrl (fun h => (by cases h))).mono ?_;rintro e w4 ⟨rfl,nn,rfl⟩;rw [HSV.out];go_wp2_with fail;have hit4 : (W1.drewN nn).heap[w.heap.size]? = some (.stringIter ⟨l.toArray⟩ (pos + n)):=HI1.out;go_roundw
      case rel => exact ⟨pos + n,f',T,hit4,below_drewN hb1 _,by omega,hpn,rfl,HE2,hTl⟩
      case measure =>
       unfold World.iterPos;rw [hit4,HI.out];simp only;omega
    ·have d2 : decide ((127:Int) ≤ (r:Int)) = false:=decide_eq_false (by omega);have HSV : Hid (shownV Q r false = V):=hid (by rw [← HV.out,show ctlB r = false from by unfold ctlB; rw [decide_eq_false h32,decide_eq_false h127]; rfl]);go_wp2_with fail;refine (shown_any Q r false _ hrl (fun h => (by cases h))).mono ?_;rintro e w4 ⟨rfl,nn,rfl⟩;rw [HSV.out];go_wp2_with fail;have hit4 : (W1.drewN nn).heap[w.heap.size]? = some (.stringIter ⟨l.toArray⟩ (pos + n)):=HI1.out;go_roundw
     case rel => exact ⟨pos + n,f',T,hit4,below_drewN hb1 _,by omega,hpn,rfl,HE2,hTl⟩
     case measure =>
      unfold World.iterPos;rw [hit4,HI.out];simp only;omega
  ·have hnx : ∀ ty,(Instr.next (.pointer (some ⟨w.heap.size,0,none⟩)) true ty).run Tryz.prog wr = _:=fun ty => run_next_end_at wr w.heap.size ⟨l.toArray⟩ pos ty hit hp;obtain rfl : pos = l.length:=(by omega);have hEt : E = t:=by
    rw [← HE.out,List.drop_length];cases f <;> simp [runesF]
   have HET:=hid hEt;have hadd : ∀ W : World,(Op.stringOp .add ⟨t.toArray⟩ ⟨#[Q]⟩).run Tryz.prog W = .ok (.string ⟨(t ++ [Q]).toArray⟩) W:=fun W => run_string_add_lists W t [Q] (by omega) (by simp);clear hEt HE hit;go_wp2_with fail;go_ret;exact ⟨by rw [HF.out,HET.out]; rfl,hb⟩
end
section
open Go.RowKit Go.Lib Go.Sort
structure PoC (w : World) (x : Sht) (sb B:Nat) (wr : World) (out : List Prt) (v : Value) : Prop where
 hs : w.heap.size < sb
 hB : sb < B
 f : Blk wr w.heap.size 29 #[.int .i64 0,.int .i64 0]
 sh : Blk wr sb 85 (shtC x)
 own : wr.ownsRow B 91 4 v out.length (out.flatMap prtc)
 bel : Below w.heap.size w wr
 hBw : B ≤ wr.heap.size
section
variable {w wr wr' : World} {x : Sht} {sb B : Nat} {out out' : List Prt} {v v' : Value}
theorem PoC.belowS (h : PoC w x sb B wr out v) (hb : Below wr.heap.size wr wr') : PoC w x sb B wr' out v :=
 ⟨h.hs,h.hB,h.f.belowS hb,h.sh.belowS hb,own_below h.own hb,below_then h.bel hb h.bel.size,Nat.le_trans h.hBw hb.size⟩
theorem PoC.grow (h : PoC w x sb B wr out v) (hg : wr.grownBy wr' v.ownBlock) (ho : wr'.ownsRow B 91 4 v' out'.length (out'.flatMap prtc)) : PoC w x sb B wr' out' v':=by
 have hne : ∀ k,k < B → some k ≠ v.ownBlock:=fun k hk e => by have:=(h.own.lt k e.symm).1; omega
 have h1:=h.hs;have h2:=h.hB;exact ⟨h.hs,h.hB,h.f.grown hg (hne _ (by omega)),h.sh.grown hg (hne _ h2),ho,h.bel.grown hg h.bel.size (fun k e => by have:=(h.own.lt k e).1; omega),Nat.le_trans h.hBw hg.size⟩
end
end
section
open Go.RowKit Go.Lib Go.Sort
def PsRel (ps : List Prt) (w : World) (s i : Value) (wr : World) : Prop :=
 ∃ k : Nat,k ≤ ps.length∧i = .int .i64 (k:Int)∧s = .string ⟨(joinT ps k).toArray⟩∧Blk wr w.heap.size 29 #[.int .i64 0,.int .i64 0]∧Below w.heap.size w wr
theorem V_dig10 (l : List Nat) (hl : l.length ≤ 128) (h : ∀ x ∈ l,x < 4294967296) : (dig 10 (V 4294967296 l)).length ≤ 1280:=by
 have h0:=dig_len (B:=10) (by decide) (10 * l.length) (V 4294967296 l) ?_
 ·omega
 have h1:=V_lt (B:=4294967296) (by decide) l h;have h2 : 4294967296 ^ l.length ≤ (10 ^ 10) ^ l.length:=Nat.pow_le_pow_left (by decide) _;rw [← Nat.pow_mul] at h2;exact Nat.lt_of_lt_of_le h1 h2
theorem V_cons (B x:Nat) (l : List Nat) : V B (x :: l) = x + B * V B l:=rfl
theorem and_65535 (x:Nat) (h : x < 4294967296) : bits .and .u32 (x:Int) 65535 = ((x % 65536:Nat):Int):=by
 have h1:=bits_mask .u32 32 (by decide) (fun n h0 h1 => by rw [IntKind.wrap_u32]; omega) 16 (by decide) (x:Int) (by omega) (by omega);have e : ((2:Int) ^ 16 - 1) = 65535:=by decide
 have e2 : ((2:Int) ^ 16) = 65536:=by decide
 rw [e,e2] at h1;rw [h1];omega
theorem limb_gen {B N x M hi lo N1 : Nat} (h : M = x + B * B * N) (h1 : x / B = hi) (h2 : x % B = lo) (h3 : N * B + hi = N1) : N1 * B + lo = M:=by
 subst h3 h;have hx:=Nat.div_add_mod x B;rw [h1,h2] at hx;rw [← hx,Nat.add_mul,Nat.mul_comm N B,Nat.mul_assoc B N B,Nat.mul_comm N B,Nat.mul_assoc B B N,Nat.mul_comm hi B,Nat.add_assoc,Nat.add_comm]
theorem limb_split {N x M hi lo N1 : Nat} (h : M = x + 4294967296 * N) (h1 : x / 65536 = hi) (h2 : x % 65536 = lo) (h3 : N * 65536 + hi = N1) : N1 * 65536 + lo = M :=
 limb_gen (by rw [show (65536 * 65536:Nat) = 4294967296 from rfl]; exact h) h1 h2 h3
def Dg (w : World) (v : Value) (n:Nat) : Prop:=∃ A c,v = .slice A (dig 10 n).length c∧(dig 10 n).length ≤ c∧Row w A (i64s (dig 10 n))
theorem ofl_any {w : World} (l : List Nat) (A : Option Addr) (c:Nat) (hl : l.length ≤ 128) (h32 : ∀ x ∈ l,x < 4294967296) (hr : Row w A (u32s l)) :
  Calls Tryz.prog 31 #[.slice A l.length c] w fun e w' => (∃ v,e = .returned v∧Dg w' v (V 4294967296 l))∧Below w.heap.size w w':=by
 have HLT:=hid h32;clear h32;go_enter Tryz.func31,Tryz.ntmps31;go_wp2_with fail
 go_loopw [3,4] (fun v i wr => ∃ k : Nat,k ≤ l.length∧i = .int .i64 ((k:Int) - 1)∧Dg wr v (V 4294967296 (l.drop k))∧Below w.heap.size w wr) (fun _ i _ => (RowKit.intOf i + 1).toNat)
 case atStart => exact ⟨l.length,Nat.le_refl _,by go_num,⟨none,0,by rw [List.drop_length]; simp [V,dig_zero],by rw [List.drop_length]; simp [V,dig_zero],by rw [List.drop_length]; left; simp [V,dig_zero,i64s]⟩,Below.refl _ _⟩
 case round =>
  obtain ⟨k,hk,rfl,⟨A1,c1,rfl,hcap,hrow⟩,hb⟩:=hrel
  by_cases hlt : 0 < k
  ·obtain ⟨j,rfl⟩ : ∃ j,k = j + 1:=⟨k - 1,by omega⟩;rw [show (((j + 1:Nat):Int) - 1) = (j:Int) from by omega];obtain ⟨b0,off,rfl,hcell⟩:=row_u32 (hr.keepB hb) (show j < l.length from hk);obtain ⟨x,hx⟩ : ∃ x,l[j] = x:=⟨_,rfl⟩;have hx32 : x < 4294967296:=hx ▸ HLT.out _ (List.getElem_mem hk);obtain ⟨M,hM⟩ : ∃ M,V 4294967296 (l.drop j) = M:=⟨_,rfl⟩;obtain ⟨N,hN⟩ : ∃ N,V 4294967296 (l.drop (j + 1)) = N:=⟨_,rfl⟩;obtain ⟨lo,hlo⟩ : ∃ lo,x % 65536 = lo:=⟨_,rfl⟩;obtain ⟨hi,hhi⟩ : ∃ hi,x / 65536 = hi:=⟨_,rfl⟩;obtain ⟨N1,hN1⟩ : ∃ N1,N * 65536 + hi = N1:=⟨_,rfl⟩;have hMe : M = x + 4294967296 * N:=(by rw [← hM,List.drop_eq_getElem_cons hk,hx,V_cons,hN]);rw [hx] at hcell;have hdl:=V_dig10 (l.drop (j + 1)) (by rw [List.length_drop]; omega) (fun x hx => HLT.out x (List.mem_of_mem_drop hx));have hdj:=V_dig10 (l.drop j) (by rw [List.length_drop]; omega) (fun x hx => HLT.out x (List.mem_of_mem_drop hx));rw [hM] at hdj;rw [hN] at hdl hcap hrow ⊢;have HM:=hid hM;clear hM hN hx;have hv : N1 * 65536 + lo = M:=limb_split hMe hhi hlo hN1;have g1 : ((x:Int) / 65536) = (hi:Int):=(by omega);have g2 : IntKind.i64.wrap (hi:Int) = (hi:Int):=IntWalk.i64_in _ (by omega);have g3 : bits .and .u32 (x:Int) 65535 = (lo:Int):=by
    rw [and_65535 x hx32,hlo]
   have g4 : IntKind.i64.wrap (lo:Int) = (lo:Int):=IntWalk.i64_in _ (by omega);have hdm:=dig10_mono (show N1 ≤ M from by omega);have AF1:=fun W (h : Row W A1 (i64s (dig 10 N))) => affine_any (w:=W) N 65536 hi A1 c1 (by omega) (by omega) (by omega) h;have AF2:=fun W A2 c2 (h : Row W A2 (i64s (dig 10 N1))) => affine_any (w:=W) N1 65536 lo A2 c2 (by omega) (by omega) (by omega) h;rw [hN1] at AF1;simp only [show ((65536:Nat):Int) = 65536 from rfl] at AF1 AF2;rw [hv] at AF2;obtain ⟨D,hD⟩ : ∃ D,dig 10 N = D:=⟨_,rfl⟩;rw [hD] at AF1 hcap hrow hdl ⊢;have hblt : b0 < wr.heap.size:=World.block_lt_of_cell? wr _ hcell;have k0 : (0:Int) ≤ (j:Int):=(by omega);have k1 : (j:Int) < (l.length:Int):=(by omega);have k2 : (j:Int) ≤ (l.length:Int):=(by omega);clear hD hdm hdj hv hN1 hMe hhi hlo;go_wp2_with fail
   go_region_held3 (fun w' => w'.cell? ⟨b0,off + j,none⟩ = some (.int .u32 x)) (first | go_keep | exact Sk3 | exact Sk) (first | (go_at_call 50; first | (refine (AF2 _ _ _ hr2).mono ?_; rintro e w3 ⟨⟨A3,c3,rfl,hc3,hr3⟩,ba3⟩; have Sk3 : w3.cell? ⟨b0,off + j,none⟩ = some (.int .u32 x):=((ba3.cell (p:=⟨b0,off + j,none⟩) hblt2).trans Sk)) | (refine (AF1 _ (hrow.keepB (below_drewN (Below.refl _ _) 1))).mono ?_; rintro e w2 ⟨⟨A2,c2,rfl,hc2,hr2⟩,ba2⟩; have Sk : w2.cell? ⟨b0,off + j,none⟩ = some (.int .u32 x):=((ba2.cell (p:=⟨b0,off + j,none⟩) (by simpa using hblt)).trans (by simpa using hcell)); have hblt2 : b0 < w2.heap.size:=Nat.lt_of_lt_of_le (by simpa using hblt) ba2.size)) | fail)
   have hb2:=below_then (below_drewN hb 1) ba2 (below_drewN hb 1).size;have hb3:=below_then hb2 ba3 hb2.size;have g5 : IntKind.i64.wrap ((j:Int) - 1) = (j:Int) - 1:=IntWalk.i64_in _ (by omega);clear ba2 ba3 Sk hr2 hc2 hb2 AF1 AF2 g1 g2 g3 g4;go_wp2_with fail;go_roundw
   case rel => exact ⟨j,by omega,rfl,⟨A3,c3,by rw [HM.out],by rw [HM.out]; exact hc3,by rw [HM.out]; exact hr3⟩,hb3⟩
   case measure => simp [RowKit.intOf]
  ·obtain rfl : k = 0:=(by omega);go_wp2_with fail;go_ret;exact ⟨⟨_,rfl,A1,c1,rfl,hcap,hrow⟩,hb⟩
theorem cf_bad (k:Nat) (hk : k ≤ 5) (n1 n2 : Bool) (ln ld : List Nat) (t : List UInt8) (r:Int) (h : (cfR t (validV k n1 n2 ln ld t r)).1 ≠ 0) : PrR k n1 n2 ln ld t r ([],(cfR t (validV k n1 n2 ln ld t r)).1,(cfR t (validV k n1 n2 ln ld t r)).2):=by
 unfold PrR;rw [if_neg (by omega),Int.toNat_natCast];cases hv : validV k n1 n2 ln ld t r
 ·rw [if_pos rfl];rfl
 ·rw [if_neg (by decide)];rw [hv] at h;unfold cfR at h ⊢;rw [if_pos rfl] at h ⊢
  by_cases h4 : 4000 < t.length
  ·rw [if_pos h4] at h ⊢;have hkk : k = 4∨k = 5:=by
    simp [validV] at hv;rcases hv.1.1.2 with h5 | h5
    ·exact h5
    ·rw [h5] at h4;simp at h4
   rcases hkk with rfl | rfl
   ·rw [if_neg (by decide),if_neg (by decide),if_neg (by decide),if_neg (by decide),if_pos (show ((4:Nat):Int) = 4 from rfl)];unfold pr4;rw [if_pos h4]
   ·rw [if_neg (by decide),if_neg (by decide),if_neg (by decide),if_neg (by decide),if_neg (by decide)];unfold pr5;rw [if_pos h4]
  ·rw [if_neg h4] at h;exact absurd rfl h
theorem cf_ok (k:Nat) (n1 n2 : Bool) (ln ld : List Nat) (t : List UInt8) (r:Int) (h : (cfR t (validV k n1 n2 ln ld t r)).1 = 0) : validV k n1 n2 ln ld t r = true∧t.length ≤ 4000:=by
 cases hv : validV k n1 n2 ln ld t r
 ·rw [hv] at h;simp [cfR] at h
 ·rw [hv] at h;unfold cfR at h;rw [if_pos rfl] at h
  by_cases h4 : 4000 < t.length
  ·rw [if_pos h4] at h;exact absurd h (by decide)
  ·exact ⟨rfl,by omega⟩
theorem cfaultx_any {w : World} (k:Int) (hk : k < 0∨5 < k) (n1 n2 : Bool) (N D : Value) (t : List UInt8) (r:Int) :
  Calls Tryz.prog 30 #[.agg (valD k n1 N n2 D t r)] w fun e w' => e = .returned (flt 13 (-1))∧Below w.heap.size w w':=by
 have hC:=FiC.new w (valD k n1 N n2 D t r);obtain ⟨v1,v2,v3⟩:=hC.v.rules;unfold valD at *
 go_enter Tryz.func30,Tryz.ntmps30;rcases hk with hk | hk
 ·have d1 : decide (k < 0) = true:=decide_eq_true hk;go_wp2_with fail;refine (atR_any 13 (-1) _).mono ?_;rintro e w9 ⟨rfl,hbb⟩;unfold flt;have hC9:=hC.step hbb;obtain ⟨p1,p2,p3⟩:=hC9.p.rules;go_wp2_with fail;exact ret_blk rfl rfl ((hC9.p.set_ 0 (.int .i64 13)).set_ 1 (.int .i64 (-1))) _ Tryz.underlying29 rfl (by kernel_rfl) rfl ⟨rfl,(hC9.bel.setCell (p:=⟨w.heap.size + 1,0,none⟩) (Nat.le_succ _) _).setCell (p:=⟨w.heap.size + 1,1,none⟩) (Nat.le_succ _) _⟩
 ·have d1 : decide (k < 0) = false:=decide_eq_false (by omega);have d2 : decide (5 < k) = true:=decide_eq_true hk;go_wp2_with fail;refine (atR_any 13 (-1) _).mono ?_;rintro e w9 ⟨rfl,hbb⟩;unfold flt;have hC9:=hC.step hbb;obtain ⟨p1,p2,p3⟩:=hC9.p.rules;go_wp2_with fail;exact ret_blk rfl rfl ((hC9.p.set_ 0 (.int .i64 13)).set_ 1 (.int .i64 (-1))) _ Tryz.underlying29 rfl (by kernel_rfl) rfl ⟨rfl,(hC9.bel.setCell (p:=⟨w.heap.size + 1,0,none⟩) (Nat.le_succ _) _).setCell (p:=⟨w.heap.size + 1,1,none⟩) (Nat.le_succ _) _⟩
theorem rlit0_any {w : World} (n1 n2 : Bool) (ln ld : List Nat) (A1 A2 : Option Addr) (c1 c2:Nat) (t : List UInt8) (r:Int) (hl1 : ln.length ≤ 9223372036854775807) (hl2 : ld.length ≤ 9223372036854775807) (ht : t.length ≤ 9223372036854775807) (hrn : Row w A1 (u32s ln)) (hrd : Row w A2 (u32s ld)) (hT : Tabs w) :
  Calls Tryz.prog 9 #[.agg (valD 0 n1 (.slice A1 ln.length c1) n2 (.slice A2 ld.length c2) t r)] w fun e w' => ∃ R,PrR 0 n1 n2 ln ld t r R∧LPPost w R e w':=by
 have hC:=FiC.new w (valD 0 n1 (.slice A1 ln.length c1) n2 (.slice A2 ld.length c2) t r);obtain ⟨v1,v2,v3⟩:=hC.v.rules;have HCF:=hid (fun W hr1 hr2 hT => cfault0_any (w:=W) n1 n2 ln ld A1 A2 c1 c2 t r hl1 hl2 ht hr1 hr2 hT);have HBAD:=hid (cf_bad 0 (by decide) n1 n2 ln ld t r);have HOK:=hid (cf_ok 0 n1 n2 ln ld t r);obtain ⟨C,hCC⟩ : ∃ C,cfR t (validV 0 n1 n2 ln ld t r) = C:=⟨_,rfl⟩;rw [hCC] at HCF HBAD HOK;clear hCC;obtain ⟨cc,ci⟩:=C;unfold valD at *
 go_enter Tryz.func9,Tryz.ntmps9;go_wp2_with fail;refine (HCF.out _ (hrn.keepB hC.bel) (hrd.keepB hC.bel) (hT.keepB hC.bel)).mono ?_;rintro e w2 ⟨rfl,hbb⟩;dsimp only at HBAD HOK ⊢;unfold flt;have hC2:=hC.step hbb;clear hC hbb v1 v2 v3 HCF;have hF:=Blk.new w2 29 #[.int .i64 cc,.int .i64 ci];have hba:=(Below.refl w2.heap.size w2).alloc (Nat.le_refl _) (.cells #[.int .i64 cc,.int .i64 ci] 29);have hC3:=hC2.step hba;obtain ⟨q1,q2,q3⟩:=hF.rules;obtain ⟨v1,v2,v3⟩:=hC3.v.rules;obtain ⟨p1,p2,p3⟩:=hC3.p.rules;rcases Decidable.em (cc = 0) with hc0 | hc0
 case inr =>
  have hcb : (cc != 0) = true:=(by rw [bne_iff_ne]; exact hc0);have HR:=hid (HBAD.out hc0);clear HBAD HOK hc0;go_wp2_with fail;go_region
  all_goals go_wp2_with fail
  all_goals exact ret_tmp_blk rfl rfl ((hC3.p.set_ 0 (.int .i64 cc)).set_ 1 (.int .i64 ci)).drew _ Tryz.underlying29 rfl (by kernel_rfl) rfl _ rfl ⟨_,HR.out,rfl,((hC3.bel.setCell (p:=⟨w.heap.size + 1,0,none⟩) (Nat.le_succ _) (.int .i64 cc)).setCell (p:=⟨w.heap.size + 1,1,none⟩) (Nat.le_succ _) (.int .i64 ci)).drew⟩
 have HO:=hid (HOK.out hc0);subst hc0;clear HBAD HOK
 go_upto_region 4 with fail
 obtain ⟨w3,hw3⟩ : ∃ w3,w2.alloc (.cells #[.int .i64 0,.int .i64 ci] 29) = w3:=⟨_,rfl⟩;have hG:=Blk.new w3 29 #[.int .i64 0,.int .i64 0];have hbg:=(Below.refl w3.heap.size w3).alloc (Nat.le_refl _) (.cells #[.int .i64 0,.int .i64 0] 29);rw [hw3] at hC3 ⊢;have hC4:=hC3.step hbg;clear hw3 hF hba hC2 v1 v2 v3 p1 p2 p3 q1 q2 q3
 go_upto_region 6 with fail
 obtain ⟨w4,hw4⟩ : ∃ w4,w3.alloc (.cells #[.int .i64 0,.int .i64 0] 29) = w4:=⟨_,rfl⟩;obtain ⟨q,hq⟩ : ∃ q,w3.heap.size = q:=⟨_,rfl⟩;have hqs:=hC3.p.lt;rw [hw4] at hC4;rw [hq] at hqs;rw [hw4,hq] at hG ⊢;clear hw4 hq hC3 hbg;have hr1:=hrn.keepB hC4.bel;have hr2:=hrd.keepB hC4.bel;have hT4:=hT.keepB hC4.bel;clear hrn hrd hT;obtain ⟨v1,v2,v3⟩:=hC4.v.rules;obtain ⟨p1,p2,p3⟩:=hC4.p.rules;obtain ⟨q1,q2,q3⟩:=hG.rules;have HR:=hid (show PrR 0 n1 n2 ln ld t r (pr0 ln t r) from by have h:=@PrR.mk0 n1 n2 ln ld t r; rwa [HO.out.1,if_pos rfl] at h);go_wp2_with fail;go_region
 all_goals go_wp2_with fail
 all_goals exact ret_tmp_blk rfl rfl ((hC4.p.set_ 0 (.int .i64 0)).set_ 1 (.int .i64 0)).drew _ Tryz.underlying29 rfl (by kernel_rfl) rfl _ rfl ⟨_,HR.out,rfl,((hC4.bel.setCell (p:=⟨w.heap.size + 1,0,none⟩) (Nat.le_succ _) (.int .i64 0)).setCell (p:=⟨w.heap.size + 1,1,none⟩) (Nat.le_succ _) (.int .i64 0)).drew⟩
theorem rlit1_any {w : World} (n1 n2 : Bool) (ln ld : List Nat) (A1 A2 : Option Addr) (c1 c2:Nat) (t : List UInt8) (r:Int) (hl1 : ln.length ≤ 9223372036854775807) (hl2 : ld.length ≤ 9223372036854775807) (ht : t.length ≤ 9223372036854775807) (hrn : Row w A1 (u32s ln)) (hrd : Row w A2 (u32s ld)) (hT : Tabs w) :
  Calls Tryz.prog 9 #[.agg (valD 1 n1 (.slice A1 ln.length c1) n2 (.slice A2 ld.length c2) t r)] w fun e w' => ∃ R,PrR 1 n1 n2 ln ld t r R∧LPPost w R e w':=by
 have hC:=FiC.new w (valD 1 n1 (.slice A1 ln.length c1) n2 (.slice A2 ld.length c2) t r);obtain ⟨v1,v2,v3⟩:=hC.v.rules;have HCF:=hid (fun W hr1 hr2 hT => cfault1_any (w:=W) n1 n2 ln ld A1 A2 c1 c2 t r hl1 hl2 ht hr1 hr2 hT);have HBAD:=hid (cf_bad 1 (by decide) n1 n2 ln ld t r);have HOK:=hid (cf_ok 1 n1 n2 ln ld t r);obtain ⟨C,hCC⟩ : ∃ C,cfR t (validV 1 n1 n2 ln ld t r) = C:=⟨_,rfl⟩;rw [hCC] at HCF HBAD HOK;clear hCC;obtain ⟨cc,ci⟩:=C;unfold valD at *
 go_enter Tryz.func9,Tryz.ntmps9;go_wp2_with fail;refine (HCF.out _ (hrn.keepB hC.bel) (hrd.keepB hC.bel) (hT.keepB hC.bel)).mono ?_;rintro e w2 ⟨rfl,hbb⟩;dsimp only at HBAD HOK ⊢;unfold flt;have hC2:=hC.step hbb;clear hC hbb v1 v2 v3 HCF;have hF:=Blk.new w2 29 #[.int .i64 cc,.int .i64 ci];have hba:=(Below.refl w2.heap.size w2).alloc (Nat.le_refl _) (.cells #[.int .i64 cc,.int .i64 ci] 29);have hC3:=hC2.step hba;obtain ⟨q1,q2,q3⟩:=hF.rules;obtain ⟨v1,v2,v3⟩:=hC3.v.rules;obtain ⟨p1,p2,p3⟩:=hC3.p.rules;rcases Decidable.em (cc = 0) with hc0 | hc0
 case inr =>
  have hcb : (cc != 0) = true:=(by rw [bne_iff_ne]; exact hc0);have HR:=hid (HBAD.out hc0);clear HBAD HOK hc0;go_wp2_with fail;go_region
  all_goals go_wp2_with fail
  all_goals exact ret_tmp_blk rfl rfl ((hC3.p.set_ 0 (.int .i64 cc)).set_ 1 (.int .i64 ci)).drew _ Tryz.underlying29 rfl (by kernel_rfl) rfl _ rfl ⟨_,HR.out,rfl,((hC3.bel.setCell (p:=⟨w.heap.size + 1,0,none⟩) (Nat.le_succ _) (.int .i64 cc)).setCell (p:=⟨w.heap.size + 1,1,none⟩) (Nat.le_succ _) (.int .i64 ci)).drew⟩
 have HO:=hid (HOK.out hc0);subst hc0;clear HBAD HOK
 go_upto_region 4 with fail
 obtain ⟨w3,hw3⟩ : ∃ w3,w2.alloc (.cells #[.int .i64 0,.int .i64 ci] 29) = w3:=⟨_,rfl⟩;have hG:=Blk.new w3 29 #[.int .i64 0,.int .i64 0];have hbg:=(Below.refl w3.heap.size w3).alloc (Nat.le_refl _) (.cells #[.int .i64 0,.int .i64 0] 29);rw [hw3] at hC3 ⊢;have hC4:=hC3.step hbg;clear hw3 hF hba hC2 v1 v2 v3 p1 p2 p3 q1 q2 q3
 go_upto_region 6 with fail
 obtain ⟨w4,hw4⟩ : ∃ w4,w3.alloc (.cells #[.int .i64 0,.int .i64 0] 29) = w4:=⟨_,rfl⟩;obtain ⟨q,hq⟩ : ∃ q,w3.heap.size = q:=⟨_,rfl⟩;have hqs:=hC3.p.lt;rw [hw4] at hC4;rw [hq] at hqs;rw [hw4,hq] at hG ⊢;clear hw4 hq hC3 hbg;have hr1:=hrn.keepB hC4.bel;have hr2:=hrd.keepB hC4.bel;have hT4:=hT.keepB hC4.bel;clear hrn hrd hT;obtain ⟨v1,v2,v3⟩:=hC4.v.rules;obtain ⟨p1,p2,p3⟩:=hC4.p.rules;obtain ⟨q1,q2,q3⟩:=hG.rules;have HR:=hid (show PrR 1 n1 n2 ln ld t r (pr1 ln t r) from by have h:=@PrR.mk1 n1 n2 ln ld t r; rwa [HO.out.1,if_pos rfl] at h);have hba:=(Below.refl w4.heap.size w4).alloc (Nat.le_refl _) (.cells #[.string ⟨#[102,97,108,115,101]⟩,.string ⟨#[116,114,117,101]⟩] 9);have hr01 : r = 0∨r = 1:=by have h:=HO.out.1; simp [validV] at h; exact h.2
 rcases hr01 with rfl | rfl
 ·go_upto_region 24 with fail
  obtain ⟨w5,hw5⟩ : ∃ w5,w4.alloc (.cells #[.string ⟨#[102,97,108,115,101]⟩,.string ⟨#[116,114,117,101]⟩] 9) = w5:=⟨_,rfl⟩;rw [hw5] at hba ⊢;have hC5:=hC4.step hba;have hG5:=hG.belowS hba;clear hw5 hba hC4 hG v1 v2 v3 p1 p2 p3 q1 q2 q3;obtain ⟨p1,p2,p3⟩:=hC5.p.rules;obtain ⟨q1,q2,q3⟩:=hG5.rules;go_wp2_with fail;go_region
  all_goals go_wp2_with fail
  all_goals exact ret_tmp_blk rfl rfl ((hC5.p.set_ 0 (.int .i64 0)).set_ 1 (.int .i64 0)).drew _ Tryz.underlying29 rfl (by kernel_rfl) rfl _ rfl ⟨_,HR.out,rfl,((hC5.bel.setCell (p:=⟨w.heap.size + 1,0,none⟩) (Nat.le_succ _) (.int .i64 0)).setCell (p:=⟨w.heap.size + 1,1,none⟩) (Nat.le_succ _) (.int .i64 0)).drew⟩
 ·go_upto_region 24 with fail
  obtain ⟨w5,hw5⟩ : ∃ w5,w4.alloc (.cells #[.string ⟨#[102,97,108,115,101]⟩,.string ⟨#[116,114,117,101]⟩] 9) = w5:=⟨_,rfl⟩;rw [hw5] at hba ⊢;have hC5:=hC4.step hba;have hG5:=hG.belowS hba;clear hw5 hba hC4 hG v1 v2 v3 p1 p2 p3 q1 q2 q3;obtain ⟨p1,p2,p3⟩:=hC5.p.rules;obtain ⟨q1,q2,q3⟩:=hG5.rules;go_wp2_with fail;go_region
  all_goals go_wp2_with fail
  all_goals exact ret_tmp_blk rfl rfl ((hC5.p.set_ 0 (.int .i64 0)).set_ 1 (.int .i64 0)).drew _ Tryz.underlying29 rfl (by kernel_rfl) rfl _ rfl ⟨_,HR.out,rfl,((hC5.bel.setCell (p:=⟨w.heap.size + 1,0,none⟩) (Nat.le_succ _) (.int .i64 0)).setCell (p:=⟨w.heap.size + 1,1,none⟩) (Nat.le_succ _) (.int .i64 0)).drew⟩
theorem rlit2_any {w : World} (n1 n2 : Bool) (ln ld : List Nat) (A1 A2 : Option Addr) (c1 c2:Nat) (t : List UInt8) (r:Int) (hl1 : ln.length ≤ 9223372036854775807) (hl2 : ld.length ≤ 9223372036854775807) (ht : t.length ≤ 9223372036854775807) (hrn : Row w A1 (u32s ln)) (hrd : Row w A2 (u32s ld)) (hT : Tabs w)(h32 : ∀ x ∈ ln,x < 4294967296) :
  Calls Tryz.prog 9 #[.agg (valD 2 n1 (.slice A1 ln.length c1) n2 (.slice A2 ld.length c2) t r)] w fun e w' => ∃ R,PrR 2 n1 n2 ln ld t r R∧LPPost w R e w':=by
 have hC:=FiC.new w (valD 2 n1 (.slice A1 ln.length c1) n2 (.slice A2 ld.length c2) t r);obtain ⟨v1,v2,v3⟩:=hC.v.rules;have HCF:=hid (fun W hr1 hr2 hT => cfault2_any (w:=W) n1 n2 ln ld A1 A2 c1 c2 t r hl1 hl2 ht hr1 hr2 hT);have HBAD:=hid (cf_bad 2 (by decide) n1 n2 ln ld t r);have HOK:=hid (cf_ok 2 n1 n2 ln ld t r);obtain ⟨C,hCC⟩ : ∃ C,cfR t (validV 2 n1 n2 ln ld t r) = C:=⟨_,rfl⟩;rw [hCC] at HCF HBAD HOK;clear hCC;obtain ⟨cc,ci⟩:=C;unfold valD at *
 go_enter Tryz.func9,Tryz.ntmps9;go_wp2_with fail;refine (HCF.out _ (hrn.keepB hC.bel) (hrd.keepB hC.bel) (hT.keepB hC.bel)).mono ?_;rintro e w2 ⟨rfl,hbb⟩;dsimp only at HBAD HOK ⊢;unfold flt;have hC2:=hC.step hbb;clear hC hbb v1 v2 v3 HCF;have hF:=Blk.new w2 29 #[.int .i64 cc,.int .i64 ci];have hba:=(Below.refl w2.heap.size w2).alloc (Nat.le_refl _) (.cells #[.int .i64 cc,.int .i64 ci] 29);have hC3:=hC2.step hba;obtain ⟨q1,q2,q3⟩:=hF.rules;obtain ⟨v1,v2,v3⟩:=hC3.v.rules;obtain ⟨p1,p2,p3⟩:=hC3.p.rules;rcases Decidable.em (cc = 0) with hc0 | hc0
 case inr =>
  have hcb : (cc != 0) = true:=(by rw [bne_iff_ne]; exact hc0);have HR:=hid (HBAD.out hc0);clear HBAD HOK hc0;go_wp2_with fail;go_region
  all_goals go_wp2_with fail
  all_goals exact ret_tmp_blk rfl rfl ((hC3.p.set_ 0 (.int .i64 cc)).set_ 1 (.int .i64 ci)).drew _ Tryz.underlying29 rfl (by kernel_rfl) rfl _ rfl ⟨_,HR.out,rfl,((hC3.bel.setCell (p:=⟨w.heap.size + 1,0,none⟩) (Nat.le_succ _) (.int .i64 cc)).setCell (p:=⟨w.heap.size + 1,1,none⟩) (Nat.le_succ _) (.int .i64 ci)).drew⟩
 have HO:=hid (HOK.out hc0);subst hc0;clear HBAD HOK
 go_upto_region 4 with fail
 obtain ⟨w3,hw3⟩ : ∃ w3,w2.alloc (.cells #[.int .i64 0,.int .i64 ci] 29) = w3:=⟨_,rfl⟩;have hG:=Blk.new w3 29 #[.int .i64 0,.int .i64 0];have hbg:=(Below.refl w3.heap.size w3).alloc (Nat.le_refl _) (.cells #[.int .i64 0,.int .i64 0] 29);rw [hw3] at hC3 ⊢;have hC4:=hC3.step hbg;clear hw3 hF hba hC2 v1 v2 v3 p1 p2 p3 q1 q2 q3
 go_upto_region 6 with fail
 obtain ⟨w4,hw4⟩ : ∃ w4,w3.alloc (.cells #[.int .i64 0,.int .i64 0] 29) = w4:=⟨_,rfl⟩;obtain ⟨q,hq⟩ : ∃ q,w3.heap.size = q:=⟨_,rfl⟩;have hqs:=hC3.p.lt;rw [hw4] at hC4;rw [hq] at hqs;rw [hw4,hq] at hG ⊢;clear hw4 hq hC3 hbg;have hr1:=hrn.keepB hC4.bel;have hr2:=hrd.keepB hC4.bel;have hT4:=hT.keepB hC4.bel;clear hrn hrd hT;obtain ⟨v1,v2,v3⟩:=hC4.v.rules;obtain ⟨p1,p2,p3⟩:=hC4.p.rules;obtain ⟨q1,q2,q3⟩:=hG.rules;have HR:=hid (show PrR 2 n1 n2 ln ld t r (pr2 ln t r) from by have h:=@PrR.mk2 n1 n2 ln ld t r; rwa [HO.out.1,if_pos rfl] at h);have hwl : wellV ln = true:=by have h:=HO.out.1; simp [validV] at h; simp [h]
 have hl128:=well_len hwl;have hdl:=V_dig10 ln hl128 h32;go_wp2_with fail;refine (ofl_any ln A1 c1 hl128 h32 hr1).mono ?_;rintro e w5 ⟨⟨v,rfl,A5,c5,rfl,hcap,hr5⟩,hbb⟩;have hC5:=hC4.step hbb;have hG5:=hG.belowS hbb;clear hC4 hG hbb hcap v1 v2 v3 p1 p2 p3 q1 q2 q3;go_wp2_with fail;refine (dstring_any (V 4294967296 ln) A5 c5 (by omega) hr5).mono ?_;rintro e w6 ⟨rfl,hw6⟩;rw [hw6];clear hw6 w6;have HP2:=hid (show pr2 ln t r = if 600 < (decDigits (V 4294967296 ln)).length then ([],3,-1) else (decDigits (V 4294967296 ln),0,0) from rfl);obtain ⟨D,hD⟩ : ∃ D,decDigits (V 4294967296 ln) = D:=⟨_,rfl⟩;rw [hD] at HP2 ⊢;clear hD hdl hr5 h32;obtain ⟨p1,p2,p3⟩:=hC5.p.rules;obtain ⟨q1,q2,q3⟩:=hG5.rules
 by_cases h6 : 600 < D.length
 ·have hl6 : (600:Int) < (D.length:Int):=(by omega);rw [if_pos h6] at HP2;clear h6;go_wp2_with fail;refine (atR_any 3 (-1) _).mono ?_;rintro e w9 ⟨rfl,hbb9⟩;unfold flt;have hC9:=hC5.step hbb9;clear hC5 hbb9 q1 q2 q3 p1 p2 p3 hG5;obtain ⟨p1,p2,p3⟩:=hC9.p.rules;go_wp2_with fail;exact ret_tmp_blk rfl rfl ((hC9.p.set_ 0 (.int .i64 3)).set_ 1 (.int .i64 (-1))) _ Tryz.underlying29 rfl (by kernel_rfl) rfl _ rfl ⟨_,HR.out,by rw [HP2.out]; rfl,(hC9.bel.setCell (p:=⟨w.heap.size + 1,0,none⟩) (Nat.le_succ _) (.int .i64 3)).setCell (p:=⟨w.heap.size + 1,1,none⟩) (Nat.le_succ _) (.int .i64 (-1))⟩
 ·have hl6 : ¬ (600:Int) < (D.length:Int):=(by omega);rw [if_neg h6] at HP2;have HR2 : Hid (PrR 2 n1 n2 ln ld t r (D,0,0)):=hid (by rw [← HP2.out]; exact HR.out);clear h6;go_wp2_with fail;go_region
  all_goals go_wp2_with fail
  all_goals exact ret_tmp_blk rfl rfl ((hC5.p.set_ 0 (.int .i64 0)).set_ 1 (.int .i64 0)).drew _ Tryz.underlying29 rfl (by kernel_rfl) rfl _ rfl ⟨_,HR2.out,rfl,((hC5.bel.setCell (p:=⟨w.heap.size + 1,0,none⟩) (Nat.le_succ _) (.int .i64 0)).setCell (p:=⟨w.heap.size + 1,1,none⟩) (Nat.le_succ _) (.int .i64 0)).drew⟩
end
end Go.Proofs.YtonehlkiackhcaaGreatDoor