/- Contracts of Go library functions over this dump, as the kit's command for the shelf lays them in plain words. Nothing is claimed here. -/
import Derived.Test.YtonehlkiackhcaaGreatDoorLitC
import Derived.Shelf.Small.Utf8
import Derived.Shelf.Small.Strs
import Derived.Shelf.Strings.Shaped
import Derived.Shelf.Utf8.RuneCount
import Derived.Shelf.Strings.Repeat
import Derived.Shelf.Unicode.Decode
import Derived.Shelf.Unicode.DecodeAny
import Derived.Shelf.Strings.Fields
set_option linter.unusedVariables false
set_option linter.unusedSimpArgs false
set_option maxRecDepth 100000
set_option maxHeartbeats 16000000
namespace Go.Proofs.YtonehlkiackhcaaGreatDoor
section
open Go.RowKit
theorem times_any {w : World} (l : List Nat) (A : Option Addr) (c m n:Nat) (hl : ∀ x ∈ l,x < 4294967296) (hlen : l.length ≤ 10000) (hm : m < 4294967296) (hn : n < 4294967296) (hr : Row w A (u32s l)) :
  Calls Tryz.prog 76 #[.slice A l.length c,.int .u32 (m:Int),.int .u32 (n:Int)] w fun e w' => (∃ A' c',e = .returned (.slice A' ((mulGo 4294967296 m l n).1 ++ (if 0 < (mulGo 4294967296 m l n).2 then [(mulGo 4294967296 m l n).2] else [])).length c')∧Row w' A' (u32s ((mulGo 4294967296 m l n).1 ++ (if 0 < (mulGo 4294967296 m l n).2 then [(mulGo 4294967296 m l n).2] else []))))∧Below w.heap.size w w':=by
 obtain ⟨iu,hiu,huz0,huz1,huz2⟩:=info_parts info_u32;obtain ⟨b,hbb⟩ : ∃ b,w.heap.size = b:=⟨_,rfl⟩;have HB:=Lib.hid hbb;clear hbb;have HLT:=Lib.hid hl;have hwn : IntKind.u64.wrap (n:Int) = (n:Int):=IntWalk.u64_in _ (by omega);clear hl;obtain ⟨R,hR⟩ : ∃ R,(mulGo 4294967296 m l n).1 ++ (if 0 < (mulGo 4294967296 m l n).2 then [(mulGo 4294967296 m l n).2] else []) = R:=⟨_,rfl⟩;rw [hR];have HRR:=Lib.hid hR;clear hR;go_enter Tryz.func76,Tryz.ntmps76;go_wp2_with fail
 go_loopw [7,8,15] (fun v cr i wr => ∃ (k c:Nat),k ≤ l.length∧i = .int .i64 (k:Int)∧cr = .int .u64 (c:Int)∧c < 4294967296∧Hid (mulGo 4294967296 m (l.take k) n = ((mulGo 4294967296 m (l.take k) n).1,c))∧wr.ownsRow b 63 1 v k (u32s (mulGo 4294967296 m (l.take k) n).1)∧Below b w wr) (fun _ _ i _ => l.length - (RowKit.intOf i).toNat)
 case atStart => exact ⟨0,n,Nat.zero_le _,rfl,by first | rfl | (rw [hwn]),hn,Lib.hid rfl,World.ownsRow_nil _ _ _ _,by rw [← HB.out]; exact Below.refl _ _⟩
 case round =>
  obtain ⟨k,cc,hk,rfl,rfl,hcc,HM,hown,hb⟩:=hrel;have hbs:=hb.size;rw [HB.out] at hbs
  by_cases hlt : k < l.length
  ·obtain ⟨b0,off,rfl,hcell⟩:=row_u32 (hr.keepB (by rw [HB.out]; exact hb)) hlt;have htk : l.take (k + 1) = l.take k ++ [l[k]]:=(by rw [List.take_add_one,List.getElem?_eq_getElem hlt]; rfl);obtain ⟨x,hx⟩ : ∃ x,l[k] = x:=⟨_,rfl⟩;have hx32 : x < 4294967296:=hx ▸ HLT.out _ (List.getElem_mem hlt);rw [hx] at hcell htk;have HTK:=Lib.hid htk;clear hx htk;have hxm : x * m ≤ 4294967295 * 4294967295:=Nat.mul_le_mul (by omega) (by omega);have e1 : IntKind.u64.wrap (x:Int) = (x:Int):=IntWalk.u64_in _ (by omega);have e2 : IntKind.u64.wrap (m:Int) = (m:Int):=IntWalk.u64_in _ (by omega);have e3 : IntKind.u64.wrap ((x:Int) * (m:Int)) = (x:Int) * (m:Int):=IntWalk.u64_in _ (by rw [← Int.natCast_mul]; omega);have e4 : IntKind.u64.wrap ((cc:Int) + (x:Int) * (m:Int)) = (cc:Int) + (x:Int) * (m:Int):=IntWalk.u64_in _ (by rw [← Int.natCast_mul]; omega);go_wp2_with (at_builtin; refine wpList_append_own_at _ rfl (.tmp 26) (.tmp 29) 22 rfl b 63 iu _ 1 4 Tryz.underlying22 hiu huz0 huz1 huz2 rfl (by decide) _ _ _ rfl (hown.alloc _) ⟨wr.heap.size,0,none⟩ 1 1 [_] rfl rfl (cell_one_new wr _ _) (by simp [Value.oneCell']) (by unfold maxLen; omega) (by omega) (by simp; omega) ?_; intro v2 w2 hown2 hg2 _ hat2);have hnew : mulGo 4294967296 m (l.take (k + 1)) n = ((mulGo 4294967296 m (l.take k) n).1 ++ [(cc + x * m) % 4294967296],(cc + x * m) / 4294967296):=by
    rw [HTK.out,mulGo_snoc,show (mulGo 4294967296 m (l.take k) n).2 = cc from congrArg Prod.snd HM.out]
   have hP : (x:Int) * (m:Int) = ((x * m:Nat):Int):=(Int.natCast_mul x m).symm;have hc1 : (((cc:Int) + (x:Int) * (m:Int)) % 4294967296) = (((cc + x * m) % 4294967296:Nat):Int):=(by rw [hP]; omega);have hc2 : (((cc:Int) + (x:Int) * (m:Int)) / 4294967296) = (((cc + x * m) / 4294967296:Nat):Int):=(by rw [hP]; omega);rw [hc1,← u32s_snoc] at hown2;rw [hc2];have hb2:=(hb.alloc hbs _).grown hg2 (by simp; omega) (fun g e => by have:=hown.lt g e; omega);have hq : (cc + x * m) / 4294967296 < 4294967296:=(by omega);go_roundw
   case rel => exact ⟨k + 1,(cc + x * m) / 4294967296,by omega,by go_num,rfl,hq,Lib.hid (by rw [hnew]),by rw [hnew]; exact hown2,hb2⟩
   case measure => simp [RowKit.intOf]; omega
  ·have hkl : k = l.length:=(by omega);have hM : (mulGo 4294967296 m l n) = ((mulGo 4294967296 m (l.take k) n).1,cc):=(by rw [← HM.out,hkl,List.take_length]);have hlen2:=mulGo_len 4294967296 m (l.take k) n;rw [List.length_take,Nat.min_eq_left hk] at hlen2;obtain ⟨D,hD⟩ : ∃ D,(mulGo 4294967296 m (l.take k) n).1 = D:=⟨_,rfl⟩;rw [hD] at hM hown hlen2;have hRD : D ++ (if 0 < cc then [cc] else []) = R:=(by rw [← HRR.out,hM]);clear hM hD HM hkl
   by_cases h0 : 0 < cc
   ·rw [if_pos h0] at hRD;subst hRD;have h0' : decide ((0:Int) < (cc:Int)) = true:=(by simp; omega);have hc1 : (cc:Int) % 4294967296 = (cc:Int):=(by omega);go_wp2_with (at_builtin; refine wpList_append_own_at _ rfl (.tmp 36) (.tmp 39) 22 rfl b 63 iu _ 1 4 Tryz.underlying22 hiu huz0 huz1 huz2 rfl (by decide) _ _ _ rfl (hown.alloc _) ⟨wr.heap.size,0,none⟩ 1 1 [_] rfl rfl (cell_one_new wr _ _) (by simp [Value.oneCell']) (by unfold maxLen; omega) (by omega) (by simp; omega) ?_; intro v2 w2 hown2 hg2 _ hat2);rw [← u32s_snoc] at hown2;have hb2:=(hb.alloc hbs _).grown hg2 (by simp; omega) (fun g e => by have:=hown.lt g e; omega);obtain ⟨A',c',rfl,_,_⟩:=own_form hown2;go_ret;exact ⟨⟨A',c',by rw [List.length_append,hlen2]; rfl,Row.of_own hown2⟩,by rw [HB.out]; exact hb2⟩
   ·rw [if_neg h0,List.append_nil] at hRD;subst hRD;have h0' : decide ((0:Int) < (cc:Int)) = false:=(by simp; omega);obtain ⟨A',c',rfl,_,_⟩:=own_form hown;go_wp2_with fail;go_ret;exact ⟨⟨A',c',by rw [hlen2]; rfl,Row.of_own hown⟩,by rw [HB.out]; exact hb⟩
theorem made_u32 (n:Nat) : madeCells (Value.cells (.int .u32 0)) n = (u32s (List.replicate n 0)).toArray:=by
 apply Array.ext
 ·simp [madeCells,u32s]
 ·intro i h1 h2;simp [madeCells,u32s,Value.cells,Nat.mod_one]
theorem ofInt_u64 (a:Nat) (h : a < 18446744073709551616) : (BitVec.ofInt 64 (a:Int)).toNat = a:=by
 rw [BitVec.ofInt_natCast,BitVec.toNat_ofNat,Nat.mod_eq_of_lt (by omega)]
theorem u64_or_nat (a b:Nat) (ha : a < 18446744073709551616) (hb : b < 18446744073709551616) : bits .or .u64 (a:Int) (b:Int) = ((a ||| b:Nat):Int):=by
 have hx : a ||| b < 2 ^ 64:=Nat.or_lt_two_pow (by omega) (by omega)
 show IntKind.u64.wrap ((BitVec.ofInt 64 (a:Int) ||| BitVec.ofInt 64 (b:Int)).toNat:Int) = _;rw [BitVec.toNat_or,ofInt_u64 a ha,ofInt_u64 b hb];exact IntWalk.u64_in _ (by omega)
theorem u64_or_hi (r x:Nat) (hr : r < 4294967296) (hx : x < 4294967296) : bits .or .u64 ((r:Int) * 4294967296) (x:Int) = ((r * 4294967296 + x:Nat):Int):=by
 have h:=u64_or_nat (r * 4294967296) x (by omega) (by omega);have e:=Nat.two_pow_add_eq_or_of_lt (i:=32) (b:=x) (by omega) r;rw [show r * 4294967296 = 2 ^ 32 * r by omega,← e] at h;rw [show r * 4294967296 + x = 2 ^ 32 * r + x by omega,← h]
 congr 1
 omega
def lenOf : Value → Nat
 | .slice _ n _ => n
 | _ => 0
theorem set_u32 (j:Nat) (D : List Nat) (q:Nat) : ((u32s (List.replicate (j + 1) 0 ++ D)).toArray).setIfInBounds j (.int .u32 (q:Int)) = (u32s (List.replicate j 0 ++ q :: D)).toArray:=by
 have h : u32s (List.replicate (j + 1) 0 ++ D) = u32s (List.replicate j 0) ++ .int .u32 0 :: u32s D:=by simp [u32s,List.replicate_succ',List.append_assoc]
 rw [h,List.setIfInBounds_toArray,List.set_append_right _ _ (by simp [u32s])];simp [u32s]
theorem divide_any {w : World} (l : List Nat) (A : Option Addr) (c d:Nat) (hl : ∀ x ∈ l,x < 4294967296) (hlen : l.length ≤ 10000) (hd0 : 0 < d) (hd : d < 4294967296) (hr : Row w A (u32s l)) :
  Calls Tryz.prog 71 #[.slice A l.length c,.int .u32 (d:Int)] w fun e w' => (∃ A' c',e = .returned (.tuple #[.slice A' (trimZ (divGo 4294967296 d l).1).length c',.int .u32 ((divGo 4294967296 d l).2:Int)])∧Row w' A' (u32s (trimZ (divGo 4294967296 d l).1)))∧Below w.heap.size w w':=by
 obtain ⟨iu,hiu,huz0,huz1,huz2⟩:=info_parts info_u32;obtain ⟨R,hR⟩ : ∃ R,divGo 4294967296 d l = R:=⟨_,rfl⟩;rw [hR];have HRR:=Lib.hid hR;clear hR;have hrun:=run_make (P:=Tryz.prog) w 22 63 iu (.int .u32 0) Tryz.underlying22 hiu huz0 .i64 .i64 (l.length:Int) (l.length:Int) (by omega) (Int.le_refl _) (by rw [huz2]; omega) (by omega);rw [huz1,Int.toNat_natCast,Nat.mul_one,made_u32] at hrun;have hB:=Blk.new w 63 (u32s (List.replicate l.length 0)).toArray;have hb:=(Below.refl w.heap.size w).alloc (Nat.le_refl _) (.cells (u32s (List.replicate l.length 0)).toArray 63);obtain ⟨w1,hw1⟩ : ∃ x,w.alloc (.cells (u32s (List.replicate l.length 0)).toArray 63) = x:=⟨_,rfl⟩;rw [hw1] at hrun hB hb;obtain ⟨b,hbb⟩ : ∃ b,w.heap.size = b:=⟨_,rfl⟩;have HB:=Lib.hid hbb;rw [hbb] at hrun hB hb;clear hbb hw1;have HLT:=Lib.hid hl;clear hl;go_enter Tryz.func71,Tryz.ntmps71;go_wp2_with fail;clear hrun
 go_loopw [7,8] (fun r i wr => ∃ (k:Nat),k ≤ l.length∧i = .int .i64 ((k:Int) - 1)∧r = .int .u64 ((divGo 4294967296 d (l.drop k)).2:Int)∧Blk wr b 63 (u32s (List.replicate k 0 ++ (divGo 4294967296 d (l.drop k)).1)).toArray∧Below b w wr) (fun _ i _ => (RowKit.intOf i + 1).toNat)
 case atStart => exact ⟨l.length,Nat.le_refl _,rfl,by rw [List.drop_length]; rfl,by rw [List.drop_length]; simpa [divGo] using hB,hb⟩
 case round =>
  clear hB hb;obtain ⟨k,hk,rfl,rfl,hB,hb⟩:=hrel;rcases k with _ | j
  ·rw [show ((0:Nat):Int) - 1 = -1 from rfl];have hq0 : divGo 4294967296 d (l.drop 0) = R:=(by rw [List.drop_zero]; exact HRR.out);rw [hq0] at hB ⊢;have hrr : R.2 < 4294967296:=(by rw [← hq0]; have:=divGo_rest (B:=4294967296) hd0 (l.drop 0); omega);have hQl : R.1.length = l.length:=(by rw [← hq0,divGo_len,List.drop_zero]);obtain ⟨Q,r⟩:=R;simp only at hB hrr hQl ⊢;rw [show List.replicate 0 0 ++ Q = Q from rfl] at hB;have e7 : (r:Int) % 4294967296 = (r:Int):=(by omega);clear hq0;go_wp2_with fail
   go_loop [6] (fun v => ∃ k : Nat,k ≤ l.length∧v = .slice (some ⟨b,0,none⟩) k l.length∧Hid (trimZ (Q.take k) = trimZ Q)) (fun v => lenOf v)
   case atStart => exact ⟨l.length,Nat.le_refl _,rfl,Lib.hid (by rw [← hQl,List.take_length])⟩
   case round =>
    obtain ⟨k,hk,rfl,HT⟩:=hrel;have hrow : Row wr (some ⟨b,0,none⟩) (u32s (Q.take k)):=.inr ⟨b,0,rfl,hB.lt,fun i u hu => by
     rw [Nat.zero_add,hB.cell i];unfold u32s at hu ⊢;rw [List.getElem?_map,List.getElem?_take] at hu;split at hu
     ·simpa using hu
     ·cases hu⟩
    have htl : (Q.take k).length = k:=(by rw [List.length_take]; omega);rcases k with _ | j
    ·have HF:=Lib.hid (show trimZ Q = [] from by rw [← HT.out]; rfl);go_wp2_with fail;go_ret2;exact ⟨⟨some ⟨b,0,none⟩,⟨l.length,by rw [HF.out]; rfl⟩,by rw [HF.out]; exact hrow⟩,by rw [HB.out]; exact hb⟩
    ·obtain ⟨z,hz⟩ : ∃ z,Q[j]? = some z:=⟨Q[j]'(by omega),List.getElem?_eq_getElem (by omega)⟩;have hcell : wr.cell? ⟨b,j,none⟩ = some (.int .u32 (z:Int)):=by
      rw [hB.cell j];simp [u32s,hz]
     have hts : Q.take (j + 1) = Q.take j ++ [z]:=by rw [List.take_add_one,hz]; rfl
     by_cases h0 : z = 0
     ·subst h0;have HT2:=Lib.hid (show trimZ (Q.take j) = trimZ Q from by rw [← HT.out,hts,trimZ_snoc_zero]);clear hts hz;go_wp2_with fail
      go_round
      case rel => exact ⟨j,by omega,by go_num,HT2⟩
      case measure => simp [lenOf]
     ·have h1 : ((z:Int) == 0) = false:=(by rw [beq_eq_false_iff_ne]; omega);have HF:=Lib.hid (show trimZ Q = Q.take (j + 1) from by rw [← HT.out,hts,trimZ_snoc _ h0]);clear hts hz;go_wp2_with fail;go_ret2;exact ⟨⟨some ⟨b,0,none⟩,⟨l.length,by rw [HF.out,htl]; rfl⟩,by rw [HF.out]; exact hrow⟩,by rw [HB.out]; exact hb⟩
  ·rw [show ((j + 1:Nat):Int) - 1 = (j:Int) by omega];have hlt : j < l.length:=(by omega);obtain ⟨b0,off,rfl,hcell⟩:=row_u32 (hr.keepB (by rw [HB.out]; exact hb)) hlt;have hdr : l.drop j = l[j] :: l.drop (j + 1):=List.drop_eq_getElem_cons hlt;obtain ⟨x,hx⟩ : ∃ x,l[j] = x:=⟨_,rfl⟩;have hx32 : x < 4294967296:=hx ▸ HLT.out _ (List.getElem_mem hlt);rw [hx] at hcell hdr;have hnew : divGo 4294967296 d (l.drop j) = (((divGo 4294967296 d (l.drop (j + 1))).2 * 4294967296 + x) / d :: (divGo 4294967296 d (l.drop (j + 1))).1,((divGo 4294967296 d (l.drop (j + 1))).2 * 4294967296 + x) % d):=(by rw [hdr]; rfl);have hrest:=divGo_rest (B:=4294967296) hd0 (l.drop (j + 1));obtain ⟨D,r,hD⟩ : ∃ D r,divGo 4294967296 d (l.drop (j + 1)) = (D,r):=⟨_,_,rfl⟩;rw [hD] at hnew hrest hB;rw [hD];simp only at hnew hrest hB ⊢;clear hdr hx hD;have e1 : IntKind.u64.wrap (x:Int) = (x:Int):=IntWalk.u64_in _ (by omega);have e2 : IntKind.u64.wrap (d:Int) = (d:Int):=IntWalk.u64_in _ (by omega);have hdne : ¬ (d:Int) = 0:=(by omega);have e3:=u64_or_hi r x (by omega) hx32;obtain ⟨N,hN⟩ : ∃ N,r * 4294967296 + x = N:=⟨_,rfl⟩;have hNd : N / d < 4294967296:=by
    rw [Nat.div_lt_iff_lt_mul hd0,← hN];have h3 : r * 4294967296 + 4294967296 ≤ d * 4294967296:=(by rw [← Nat.succ_mul]; exact Nat.mul_le_mul hrest (Nat.le_refl _));omega
   have e4 : ((N:Int).tdiv (d:Int)) = ((N / d:Nat):Int):=(by rw [Int.tdiv_eq_ediv_of_nonneg (by omega)]; rfl);have e5 : ((N:Int).tmod (d:Int)) = ((N % d:Nat):Int):=(by rw [Int.tmod_eq_emod_of_nonneg (by omega)]; rfl);obtain ⟨nq,hnq⟩ : ∃ nq,N / d = nq:=⟨_,rfl⟩;obtain ⟨nr,hnr⟩ : ∃ nr,N % d = nr:=⟨_,rfl⟩;rw [hN] at e3;rw [hN,hnq,hnr] at hnew;rw [hnq] at e4 hNd;rw [hnr] at e5;have HN:=Lib.hid hnew;clear hnew hnq hnr hN;have e6 : IntKind.u64.wrap (nq:Int) = (nq:Int):=IntWalk.u64_in _ (by omega);have e7 : (nq:Int) % 4294967296 = (nq:Int):=(by omega);have hcb : wr.cell? ⟨b,j,none⟩ = some (.int .u32 0):=by
    rw [hB.cell j];simp [u32s,List.replicate_succ',List.append_assoc]
   obtain ⟨q1,q2,q3⟩:=hB.rules;go_wp2_with fail;have hB2:=hB.set_ j (.int .u32 (nq:Int));rw [set_u32] at hB2;go_roundw
   case rel => exact ⟨j,by omega,rfl,by rw [HN.out],by rw [HN.out]; exact hB2,hb.setCell (p:=⟨b,j,none⟩) (Nat.le_refl _) _⟩
   case measure => simp [RowKit.intOf]
def dval (c : UInt8) : Nat:=if 97 ≤ c then c.toNat - 87 else c.toNat - 48
def isDg (B:Nat) (c : UInt8) : Bool:=(decide (48 ≤ c.toNat) && decide (c.toNat ≤ 57) || decide (97 ≤ c.toNat) && decide (c.toNat ≤ 102)) && decide (dval c < B)
def numV (B:Nat) (s : List UInt8) : Nat:=s.foldl (fun n c => n * B + dval c) 0
theorem numV_snoc (B:Nat) (s : List UInt8) (c : UInt8) : numV B (s ++ [c]) = numV B s * B + dval c:=by simp [numV]
theorem numV_lt (B:Nat) (hB : B ≤ 4294967296) : ∀ (k:Nat) (s : List UInt8),s.length = k → (∀ c ∈ s,dval c < B) → numV B s < 4294967296 ^ k
 | 0,s,h,_ => by
  rw [List.eq_nil_of_length_eq_zero h];exact Nat.zero_lt_one
 | k + 1,s,h,hs => by
  obtain ⟨a,x,rfl⟩ : ∃ a x,s = a ++ [x]:=⟨s.dropLast,s.getLast (by rintro rfl; simp at h),(List.dropLast_concat_getLast _).symm⟩;have ih:=numV_lt B hB k a (by simpa using h) (fun c hc => hs c (by simp [hc]));have hx:=hs x (by simp);rw [numV_snoc,Nat.pow_succ];have h1 : numV B a * B + B ≤ 4294967296 ^ k * B:=(by rw [← Nat.succ_mul]; exact Nat.mul_le_mul ih (Nat.le_refl _));have h2 : 4294967296 ^ k * B ≤ 4294967296 ^ k * 4294967296:=Nat.mul_le_mul (Nat.le_refl _) hB;omega
abbrev W32 : Nat:=4294967296
theorem dig_numV_len (B:Nat) (hB : B ≤ 4294967296) (s : List UInt8) (hs : ∀ c ∈ s,dval c < B) : (dig 4294967296 (numV B s)).length ≤ s.length :=
 dig_len (by decide) s.length _ (numV_lt B hB s.length s rfl hs)
theorem bytes_of (s : List UInt8) (w : World) : ∃ (c:Nat) (w1 : World),(convert 9 71 (.string ⟨s.toArray⟩)).run Tryz.prog w = .ok (.slice (some ⟨w.heap.size,0,none⟩) s.length c) w1 ∧
  (∀ (j:Nat) (x : UInt8),s[j]? = some x → w1.cell? ⟨w.heap.size,j,none⟩ = some (.int .u8 (x.toNat:Int)))∧Below w.heap.size w w1∧w.heap.size < w1.heap.size:=by
 have h:=run_bytes_of_string (P:=Tryz.prog) w 9 71 5 ⟨s.toArray⟩ Tryz.underlying9 Tryz.underlying71 Tryz.underlying5;refine ⟨_,_,h,fun j x hx => ?_,(Below.refl _ _).drew.alloc (Nat.le_refl _) _,by simp⟩;obtain ⟨hj,rfl⟩:=List.getElem?_eq_some_iff.1 hx;generalize grownCap w (⟨s.toArray⟩ : ByteArray).size 0 5 = cap;obtain ⟨X,hX⟩ : ∃ X,bytesRow ⟨s.toArray⟩ cap = X:=⟨_,rfl⟩;have hXj : X[j]? = some (.int .u8 (s[j].toNat:Int)):=by
  rw [← hX];unfold bytesRow;rw [Array.getElem?_append_left (by simpa using hj)];simp [hj]
 rw [hX];have h2 : (w.drew.alloc (.cells X 5 (X.size,X.size + 1))).heap[w.heap.size]? = some (.cells X 5 (X.size,X.size + 1)):=by
  show (w.heap.push _)[w.heap.size]? = _;simp
 simp only [World.cell?,h2];exact hXj
theorem digits_any (s : List UInt8) (B:Nat) (w : World) (hB0 : 0 < B) (hB : B ≤ 16) (hl : s.length ≤ 5000) (hs : ∀ c ∈ s,isDg B c = true) :
  Calls Tryz.prog 41 #[.string ⟨s.toArray⟩,.int .u32 (B:Int)] w fun e w' => (∃ A c,e = .returned (.slice A (dig 4294967296 (numV B s)).length c)∧Row w' A (u32s (dig 4294967296 (numV B s))))∧Below w.heap.size w w':=by
 obtain ⟨b,hbb⟩ : ∃ b,w.heap.size = b:=⟨_,rfl⟩;have HB:=Lib.hid hbb;clear hbb;have HS:=Lib.hid hs;clear hs;obtain ⟨c1,w1,hcv,hcell,hb1,hlt1⟩:=bytes_of s w;have hb0 : Below b w w1:=by rw [← HB.out]; exact hb1
 have hbl : b < w1.heap.size:=by rw [← HB.out]; exact hlt1
 rw [HB.out] at hcv hcell;have HC:=Lib.hid hcell;clear hcell hb1 hlt1;go_enter Tryz.func41,Tryz.ntmps41;go_wp2_with fail;clear hcv
 go_loopw [5,12] (fun v i wr => ∃ (k:Nat) (A : Option Addr) (c:Nat),k ≤ s.length∧i = .int .i64 (k:Int)∧v = .slice A (dig 4294967296 (numV B (s.take k))).length c∧Row wr A (u32s (dig 4294967296 (numV B (s.take k))))∧Below w1.heap.size w1 wr) (fun _ i _ => s.length - (RowKit.intOf i).toNat)
 case atStart => exact ⟨0,none,0,Nat.zero_le _,rfl,by rw [List.take_zero,show numV B [] = 0 from rfl,dig_zero]; rfl,.inl (by rw [List.take_zero,show numV B [] = 0 from rfl,dig_zero]; rfl),Below.refl _ _⟩
 case round =>
  obtain ⟨k,A,cc,hk,rfl,rfl,hrow,hb⟩:=hrel
  by_cases hlt : k < s.length
  ·obtain ⟨x,hx⟩ : ∃ x,s[k]? = some x:=⟨s[k],List.getElem?_eq_getElem hlt⟩;have hcell : wr.cell? ⟨b,k,none⟩ = some (.int .u8 (x.toNat:Int)):=(hb.cell (p:=⟨b,k,none⟩) hbl).trans (HC.out k x hx);have hxd:=HS.out x (List.mem_of_getElem? hx);have htk : s.take (k + 1) = s.take k ++ [x]:=(by rw [List.take_add_one,hx]; rfl);have hdl:=dig_numV_len B (by omega) (s.take k) (fun c hc => by
    have:=HS.out c (List.mem_of_mem_take hc);unfold isDg at this;rw [Bool.and_eq_true,decide_eq_true_eq] at this;exact this.2)
   rw [List.length_take] at hdl;have hdg : dval x < B:=by
    unfold isDg at hxd;rw [Bool.and_eq_true,decide_eq_true_eq] at hxd;exact hxd.2
   have hrng : (48 ≤ x.toNat∧x.toNat ≤ 57)∨(97 ≤ x.toNat∧x.toNat ≤ 102):=by
    unfold isDg at hxd;rw [Bool.and_eq_true,Bool.or_eq_true,Bool.and_eq_true,Bool.and_eq_true] at hxd;simpa using hxd.1
   have HT:=Lib.hid (times_any (w:=wr) (dig 4294967296 (numV B (s.take k))) A cc B (dval x) (dig_lt (by decide) _) (by omega) (by omega) (by omega) hrow);rw [mulGo_dig (by decide) (by omega) hB0 _ _ (by omega),← numV_snoc,← htk] at HT;obtain ⟨L,hL⟩ : ∃ L,dig 4294967296 (numV B (s.take k)) = L:=⟨_,rfl⟩;rw [hL] at HT;rw [hL];clear hx htk hL hrow hxd hdl;have hbw:=below_then hb0 hb (by omega);rcases hrng with ⟨hg0,hg1⟩ | ⟨hg0,hg1⟩
   ·have hv : dval x = x.toNat - 48:=(by unfold dval; rw [if_neg (by rw [UInt8.le_iff_toNat_le]; show ¬ 97 ≤ x.toNat; omega)]);have HV:=Lib.hid hv;have f1 : ((x.toNat:Int) - 48) % 256 = (x.toNat:Int) - 48:=(by omega);have f2 : decide ((97:Int) ≤ (x.toNat:Int)) = false:=(by simp; omega);have f3 : IntKind.u8.wrap ((x.toNat:Int) - 48) = (x.toNat:Int) - 48:=(by rw [IntKind.wrap_u8]; omega);have f4 : IntKind.u32.wrap ((x.toNat:Int) - 48) = (x.toNat:Int) - 48:=IntWalk.u32_in _ (by omega);clear hv;go_wp2_with fail;rw [show ((x.toNat:Int) - 48) = ((dval x:Nat):Int) from by rw [HV.out]; omega];refine HT.out.mono ?_;rintro e w2 ⟨⟨A',c',rfl,hr'⟩,ba⟩;have hb2:=below_then hb ba (by have:=hb.size; omega);clear HT ba;go_wp2_with fail;go_roundw
    case rel => exact ⟨k + 1,A',c',by omega,by go_num,rfl,hr',hb2⟩
    case measure => simp [RowKit.intOf]; omega
   ·have hv : dval x = x.toNat - 87:=(by unfold dval; rw [if_pos (by rw [UInt8.le_iff_toNat_le]; show 97 ≤ x.toNat; omega)]);have HV:=Lib.hid hv;have f2 : decide ((97:Int) ≤ (x.toNat:Int)) = true:=(by simp; omega);have f3 : IntKind.u8.wrap ((x.toNat:Int) - 48) = (x.toNat:Int) - 48:=(by rw [IntKind.wrap_u8]; omega);have f4 : IntKind.u32.wrap ((x.toNat:Int) - 48) = (x.toNat:Int) - 48:=IntWalk.u32_in _ (by omega);have g1 : ((x.toNat:Int) - 48) % 256 = (x.toNat:Int) - 48:=(by omega);have g2 : ((x.toNat:Int) - 97) % 256 = (x.toNat:Int) - 97:=(by omega);have f5 : IntKind.u8.wrap ((x.toNat:Int) - 97) = (x.toNat:Int) - 97:=(by rw [IntKind.wrap_u8]; omega);have f6 : IntKind.u32.wrap ((x.toNat:Int) - 97) = (x.toNat:Int) - 97:=IntWalk.u32_in _ (by omega);have f7 : IntKind.u32.wrap ((x.toNat:Int) - 97 + 10) = (x.toNat:Int) - 97 + 10:=IntWalk.u32_in _ (by omega);clear hv;go_wp2_with fail;rw [show ((x.toNat:Int) - 97 + 10) = ((dval x:Nat):Int) from by rw [HV.out]; omega];refine HT.out.mono ?_;rintro e w2 ⟨⟨A',c',rfl,hr'⟩,ba⟩;have hb2:=below_then hb ba (by have:=hb.size; omega);clear HT ba;go_wp2_with fail;go_roundw
    case rel => exact ⟨k + 1,A',c',by omega,by go_num,rfl,hr',hb2⟩
    case measure => simp [RowKit.intOf]; omega
  ·have hks : s.take k = s:=List.take_of_length_le (by omega);rw [hks] at hrow ⊢;have hb2:=below_then hb0 hb (by omega);go_wp2_with fail;go_ret;exact ⟨⟨A,cc,rfl,hrow⟩,by rw [HB.out]; exact hb2⟩
end
end Go.Proofs.YtonehlkiackhcaaGreatDoor

namespace Go.Proofs
open Go.Shelf
def Tryz.lays137_ren : Go.Shelf.Ren:=⟨fun | 137 => 87 | 217 => 124 | 266 => 160 | n => n,fun | 9 => 9 | 5 => 5 | 3 => 3 | n => n,fun | n => n⟩
theorem Tryz.lays137 : Go.Proofs.Lays.n137 Tryz.prog Tryz.lays137_ren:={
 mixed:=by kernel_rfl
 f137:=Tryz.func87.trans (congrArg some (by kernel_rfl))
 f217:=Tryz.func124.trans (congrArg some (by kernel_rfl))
 f266:=Tryz.func160.trans (congrArg some (by kernel_rfl))
 t3:=Tryz.underlying3
 a3:=Tryz.isAgg3
 z3:=Tryz.sizeOf3
 v3:=Tryz.zeroValue3
 t5:=Tryz.underlying5
 a5:=Tryz.isAgg5
 z5:=Tryz.sizeOf5
 v5:=Tryz.zeroValue5
 t9:=Tryz.underlying9
 a9:=Tryz.isAgg9
 z9:=Tryz.sizeOf9
 v9:=Tryz.zeroValue9 }
open Go.RowKit in
theorem Tryz.strings_IndexByte (s : ByteArray) (c:Int) (w : World) :
  Calls Tryz.prog 87 #[.string s,.int .u8 c] w fun e w' => e = .returned (.int .i64 (Lib.indexByte s.data.toList c.toNat.toUInt8))∧w' = w:=Any.strings_IndexByte Tryz.lays137 s c w
def Tryz.lays195_ren : Go.Shelf.Ren:=⟨fun | 195 => 186 | n => n,fun | 9 => 9 | 3 => 3 | 0 => 0 | 4 => 4 | n => n,fun | n => n⟩
theorem Tryz.lays195 : Go.Proofs.Lays.n195 Tryz.prog Tryz.lays195_ren:={
 mixed:=by kernel_rfl
 f195:=Tryz.func186.trans (congrArg some (by kernel_rfl))
 t0:=Tryz.underlying0
 a0:=Tryz.isAgg0
 z0:=Tryz.sizeOf0
 v0:=Tryz.zeroValue0
 t3:=Tryz.underlying3
 a3:=Tryz.isAgg3
 z3:=Tryz.sizeOf3
 v3:=Tryz.zeroValue3
 t4:=Tryz.underlying4
 a4:=Tryz.isAgg4
 z4:=Tryz.sizeOf4
 v4:=Tryz.zeroValue4
 t9:=Tryz.underlying9
 a9:=Tryz.isAgg9
 z9:=Tryz.sizeOf9
 v9:=Tryz.zeroValue9 }
open Go.RowKit in
theorem Tryz.utf8_RuneCountInString (s : ByteArray) (w : World) (hs : s.size < 9223372036854775807) :
  Calls Tryz.prog 186 #[.string s] w fun e w' => e = .returned (.int .i64 (Lib.runeCount s))∧∃ pos,w' = w.iter s pos:=Any.utf8_RuneCountInString Tryz.lays195 s w hs
def Tryz.lays144_ren : Go.Shelf.Ren:=⟨fun | 144 => 130 | 143 => 131 | 219 => 108 | 217 => 124 | 225 => 107 | 224 => 106 | 267 => 141 | 266 => 160 | 314 => 180 | n => n,fun | 9 => 9 | 4 => 4 | 3 => 3 | 5 => 5 | 46 => 121 | 146 => 198 | 51 => 63 | n => n,fun | 1 => 2 | n => n⟩
open Go.RowKit Go.Lib in
def Tryz.laysM144_ren : Go.Shelf.Ren:=⟨fun | 144 => 130 | 143 => 131 | 219 => 108 | 217 => 124 | 225 => 107 | 224 => 106 | 267 => 141 | 266 => 160 | 314 => 180 | n => n,fun | 9 => 9 | 4 => 4 | 3 => 3 | 5 => 5 | 46 => 121 | 146 => 198 | 51 => 63 | n => n,fun | 1 => 2 | n => n⟩
open Go.RowKit Go.Lib in
def Tryz.lays99_ren : Go.Shelf.Ren:=⟨fun | 99 => 39 | 206 => 82 | n => n,fun | 9 => 9 | 4 => 4 | 3 => 3 | n => n,fun | n => n⟩
theorem Tryz.lays99 : Go.Proofs.Lays.n99 Tryz.prog Tryz.lays99_ren:={
 mixed:=by kernel_rfl
 f99:=Tryz.func39.trans (congrArg some (by kernel_rfl))
 f206:=Tryz.func82.trans (congrArg some (by kernel_rfl))
 t3:=Tryz.underlying3
 a3:=Tryz.isAgg3
 z3:=Tryz.sizeOf3
 v3:=Tryz.zeroValue3
 t4:=Tryz.underlying4
 a4:=Tryz.isAgg4
 z4:=Tryz.sizeOf4
 v4:=Tryz.zeroValue4
 t9:=Tryz.underlying9
 a9:=Tryz.isAgg9
 z9:=Tryz.sizeOf9
 v9:=Tryz.zeroValue9 }
open Go.RowKit Go.Lib in
theorem Tryz.strings_HasPrefix (s p : ByteArray) (w : World) :
  Calls Tryz.prog 39 #[.string s,.string p] w fun e w' => e = .returned (.bool (Lib.hasPrefix s.data.toList p.data.toList))∧w' = w:=Any.strings_HasPrefix Tryz.lays99 s p w
def Tryz.lays157_ren : Go.Shelf.Ren:=⟨fun | 157 => 145 | 229 => 182 | 199 => 183 | 261 => 214 | 311 => 234 | 312 => 235 | n => n,fun | 9 => 9 | 31 => 50 | 3 => 3 | 5 => 5 | 4 => 4 | 119 => 160 | 0 => 0 | 40 => 47 | 152 => 265 | 21 => 21 | 154 => 267 | 51 => 63 | 141 => 269 | 196 => 290 | 193 => 287 | 198 => 293 | 49 => 291 | 194 => 288 | 201 => 296 | 226 => 310 | 46 => 121 | 227 => 311 | n => n,fun | 0 => 3 | 6 => 5 | n => n⟩
theorem Tryz.lays157 : Go.Proofs.Lays.n157 Tryz.prog Tryz.lays157_ren:={
 mixed:=by kernel_rfl
 f157:=Tryz.func145.trans (congrArg some (by kernel_rfl))
 f199:=Tryz.func183.trans (congrArg some (by kernel_rfl))
 f229:=Tryz.func182.trans (congrArg some (by kernel_rfl))
 f261:=Tryz.func214.trans (congrArg some (by kernel_rfl))
 f311:=Tryz.func234.trans (congrArg some (by kernel_rfl))
 f312:=Tryz.func235.trans (congrArg some (by kernel_rfl))
 t0:=Tryz.underlying0
 a0:=Tryz.isAgg0
 z0:=Tryz.sizeOf0
 v0:=Tryz.zeroValue0
 t3:=Tryz.underlying3
 a3:=Tryz.isAgg3
 z3:=Tryz.sizeOf3
 v3:=Tryz.zeroValue3
 t4:=Tryz.underlying4
 a4:=Tryz.isAgg4
 z4:=Tryz.sizeOf4
 v4:=Tryz.zeroValue4
 t5:=Tryz.underlying5
 a5:=Tryz.isAgg5
 z5:=Tryz.sizeOf5
 v5:=Tryz.zeroValue5
 t9:=Tryz.underlying9
 a9:=Tryz.isAgg9
 z9:=Tryz.sizeOf9
 v9:=Tryz.zeroValue9
 t21:=Tryz.underlying21
 a21:=Tryz.isAgg21
 z21:=Tryz.sizeOf21
 v21:=Tryz.zeroValue21
 t31:=Tryz.underlying50
 a31:=Tryz.isAgg50
 z31:=Tryz.sizeOf50
 v31:=Tryz.zeroValue50
 t40:=Tryz.underlying47
 a40:=Tryz.isAgg47
 z40:=Tryz.sizeOf47
 v40:=Tryz.zeroValue47
 t46:=Tryz.underlying121
 a46:=Tryz.isAgg121
 z46:=Tryz.sizeOf121
 v46:=Tryz.zeroValue121
 t49:=Tryz.underlying291
 a49:=Tryz.isAgg291
 z49:=Tryz.sizeOf291
 v49:=Tryz.zeroValue291
 t51:=Tryz.underlying63
 a51:=Tryz.isAgg63
 z51:=Tryz.sizeOf63
 v51:=Tryz.zeroValue63
 t119:=Tryz.underlying160
 a119:=Tryz.isAgg160
 z119:=Tryz.sizeOf160
 t141:=Tryz.underlying269
 a141:=Tryz.isAgg269
 z141:=Tryz.sizeOf269
 v141:=Tryz.zeroValue269
 t152:=Tryz.underlying265
 a152:=Tryz.isAgg265
 z152:=Tryz.sizeOf265
 v152:=Tryz.zeroValue265
 t154:=Tryz.underlying267
 a154:=Tryz.isAgg267
 z154:=Tryz.sizeOf267
 v154:=Tryz.zeroValue267
 t193:=Tryz.underlying287
 a193:=Tryz.isAgg287
 z193:=Tryz.sizeOf287
 v193:=Tryz.zeroValue287
 t194:=Tryz.underlying288
 a194:=Tryz.isAgg288
 z194:=Tryz.sizeOf288
 v194:=Tryz.zeroValue288
 t196:=Tryz.underlying290
 a196:=Tryz.isAgg290
 z196:=Tryz.sizeOf290
 v196:=Tryz.zeroValue290
 t198:=Tryz.underlying293
 a198:=Tryz.isAgg293
 z198:=Tryz.sizeOf293
 v198:=Tryz.zeroValue293
 t201:=Tryz.underlying296
 a201:=Tryz.isAgg296
 z201:=Tryz.sizeOf296
 v201:=Tryz.zeroValue296
 t226:=Tryz.underlying310
 a226:=Tryz.isAgg310
 z226:=Tryz.sizeOf310
 v226:=Tryz.zeroValue310
 t227:=Tryz.underlying311
 a227:=Tryz.isAgg311
 z227:=Tryz.sizeOf311
 v227:=Tryz.zeroValue311
 g0:=by kernel_rfl
 g6:=by kernel_rfl }
open Go.RowKit Go.Lib in
theorem Tryz.strings_Fields (s : ByteArray) (w : World) (hs : s.size < 4294967281) (hascii : ∀ (j:Nat) b,s.data.toList[j]? = some b → b.toNat < 128) (htab : Lib.TabIs Tryz.prog w "strings.asciiSpace" .u8 Lib.asciiSpaceTab) :
  Calls Tryz.prog 145 #[.string s] w fun e w' =>
   e = .returned (.slice (some ⟨w.heap.size,0,none⟩) (Lib.fields s.data.toList).length (Lib.fields s.data.toList).length)∧w' = w.alloc (.cells ((Lib.fields s.data.toList).map fun l => Value.string ⟨l.toArray⟩).toArray 9):=Any.strings_Fields Tryz.lays157 (by kernel_rfl) (by kernel_rfl) s w hs hascii htab
def Tryz.lays197_ren : Go.Shelf.Ren:=⟨fun | 197 => 84 | 260 => 121 | n => n,fun | 9 => 9 | 21 => 21 | 3 => 3 | 4 => 4 | 5 => 5 | 105 => 131 | 119 => 160 | 0 => 0 | 46 => 121 | 139 => 163 | 138 => 162 | n => n,fun | 3 => 0 | 4 => 1 | n => n⟩
theorem Tryz.lays197 : Go.Proofs.Lays.n197 Tryz.prog Tryz.lays197_ren:={
 mixed:=by kernel_rfl
 f197:=Tryz.func84.trans (congrArg some (by kernel_rfl))
 f260:=Tryz.func121.trans (congrArg some (by kernel_rfl))
 t0:=Tryz.underlying0
 a0:=Tryz.isAgg0
 z0:=Tryz.sizeOf0
 v0:=Tryz.zeroValue0
 t3:=Tryz.underlying3
 a3:=Tryz.isAgg3
 z3:=Tryz.sizeOf3
 v3:=Tryz.zeroValue3
 t4:=Tryz.underlying4
 a4:=Tryz.isAgg4
 z4:=Tryz.sizeOf4
 v4:=Tryz.zeroValue4
 t5:=Tryz.underlying5
 a5:=Tryz.isAgg5
 z5:=Tryz.sizeOf5
 v5:=Tryz.zeroValue5
 t9:=Tryz.underlying9
 a9:=Tryz.isAgg9
 z9:=Tryz.sizeOf9
 v9:=Tryz.zeroValue9
 t21:=Tryz.underlying21
 a21:=Tryz.isAgg21
 z21:=Tryz.sizeOf21
 v21:=Tryz.zeroValue21
 t46:=Tryz.underlying121
 a46:=Tryz.isAgg121
 z46:=Tryz.sizeOf121
 v46:=Tryz.zeroValue121
 t105:=Tryz.underlying131
 a105:=Tryz.isAgg131
 z105:=Tryz.sizeOf131
 v105:=Tryz.zeroValue131
 t119:=Tryz.underlying160
 a119:=Tryz.isAgg160
 z119:=Tryz.sizeOf160
 t138:=Tryz.underlying162
 a138:=Tryz.isAgg162
 z138:=Tryz.sizeOf162
 v138:=Tryz.zeroValue162
 t139:=Tryz.underlying163
 a139:=Tryz.isAgg163
 z139:=Tryz.sizeOf163
 v139:=Tryz.zeroValue163
 g3:=by kernel_rfl
 g4:=by kernel_rfl }
def Tryz.lays105_ren : Go.Shelf.Ren:=⟨fun | 105 => 73 | 212 => 104 | 99 => 39 | 165 => 105 | 166 => 62 | 170 => 65 | 169 => 66 | 263 => 138 | 264 => 139 | 206 => 82 | 240 => 99 | 241 => 140 | 276 => 133 | 277 => 179 | n => n,fun | 9 => 9 | 3 => 3 | 4 => 4 | 20 => 20 | 0 => 0 | 46 => 121 | 109 => 165 | 5 => 5 | 72 => 99 | 76 => 102 | 51 => 63 | 146 => 198 | 53 => 164 | 148 => 200 | 70 => 97 | 37 => 71 | 75 => 101 | 127 => 158 | 164 => 193 | 80 => 54 | n => n,fun | n => n⟩
theorem Tryz.lays105 : Go.Proofs.Lays.n105 Tryz.prog Tryz.lays105_ren:={
 mixed:=by kernel_rfl
 f99:=Tryz.func39.trans (congrArg some (by kernel_rfl))
 f105:=Tryz.func73.trans (congrArg some (by kernel_rfl))
 f165:=Tryz.func105.trans (congrArg some (by kernel_rfl))
 f166:=Tryz.func62.trans (congrArg some (by kernel_rfl))
 f169:=Tryz.func66.trans (congrArg some (by kernel_rfl))
 f170:=Tryz.func65.trans (congrArg some (by kernel_rfl))
 f206:=Tryz.func82.trans (congrArg some (by kernel_rfl))
 f212:=Tryz.func104.trans (congrArg some (by kernel_rfl))
 f240:=Tryz.func99.trans (congrArg some (by kernel_rfl))
 f241:=Tryz.func140.trans (congrArg some (by kernel_rfl))
 f263:=Tryz.func138.trans (congrArg some (by kernel_rfl))
 f264:=Tryz.func139.trans (congrArg some (by kernel_rfl))
 f276:=Tryz.func133.trans (congrArg some (by kernel_rfl))
 f277:=Tryz.func179.trans (congrArg some (by kernel_rfl))
 t0:=Tryz.underlying0
 a0:=Tryz.isAgg0
 z0:=Tryz.sizeOf0
 v0:=Tryz.zeroValue0
 t3:=Tryz.underlying3
 a3:=Tryz.isAgg3
 z3:=Tryz.sizeOf3
 v3:=Tryz.zeroValue3
 t4:=Tryz.underlying4
 a4:=Tryz.isAgg4
 z4:=Tryz.sizeOf4
 v4:=Tryz.zeroValue4
 t5:=Tryz.underlying5
 a5:=Tryz.isAgg5
 z5:=Tryz.sizeOf5
 v5:=Tryz.zeroValue5
 t9:=Tryz.underlying9
 a9:=Tryz.isAgg9
 z9:=Tryz.sizeOf9
 v9:=Tryz.zeroValue9
 t20:=Tryz.underlying20
 a20:=Tryz.isAgg20
 z20:=Tryz.sizeOf20
 v20:=Tryz.zeroValue20
 t37:=Tryz.underlying71
 a37:=Tryz.isAgg71
 z37:=Tryz.sizeOf71
 v37:=Tryz.zeroValue71
 t46:=Tryz.underlying121
 a46:=Tryz.isAgg121
 z46:=Tryz.sizeOf121
 v46:=Tryz.zeroValue121
 t51:=Tryz.underlying63
 a51:=Tryz.isAgg63
 z51:=Tryz.sizeOf63
 v51:=Tryz.zeroValue63
 t53:=Tryz.underlying164
 a53:=Tryz.isAgg164
 z53:=Tryz.sizeOf164
 v53:=Tryz.zeroValue164
 t70:=Tryz.underlying97
 a70:=Tryz.isAgg97
 z70:=Tryz.sizeOf97
 v70:=Tryz.zeroValue97
 t72:=Tryz.underlying99
 a72:=Tryz.isAgg99
 z72:=Tryz.sizeOf99
 v72:=Tryz.zeroValue99
 t75:=Tryz.underlying101
 a75:=Tryz.isAgg101
 z75:=Tryz.sizeOf101
 v75:=Tryz.zeroValue101
 t76:=Tryz.underlying102
 a76:=Tryz.isAgg102
 z76:=Tryz.sizeOf102
 v76:=Tryz.zeroValue102
 t109:=Tryz.underlying165
 a109:=Tryz.isAgg165
 z109:=Tryz.sizeOf165
 v109:=Tryz.zeroValue165
 t127:=Tryz.underlying158
 a127:=Tryz.isAgg158
 z127:=Tryz.sizeOf158
 v127:=Tryz.zeroValue158
 t146:=Tryz.underlying198
 a146:=Tryz.isAgg198
 z146:=Tryz.sizeOf198
 v146:=Tryz.zeroValue198
 t148:=Tryz.underlying200
 a148:=Tryz.isAgg200
 z148:=Tryz.sizeOf200
 v148:=Tryz.zeroValue200
 t164:=Tryz.underlying193
 a164:=Tryz.isAgg193
 z164:=Tryz.sizeOf193
 v164:=Tryz.zeroValue193 }
theorem Tryz.Builder_Extra_105 : Builder.Extra Tryz.prog Tryz.lays105_ren:={
 sizeBuilder:=by kernel_rfl
 liesBuilder:=by kernel_rfl
 t5:=Tryz.underlying5
 a5:=Tryz.isAgg5
 z5:=Tryz.sizeOf5
 v5:=Tryz.zeroValue5
 infoByte:=by kernel_rfl
 cellsByte:=by kernel_rfl
 sizeByte:=by kernel_rfl
 neB5:=by decide }
open Go.RowKit Go.Lib in
theorem Tryz.strings_Repeat (s : ByteArray) (c:Nat) (w : World) (hc : c ≤ 9223372036854775807) (hlen : s.size * c ≤ 140737488355328) :
  Calls Tryz.prog 73 #[.string s,.int .i64 c] w fun e w' => e = .returned (.string ⟨(Lib.repeatL s.data.toList c).toArray⟩)∧Below w.heap.size w w':=Any.strings_Repeat Tryz.lays105 Tryz.Builder_Extra_105 s c w hc hlen
open Go.RowKit Go.Lib in
theorem Tryz.utf8_DecodeRuneInString (s : ByteArray) (w : World) (hT : Lib.Utf8Tabs 0 1 w) :
  Calls Tryz.prog 84 #[.string s] w fun e w' => e = .returned (.tuple #[.int .i32 (Lib.decodeGo s).1,.int .i64 (Lib.decodeGo s).2])∧Below w.heap.size w w':=Any.utf8_DecodeRuneInString Tryz.lays197 s w hT
end Go.Proofs
