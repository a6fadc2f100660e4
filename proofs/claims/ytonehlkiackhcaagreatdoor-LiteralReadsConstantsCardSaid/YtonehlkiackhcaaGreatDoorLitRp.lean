/- The literals: a number over a power of ten is reduced alike in both ways, in plain words. Nothing is claimed here. -/
import Derived.Test.YtonehlkiackhcaaGreatDoorLitDc
import Derived.Test.YtonehlkiackhcaaGreatDoorScanC
import Derived.Lib.ItoaNum
import Derived.Test.YtonehlkiackhcaaGreatDoorLitNe
set_option linter.unusedVariables false
set_option maxRecDepth 100000
set_option maxHeartbeats 16000000
namespace Go.Proofs.YtonehlkiackhcaaGreatDoor
open Go.RowKit Go.Lib Go.Sort
theorem set_i64 (j : Nat) (D : List Nat) (q : Nat) : ((i64s (List.replicate (j + 1) 0 ++ D)).toArray).setIfInBounds j (.int .i64 (q : Int)) = (i64s (List.replicate j 0 ++ q :: D)).toArray:=by
 have h : i64s (List.replicate (j + 1) 0 ++ D) = i64s (List.replicate j 0) ++ .int .i64 0 :: i64s D:=by simp [i64s,List.replicate_succ',List.append_assoc]
 rw [h,List.setIfInBounds_toArray,List.set_append_right _ _ (by simp [i64s])];simp [i64s]
theorem made_i64 (n : Nat) : madeCells (Value.cells (.int .i64 0)) n = (i64s (List.replicate n 0)).toArray:=by
 unfold madeCells;apply Array.ext
 ·simp [i64s,Value.cells]
 ·intro j h1 h2;simp [i64s,Value.cells,Nat.mod_one]
theorem blk_row64 {w : World} {b : Nat} {Q : List Nat} (hB : Blk w b 3 (i64s Q).toArray) : Row w (some ⟨b,0,none⟩) (i64s Q):=.inr ⟨b,0,rfl,hB.lt,fun i u hu => by
 rw [Nat.zero_add,hB.cell i];simpa using hu⟩
theorem ddivide_any {w : World} (l : List Nat) (A : Option Addr) (c d : Nat) (hl : ∀ x ∈ l,x < 10) (hlen : l.length ≤ 10000) (hd0 : 0 < d) (hd : d ≤ 4294967296) (hr : Row w A (i64s l)) :
  Calls Tryz.prog 52 #[.slice A l.length c,.int .i64 (d : Int)] w fun e w' => (∃ c',e = .returned (.tuple #[.slice (some ⟨w.heap.size,0,none⟩) (trimZ (divGo 10 d l).1).length c',.int .i64 ((divGo 10 d l).2 : Int)]) ∧ (trimZ (divGo 10 d l).1).length ≤ c' ∧ Row w' (some ⟨w.heap.size,0,none⟩) (i64s (trimZ (divGo 10 d l).1))) ∧ Below w.heap.size w w':=by
 obtain ⟨iu,hiu,huz0,huz1,huz2⟩:=info_parts info_i64;obtain ⟨R,hR⟩ : ∃ R,divGo 10 d l = R:=⟨_,rfl⟩;rw [hR];have HRR:=Lib.hid hR;clear hR;have hrun:=run_make (P:=Tryz.prog) w 52 3 iu (.int .i64 0) Tryz.underlying52 hiu huz0 .i64 .i64 (l.length : Int) (l.length : Int) (by omega) (Int.le_refl _) (by rw [huz2]; omega) (by omega);rw [huz1,Int.toNat_natCast,Nat.mul_one,made_i64] at hrun;have hB:=Blk.new w 3 (i64s (List.replicate l.length 0)).toArray;have hb:=(Below.refl w.heap.size w).alloc (Nat.le_refl _) (.cells (i64s (List.replicate l.length 0)).toArray 3);obtain ⟨w1,hw1⟩ : ∃ x,w.alloc (.cells (i64s (List.replicate l.length 0)).toArray 3) = x:=⟨_,rfl⟩;rw [hw1] at hrun hB hb;obtain ⟨b,hbb⟩ : ∃ b,w.heap.size = b:=⟨_,rfl⟩;have HB:=Lib.hid hbb;rw [hbb] at hrun hB hb;clear hbb hw1;have HLT:=Lib.hid hl;clear hl;go_enter Tryz.func52,Tryz.ntmps52;go_wp2_with fail;clear hrun
 go_loopw [7,8] (fun r i wr => ∃ (k : Nat),k ≤ l.length ∧ i = .int .i64 ((k : Int) - 1) ∧ r = .int .i64 ((divGo 10 d (l.drop k)).2 : Int) ∧ Blk wr b 3 (i64s (List.replicate k 0 ++ (divGo 10 d (l.drop k)).1)).toArray ∧ Below b w wr) (fun _ i _ => (RowKit.intOf i + 1).toNat)
 case atStart => exact ⟨l.length,Nat.le_refl _,rfl,by rw [List.drop_length]; rfl,by rw [List.drop_length]; simpa [divGo] using hB,hb⟩
 case round =>
  clear hB hb;obtain ⟨k,hk,rfl,rfl,hB,hb⟩:=hrel;rcases k with _ | j
  ·rw [show ((0 : Nat) : Int) - 1 = -1 from rfl];have hq0 : divGo 10 d (l.drop 0) = R:=(by rw [List.drop_zero]; exact HRR.out);rw [hq0] at hB ⊢;have hQl : R.1.length = l.length:=(by rw [← hq0,divGo_len,List.drop_zero]);obtain ⟨Q,r⟩:=R;simp only at hB hQl ⊢;rw [show List.replicate 0 0 ++ Q = Q from rfl] at hB;clear hq0;have hrow:=blk_row64 hB;have HDT:=Lib.hid (fun W (h : Row W (some ⟨b,0,none⟩) (i64s Q)) => dtrim_any (w:=W) Q (some ⟨b,0,none⟩) l.length (by omega) (by omega) h);rw [hQl] at HDT;go_wp2_with fail;refine (HDT.out _ hrow).mono ?_;rintro e w2 ⟨rfl,rfl⟩;have HTK:=Lib.hid (trimZ_take Q);go_wp2_with fail;go_ret2;rw [HB.out];exact ⟨⟨l.length,rfl,by rw [← hQl]; have:=congrArg List.length HTK.out; rw [List.length_take] at this; omega,by rw [HTK.out]; have:=row_take hrow (trimZ Q).length; unfold i64s at this ⊢; rw [List.map_take]; exact this⟩,hb⟩
  ·rw [show ((j + 1 : Nat) : Int) - 1 = (j : Int) by omega];have hlt : j < l.length:=(by omega);obtain ⟨b0,off,rfl,hcell⟩:=row_i64 (hr.keepB (by rw [HB.out]; exact hb)) hlt;have hdr : l.drop j = l[j] :: l.drop (j + 1):=List.drop_eq_getElem_cons hlt;obtain ⟨x,hx⟩ : ∃ x,l[j] = x:=⟨_,rfl⟩;have hx10 : x < 10:=hx ▸ HLT.out _ (List.getElem_mem hlt);rw [hx] at hcell hdr;have hnew : divGo 10 d (l.drop j) = (((divGo 10 d (l.drop (j + 1))).2 * 10 + x) / d :: (divGo 10 d (l.drop (j + 1))).1,((divGo 10 d (l.drop (j + 1))).2 * 10 + x) % d):=(by rw [hdr]; rfl);have hrest:=divGo_rest (B:=10) hd0 (l.drop (j + 1));obtain ⟨D,r,hD⟩ : ∃ D r,divGo 10 d (l.drop (j + 1)) = (D,r):=⟨_,_,rfl⟩;rw [hD] at hnew hrest hB;rw [hD];simp only at hnew hrest hB ⊢;clear hdr hx hD;have hdne : ¬ (d : Int) = 0:=(by omega);obtain ⟨N,hN⟩ : ∃ N,r * 10 + x = N:=⟨_,rfl⟩;have e3 : (r : Int) * 10 + (x : Int) = (N : Int):=(by omega);have hN9 : N ≤ 42949672960:=(by omega);have hNd : N / d < 10:=by
    rw [Nat.div_lt_iff_lt_mul hd0,← hN];omega
   have e4 : ((N : Int).tdiv (d : Int)) = ((N / d : Nat) : Int):=(by rw [Int.tdiv_eq_ediv_of_nonneg (by omega)]; rfl);have e5 : ((N : Int).tmod (d : Int)) = ((N % d : Nat) : Int):=(by rw [Int.tmod_eq_emod_of_nonneg (by omega)]; rfl);have hNr : N % d < d:=Nat.mod_lt _ hd0;obtain ⟨nq,hnq⟩ : ∃ nq,N / d = nq:=⟨_,rfl⟩;obtain ⟨nr,hnr⟩ : ∃ nr,N % d = nr:=⟨_,rfl⟩;rw [hN,hnq,hnr] at hnew;rw [hnq] at e4 hNd;rw [hnr] at e5 hNr;have HN:=Lib.hid hnew;clear hnew hnq hnr hN;have e6 : IntKind.i64.wrap (nq : Int) = (nq : Int):=IntWalk.i64_in _ (by omega);have e7 : IntKind.i64.wrap (nr : Int) = (nr : Int):=IntWalk.i64_in _ (by omega);have e8 : IntKind.i64.wrap (N : Int) = (N : Int):=IntWalk.i64_in _ (by omega);have hcb : wr.cell? ⟨b,j,none⟩ = some (.int .i64 0):=by
    rw [hB.cell j];simp [i64s,List.replicate_succ',List.append_assoc]
   obtain ⟨q1,q2,q3⟩:=hB.rules;go_wp2_with fail;have hB2:=hB.set_ j (.int .i64 (nq : Int));rw [set_i64] at hB2;go_roundw
   case rel => exact ⟨j,by omega,rfl,by rw [HN.out],by rw [HN.out]; exact hB2,hb.setCell (p:=⟨b,j,none⟩) (Nat.le_refl _) _⟩
   case measure => simp [RowKit.intOf]
theorem dquo_any {w : World} (n d : Nat) (A : Option Addr) (c : Nat) (hlen : (dig 10 n).length ≤ 10000) (hd0 : 0 < d) (hd : d ≤ 4294967296) (hr : Row w A (i64s (dig 10 n))) :
  Calls Tryz.prog 52 #[.slice A (dig 10 n).length c,.int .i64 (d : Int)] w fun e w' => (∃ c',e = .returned (.tuple #[.slice (some ⟨w.heap.size,0,none⟩) (dig 10 (n / d)).length c',.int .i64 ((n % d : Nat) : Int)]) ∧ (dig 10 (n / d)).length ≤ c' ∧ Row w' (some ⟨w.heap.size,0,none⟩) (i64s (dig 10 (n / d)))) ∧ Below w.heap.size w w':=by
 have h:=ddivide_any (dig 10 n) A c d (dig_lt (by decide) n) hlen hd0 hd hr;obtain ⟨h1,h2⟩:=divGo_dig (B:=10) (by decide) hd0 n;rw [h1,h2] at h;exact h
theorem dig10_mono {a b : Nat} (h : a ≤ b) : (dig 10 a).length ≤ (dig 10 b).length:=by
 refine dig_len (by decide) _ _ ?_;have h1:=V_lt (B:=10) (by decide) (dig 10 b) (dig_lt (by decide) b);have h2 : V 10 (dig 10 b) = b:=V_dig (by decide) b;omega
theorem dig10_less {m : Nat} (h : m ≠ 0) : (dig 10 (m / 4294967296)).length < (dig 10 m).length:=by
 rw [dig_pos (n:=m) (by decide) h,List.length_cons];exact Nat.lt_succ_of_le (dig10_mono (by omega))
theorem lg_pos {m : Nat} (h : m ≠ 0) : lg m = m % 4294967296 :: lg (m / 4294967296):=dig_pos (by decide) h
theorem div_two (m : Nat) : m / 65536 / 65536 = m / 4294967296:=by rw [Nat.div_div_eq_div_mul]
theorem mod_two (m : Nat) : (m / 65536 % 65536) * 65536 + m % 65536 = m % 4294967296:=by omega
theorem row_grown {w w' : World} {A : Option Addr} {xs : List Value} {row : Option Nat} (h : Row w A xs) (hg : w.grownBy w' row) (hne : ∀ g off,A = some ⟨g,off,none⟩ → row = some g → False) : Row w' A xs:=by
 rcases h with h0 | ⟨g,off,rfl,hlt,hc⟩
 ·exact .inl h0
 ·have hh:=hg.block g hlt (fun e => hne g off rfl e.symm);refine .inr ⟨g,off,rfl,?_,fun j u hu => ?_⟩
  ·have h1 : w.heap[g]? = some w.heap[g]:=Array.getElem?_eq_getElem hlt;rw [← hh] at h1;exact (Array.getElem?_eq_some_iff.1 h1).1
  ·rw [World.cell?_of_block (w:=w) hh];exact hc j u hu
theorem dlimbs_any {w : World} (n : Nat) (A : Option Addr) (c : Nat) (hlen : (dig 10 n).length ≤ 10000) (hr : Row w A (i64s (dig 10 n))) :
  Calls Tryz.prog 53 #[.slice A (dig 10 n).length c] w fun e w' => (∃ A' c',e = .returned (.slice A' (lg n).length c') ∧ Row w' A' (u32s (lg n))) ∧ Below w.heap.size w w':=by
 obtain ⟨iu,hiu,huz0,huz1,huz2⟩:=info_parts info_u32;obtain ⟨b,hbb⟩ : ∃ b,w.heap.size = b:=⟨_,rfl⟩;have HB:=Lib.hid hbb;clear hbb;have hll : (lg n).length ≤ (dig 10 n).length:=dig_len (by decide) _ _ (by
  have h1:=V_lt (B:=10) (by decide) (dig 10 n) (dig_lt (by decide) n);rw [V_dig (by decide)] at h1;exact Nat.lt_of_lt_of_le h1 (Nat.pow_le_pow_left (by decide) _))
 go_enter Tryz.func53,Tryz.ntmps53;go_wp2_with fail
 go_loopw [0,3,4,5] (fun v0 v3 _ _ wr => ∃ (m : Nat) (L : List Nat) (A : Option Addr) (c : Nat),v0 = .slice A (dig 10 m).length c ∧ Hid (lg n = L ++ lg m) ∧ (dig 10 m).length ≤ (dig 10 n).length ∧ Row wr A (i64s (dig 10 m)) ∧ wr.ownsRow b 63 1 v3 L.length (u32s L) ∧ Below b w wr) (fun v0 _ _ _ _ => lenOf v0)
 case atStart => exact ⟨n,[],A,c,rfl,Lib.hid rfl,Nat.le_refl _,hr,World.ownsRow_nil _ _ _ _,by rw [← HB.out]; exact Below.refl _ _⟩
 case round =>
  clear hr;obtain ⟨m,L,A1,c1,rfl,HL,hml,hr1,hown,hb⟩:=hrel;have hbs:=hb.size;rw [HB.out] at hbs;have hLl : L.length ≤ 10000:=by
   have:=congrArg List.length HL.out;rw [List.length_append] at this;omega
  by_cases h0 : m = 0
  ·subst h0;have HF:=Lib.hid (show lg n = L from by rw [HL.out,lg_zero,List.append_nil]);rw [dig_zero] at hml hr1 ⊢;go_wp2_with fail;obtain ⟨A',c',rfl,_,_⟩:=own_form hown;go_ret;exact ⟨⟨A',c',by rw [HF.out]; rfl,by rw [HF.out]; exact Row.of_own hown⟩,by rw [HB.out]; exact hb⟩
  ·have hpos : (0 : Int) < ((dig 10 m).length : Int):=(by rw [dig_pos (n:=m) (by decide) h0]; simp);have HL2:=Lib.hid (show lg n = (L ++ [m % 4294967296]) ++ lg (m / 4294967296) from by rw [HL.out,lg_pos h0,List.append_assoc]; rfl);have hless:=dig10_less h0;have hl1:=Nat.le_trans (dig10_mono (show m / 65536 ≤ m from Nat.div_le_self _ _)) (Nat.le_trans hml hlen);clear HL h0;go_wp2_with fail;refine (dquo_any m 65536 A1 c1 (by omega) (by decide) (by decide) hr1).mono ?_;rintro e w2 ⟨⟨c2,rfl,hc2,hr2⟩,hbb⟩;obtain ⟨q2,hq2⟩ : ∃ q2,wr.heap.size = q2:=⟨_,rfl⟩;have hb2:=below_then hb hbb hbs;have hown2:=own_below hown hbb;rw [hq2] at hr2 ⊢;have HQ2:=Lib.hid hq2;clear hq2;have hlo : m % 65536 < 65536:=Nat.mod_lt _ (by decide);have hmt:=mod_two m;have hdt:=div_two m;obtain ⟨q,hq⟩ : ∃ q,m / 65536 = q:=⟨_,rfl⟩;obtain ⟨lo,hlo2⟩ : ∃ lo,m % 65536 = lo:=⟨_,rfl⟩;rw [hq] at hr2 hl1 hmt hdt ⊢;rw [hlo2] at hlo hmt ⊢;clear hq hlo2 hown hb hbb hr1;go_wp2_with fail;refine (dquo_any q 65536 (some ⟨q2,0,none⟩) c2 (by omega) (by decide) (by decide) hr2).mono ?_;rintro e w3 ⟨⟨c3,rfl,hc3,hr3⟩,hbb⟩;have HO2:=Lib.hid (fun g e => hown2.lt g e);have h3s:=hbb.size;obtain ⟨q3,hq3⟩ : ∃ q3,w2.heap.size = q3:=⟨_,rfl⟩;have hbb3:=hbb;rw [hq3] at hr3 HO2 ⊢;have hb3:=below_then hb2 hbb (by have:=hb2.size; rw [HB.out] at this; exact this);have hown3:=own_below hown2 hbb;have hb3s : b ≤ w3.heap.size:=(by have:=hb3.size; rw [HB.out] at this; exact this);have hhi : q % 65536 < 65536:=Nat.mod_lt _ (by decide);obtain ⟨hi,hhi2⟩ : ∃ hi,q % 65536 = hi:=⟨_,rfl⟩;rw [hhi2] at hhi hmt ⊢;rw [hdt] at hr3 ⊢;obtain ⟨z,hz⟩ : ∃ z,m % 4294967296 = z:=⟨_,rfl⟩;have hzl : z < 4294967296:=(by rw [← hz]; exact Nat.mod_lt _ (by decide));rw [hz] at hmt HL2;have hsum : (hi : Int) * 65536 + (lo : Int) = (z : Int):=(by omega);have e7 : (z : Int) % 4294967296 = (z : Int):=(by omega);have hle2:=Nat.le_trans (Nat.le_of_lt hless) hml;have HQ3:=Lib.hid hq3;clear hmt hdt hhi2 hz hbb hbb3 hb2 hown2 hr2 hq3 h3s;go_wp2_with (at_builtin; refine wpList_append_own_at _ rfl (.tmp 19) (.tmp 25) 22 rfl b 63 iu _ 1 4 Tryz.underlying22 hiu huz0 huz1 huz2 rfl (by decide) _ _ _ rfl (hown3.alloc _) ⟨w3.heap.size,0,none⟩ 1 1 [_] rfl rfl (cell_one_new w3 _ _) (by simp [Value.oneCell']) (by unfold maxLen; omega) (by omega) (by simp; omega) ?_; intro v4 w4 hown4 hg4 _ hat4);rw [← u32s_snoc] at hown4;have hb4:=(hb3.alloc hb3s _).grown hg4 (by simp; omega) (fun g e => by have:=hown3.lt g e; omega);have hr4:=row_grown (hr3.keepB ((Below.refl w3.heap.size w3).alloc (Nat.le_refl _) (.cells #[.int .u32 (z : Int)] 63))) hg4 (fun g off e e2 => by
    injection e with e;injection e with e;have:=HO2.out g e2;omega)
   go_roundw
   case rel => exact ⟨m / 4294967296,L ++ [z],some ⟨q3,0,none⟩,c3,rfl,HL2,hle2,hr4,by rw [List.length_append]; exact hown4,hb4⟩
   case measure => simpa [lenOf] using hless
end Go.Proofs.YtonehlkiackhcaaGreatDoor

namespace Go.Proofs.YtonehlkiackhcaaGreatDoor
open Go.RowKit Go.Lib Go.Sort
theorem add_step {D : List Nat} {k cr x y VA VB T : Nat} (h : V 10 D + 10 ^ k * (cr + (x + 10 * VA) + (y + 10 * VB)) = T) (hk : D.length = k) : V 10 (D ++ [(cr + x + y) % 10]) + 10 ^ (k + 1) * ((cr + x + y) / 10 + VA + VB) = T:=by
 rw [V_append,hk,← h,Nat.pow_succ,Nat.mul_assoc,Nat.add_assoc,← Nat.mul_add]
 congr 2
 simp only [V];omega
theorem V_drop_lt {l : List Nat} {k : Nat} (h : k < l.length) : V 10 (l.drop k) = l[k] + 10 * V 10 (l.drop (k + 1)):=by
 rw [List.drop_eq_getElem_cons h];rfl
theorem V_drop_ge {l : List Nat} {k : Nat} (h : ¬ k < l.length) : V 10 (l.drop k) = 0:=by
 rw [List.drop_of_length_le (by omega)];rfl
theorem dplus_any {w : World} (a b0 : Nat) (A B : Option Addr) (c d : Nat) (ha : (dig 10 a).length ≤ 10000) (hb0 : (dig 10 b0).length ≤ 10000) (hra : Row w A (i64s (dig 10 a))) (hrb : Row w B (i64s (dig 10 b0))) :
  Calls Tryz.prog 51 #[.slice A (dig 10 a).length c,.slice B (dig 10 b0).length d] w fun e w' => (∃ A' c',e = .returned (.slice A' (dig 10 (a + b0)).length c') ∧ (dig 10 (a + b0)).length ≤ c' ∧ Row w' A' (i64s (dig 10 (a + b0)))) ∧ Below w.heap.size w w':=by
 obtain ⟨iu,hiu,huz0,huz1,huz2⟩:=info_parts info_i64;obtain ⟨b,hbb⟩ : ∃ b,w.heap.size = b:=⟨_,rfl⟩;have HB:=Lib.hid hbb;clear hbb;obtain ⟨la,hla⟩ : ∃ l,dig 10 a = l:=⟨_,rfl⟩;obtain ⟨lb,hlb⟩ : ∃ l,dig 10 b0 = l:=⟨_,rfl⟩;have hVa : V 10 la = a:=by rw [← hla]; exact V_dig (by decide) a
 have hVb : V 10 lb = b0:=by rw [← hlb]; exact V_dig (by decide) b0
 have HLA:=Lib.hid (fun x (hx : x ∈ la) => dig_lt (B:=10) (by decide) a x (by rw [hla]; exact hx));have HLB:=Lib.hid (fun x (hx : x ∈ lb) => dig_lt (B:=10) (by decide) b0 x (by rw [hlb]; exact hx));rw [hla] at ha hra ⊢;rw [hlb] at hb0 hrb ⊢;clear hla hlb;have HV0:=Lib.hid (show V 10 [] + 10 ^ 0 * (0 + V 10 (la.drop 0) + V 10 (lb.drop 0)) = a + b0 from by rw [List.drop_zero,List.drop_zero,hVa,hVb]; simp [V]);clear hVa hVb;go_enter Tryz.func51,Tryz.ntmps51;go_wp2_with fail
 go_loopw [5,6,7] (fun v cv i wr => ∃ (k : Nat) (D : List Nat) (cr : Nat),k ≤ max la.length lb.length + 1 ∧ i = .int .i64 (k : Int) ∧ cv = .int .i64 (cr : Int) ∧ cr ≤ 1 ∧ Hid (V 10 D + 10 ^ k * (cr + V 10 (la.drop k) + V 10 (lb.drop k)) = a + b0) ∧ D.length = k ∧ Hid (∀ z ∈ D,z < 10) ∧ wr.ownsRow b 3 1 v k (i64s D) ∧ Below b w wr ∧ (k ≤ max la.length lb.length ∨ cr = 0)) (fun _ _ i _ => max la.length lb.length + 1 - (RowKit.intOf i).toNat)
 case atStart => exact ⟨0,[],0,Nat.zero_le _,rfl,rfl,Nat.zero_le _,HV0,rfl,Lib.hid (fun z hz => by cases hz),World.ownsRow_nil _ _ _ _,by rw [← HB.out]; exact Below.refl _ _,.inr rfl⟩
 case round =>
  obtain ⟨k,D,cr,hk,rfl,rfl,hcr,HV,hDl,HD,hown,hb,hkm⟩:=hrel;have hbs:=hb.size;rw [HB.out] at hbs;have hrA:=hra.keepB (by rw [HB.out]; exact hb : Below w.heap.size w wr);have hrB:=hrb.keepB (by rw [HB.out]; exact hb : Below w.heap.size w wr)
  by_cases h1 : k < la.length
  ·obtain ⟨ba,oa,rfl,ca⟩:=row_i64 hrA h1;have hVA:=V_drop_lt h1;obtain ⟨x,hx⟩ : ∃ x,la[k] = x:=⟨_,rfl⟩;have hx10 : x < 10:=hx ▸ HLA.out _ (List.getElem_mem h1);rw [hx] at ca hVA;clear hx
   by_cases h2 : k < lb.length
   ·obtain ⟨bb,ob,rfl,cb⟩:=row_i64 hrB h2;have hVB:=V_drop_lt h2;obtain ⟨y,hy⟩ : ∃ y,lb[k] = y:=⟨_,rfl⟩;have hy10 : y < 10:=hy ▸ HLB.out _ (List.getElem_mem h2);rw [hy] at cb hVB;clear hy;have HV:=Lib.hid (by have:=HV.out; rw [hVA,hVB] at this; exact this);clear hVA hVB;have hst:=add_step (D:=D) (k:=k) (cr:=cr) (x:=x) (y:=y) (VA:=V 10 (la.drop (k + 1))) (VB:=V 10 (lb.drop (k + 1))) (T:=a + b0) HV.out hDl;obtain ⟨s,hs⟩ : ∃ s,cr + x + y = s:=⟨_,rfl⟩;have hsi : (cr : Int) + (x : Int) + (y : Int) = (s : Int):=(by omega);have hs19 : s ≤ 19:=(by omega);rw [hs] at hst;have HST:=Lib.hid hst;clear hst hs;go_wp2_with (at_builtin; refine wpList_append_own_at _ rfl (.tmp 44) (.tmp 47) 52 rfl b 3 iu _ 1 8 Tryz.underlying52 hiu huz0 huz1 huz2 rfl (by decide) _ _ _ rfl (hown.alloc _) ⟨wr.heap.size,0,none⟩ 1 1 [_] rfl rfl (cell_one_new wr _ _) (by simp [Value.oneCell']) (by unfold maxLen; omega) (by omega) (by simp; omega) ?_; intro v2 w2 hown2 hg2 _ hat2);have hc1 : ((s : Int) % 10) = ((s % 10 : Nat) : Int):=(by omega);have hc2 : ((s : Int) / 10) = ((s / 10 : Nat) : Int):=(by omega);rw [hc1,← i64s_snoc] at hown2;rw [hc2];have hb2:=(hb.alloc hbs _).grown hg2 (by simp; omega) (fun g e => by have:=hown.lt g e; omega);go_roundw
    case rel => exact ⟨k + 1,D ++ [s % 10],s / 10,by omega,by go_num,rfl,by omega,Lib.hid HST.out,by rw [List.length_append,hDl]; rfl,Lib.hid (by intro z hz; rcases List.mem_append.1 hz with h | h; exact HD.out z h; rw [List.mem_singleton.1 h]; omega),hown2,hb2,by omega⟩
    case measure => simp [RowKit.intOf]; omega
   ·have hVB:=V_drop_ge h2;have hVB1:=V_drop_ge (l:=lb) (k:=k + 1) (by omega);have HV:=Lib.hid (show V 10 D + 10 ^ k * (cr + (x + 10 * V 10 (la.drop (k + 1))) + (0 + 10 * V 10 (lb.drop (k + 1)))) = a + b0 from by have:=HV.out; rw [hVA,hVB] at this; rw [hVB1]; exact this);clear hVA hVB hVB1;have hst:=add_step (D:=D) (k:=k) (cr:=cr) (x:=x) (y:=0) (VA:=V 10 (la.drop (k + 1))) (VB:=V 10 (lb.drop (k + 1))) (T:=a + b0) HV.out hDl;obtain ⟨s,hs⟩ : ∃ s,cr + x + 0 = s:=⟨_,rfl⟩;have hsi : (cr : Int) + (x : Int) = (s : Int):=(by omega);have hs19 : s ≤ 19:=(by omega);rw [hs] at hst;have HST:=Lib.hid hst;clear hst hs;go_wp2_with (at_builtin; refine wpList_append_own_at _ rfl (.tmp 44) (.tmp 47) 52 rfl b 3 iu _ 1 8 Tryz.underlying52 hiu huz0 huz1 huz2 rfl (by decide) _ _ _ rfl (hown.alloc _) ⟨wr.heap.size,0,none⟩ 1 1 [_] rfl rfl (cell_one_new wr _ _) (by simp [Value.oneCell']) (by unfold maxLen; omega) (by omega) (by simp; omega) ?_; intro v2 w2 hown2 hg2 _ hat2);have hc1 : ((s : Int) % 10) = ((s % 10 : Nat) : Int):=(by omega);have hc2 : ((s : Int) / 10) = ((s / 10 : Nat) : Int):=(by omega);rw [hc1,← i64s_snoc] at hown2;rw [hc2];have hb2:=(hb.alloc hbs _).grown hg2 (by simp; omega) (fun g e => by have:=hown.lt g e; omega);go_roundw
    case rel => exact ⟨k + 1,D ++ [s % 10],s / 10,by omega,by go_num,rfl,by omega,Lib.hid HST.out,by rw [List.length_append,hDl]; rfl,Lib.hid (by intro z hz; rcases List.mem_append.1 hz with h | h; exact HD.out z h; rw [List.mem_singleton.1 h]; omega),hown2,hb2,by omega⟩
    case measure => simp [RowKit.intOf]; omega
  ·have hVA:=V_drop_ge h1;have hVA1:=V_drop_ge (l:=la) (k:=k + 1) (by omega)
   by_cases h2 : k < lb.length
   ·obtain ⟨bb,ob,rfl,cb⟩:=row_i64 hrB h2;have hVB:=V_drop_lt h2;obtain ⟨y,hy⟩ : ∃ y,lb[k] = y:=⟨_,rfl⟩;have hy10 : y < 10:=hy ▸ HLB.out _ (List.getElem_mem h2);rw [hy] at cb hVB;clear hy;have HV:=Lib.hid (show V 10 D + 10 ^ k * (cr + (0 + 10 * V 10 (la.drop (k + 1))) + (y + 10 * V 10 (lb.drop (k + 1)))) = a + b0 from by have:=HV.out; rw [hVA,hVB] at this; rw [hVA1]; exact this);clear hVA hVB hVA1;have hst:=add_step (D:=D) (k:=k) (cr:=cr) (x:=0) (y:=y) (VA:=V 10 (la.drop (k + 1))) (VB:=V 10 (lb.drop (k + 1))) (T:=a + b0) HV.out hDl;obtain ⟨s,hs⟩ : ∃ s,cr + 0 + y = s:=⟨_,rfl⟩;have hsi : (cr : Int) + (y : Int) = (s : Int):=(by omega);have hs19 : s ≤ 19:=(by omega);rw [hs] at hst;have HST:=Lib.hid hst;clear hst hs;go_wp2_with (at_builtin; refine wpList_append_own_at _ rfl (.tmp 44) (.tmp 47) 52 rfl b 3 iu _ 1 8 Tryz.underlying52 hiu huz0 huz1 huz2 rfl (by decide) _ _ _ rfl (hown.alloc _) ⟨wr.heap.size,0,none⟩ 1 1 [_] rfl rfl (cell_one_new wr _ _) (by simp [Value.oneCell']) (by unfold maxLen; omega) (by omega) (by simp; omega) ?_; intro v2 w2 hown2 hg2 _ hat2);have hc1 : ((s : Int) % 10) = ((s % 10 : Nat) : Int):=(by omega);have hc2 : ((s : Int) / 10) = ((s / 10 : Nat) : Int):=(by omega);rw [hc1,← i64s_snoc] at hown2;rw [hc2];have hb2:=(hb.alloc hbs _).grown hg2 (by simp; omega) (fun g e => by have:=hown.lt g e; omega);go_roundw
    case rel => exact ⟨k + 1,D ++ [s % 10],s / 10,by omega,by go_num,rfl,by omega,Lib.hid HST.out,by rw [List.length_append,hDl]; rfl,Lib.hid (by intro z hz; rcases List.mem_append.1 hz with h | h; exact HD.out z h; rw [List.mem_singleton.1 h]; omega),hown2,hb2,by omega⟩
    case measure => simp [RowKit.intOf]; omega
   ·have hVB:=V_drop_ge h2
    by_cases h0 : cr = 0
    ·subst h0;have HN:=Lib.hid (show V 10 D = a + b0 from by have:=HV.out; rw [hVA,hVB] at this; simpa using this);have HTZ:=Lib.hid (show trimZ D = dig 10 (a + b0) from by rw [trimZ_dig (B:=10) (by decide) D HD.out,HN.out]);clear hVA hVB hVA1;rw [← hDl] at hown;have hDk : D.length ≤ 10001:=(by omega);clear hk hkm hDl;obtain ⟨A',c',rfl,hrow,hcap⟩:=own_form hown;have HT:=Lib.hid (dtrim_any D A' c' (by omega) hcap hrow);rw [HTZ.out] at HT;go_wp2_with fail;refine HT.out.mono ?_;rintro e w3 ⟨rfl,rfl⟩;go_wp2_with fail;go_ret;refine ⟨⟨A',c',rfl,?_,?_⟩,by rw [HB.out]; exact hb⟩
     ·have h5:=trimZ_take D;rw [HTZ.out] at h5;have h6 : (dig 10 (a + b0)).length ≤ D.length:=(by rw [h5,List.length_take]; omega);omega
     ·have h5:=trimZ_take D;rw [HTZ.out] at h5;rw [h5];have:=row_take hrow (dig 10 (a + b0)).length;unfold i64s at this ⊢;rw [List.map_take];exact this
    ·have hVB1:=V_drop_ge (l:=lb) (k:=k + 1) (by omega);have HV:=Lib.hid (show V 10 D + 10 ^ k * (cr + (0 + 10 * V 10 (la.drop (k + 1))) + (0 + 10 * V 10 (lb.drop (k + 1)))) = a + b0 from by have:=HV.out; rw [hVA,hVB] at this; rw [hVA1,hVB1]; exact this);obtain rfl : cr = 1:=(by omega);have hst:=add_step (D:=D) (k:=k) (cr:=1) (x:=0) (y:=0) (VA:=V 10 (la.drop (k + 1))) (VB:=V 10 (lb.drop (k + 1))) (T:=a + b0) HV.out hDl;rw [show (1 + 0 + 0) % 10 = 1 from rfl,show (1 + 0 + 0) / 10 = 0 from rfl] at hst;have HST:=Lib.hid hst;clear hst hVA hVB hVA1 hVB1 h0;go_wp2_with (at_builtin; refine wpList_append_own_at _ rfl (.tmp 44) (.tmp 47) 52 rfl b 3 iu _ 1 8 Tryz.underlying52 hiu huz0 huz1 huz2 rfl (by decide) _ _ _ rfl (hown.alloc _) ⟨wr.heap.size,0,none⟩ 1 1 [_] rfl rfl (cell_one_new wr _ _) (by simp [Value.oneCell']) (by unfold maxLen; omega) (by omega) (by simp; omega) ?_; intro v2 w2 hown2 hg2 _ hat2);have hown3 : w2.ownsRow b 3 1 v2 (k + 1) (i64s (D ++ [1])):=(by rw [i64s_snoc]; exact hown2);have hb2:=(hb.alloc hbs _).grown hg2 (by simp; omega) (fun g e => by have:=hown.lt g e; omega);go_roundw
     case rel => exact ⟨k + 1,D ++ [1],0,by omega,by go_num,rfl,by omega,Lib.hid HST.out,by rw [List.length_append,hDl]; rfl,Lib.hid (by intro z hz; rcases List.mem_append.1 hz with h | h; exact HD.out z h; rw [List.mem_singleton.1 h]; omega),hown3,hb2,by omega⟩
     case measure => simp [RowKit.intOf]; omega
def dgs (l : List Nat) : List UInt8:=(l.map fun x => UInt8.ofNat (48 + x)).reverse
theorem dgs_cons (x : Nat) (l : List Nat) : dgs (x :: l) = dgs l ++ [UInt8.ofNat (48 + x)]:=by simp [dgs]
theorem dgs_snoc (l : List Nat) (x : Nat) : dgs (l ++ [x]) = UInt8.ofNat (48 + x) :: dgs l:=by simp [dgs]
theorem dgs_dec : ∀ (k n : Nat),n ≤ k → n ≠ 0 → dgs (dig 10 n) = decDigits n
 | 0,n,h,h0 => absurd (Nat.le_zero.1 h) h0
 | k + 1,n,h,h0 => by
  rw [dig_pos (by decide) h0,dgs_cons];rw [decDigits]
  by_cases h10 : n < 10
  ·rw [dif_pos h10,Nat.div_eq_of_lt h10,dig_zero,Nat.mod_eq_of_lt h10];rfl
  ·rw [dif_neg h10,dgs_dec k (n / 10) (by omega) (by omega)]
theorem run_fig (x : Nat) (h : x < 10) (W : World) : (Instr.slice 9 (.string ⟨#[48,49,50,51,52,53,54,55,56,57]⟩) (some (.int .i64 (x : Int))) (some (.int .i64 ((x : Int) + 1))) none).run Tryz.prog W = .ok (.string ⟨#[UInt8.ofNat (48 + x)]⟩) W:=by
 have h1:=run_sub [48,49,50,51,52,53,54,55,56,57] x (x + 1) (by omega) (by simp; omega) (x : Int) ((x : Int) + 1) rfl (by omega) W;refine h1.trans ?_;have h2 : ∀ i : Fin 10,(([48,49,50,51,52,53,54,55,56,57] : List UInt8).drop i.val).take (i.val + 1 - i.val) = [UInt8.ofNat (48 + i.val)]:=by decide
 rw [h2 ⟨x,h⟩]
theorem dstring_any {w : World} (n : Nat) (A : Option Addr) (c : Nat) (hlen : (dig 10 n).length ≤ 10000) (hr : Row w A (i64s (dig 10 n))) :
  Calls Tryz.prog 32 #[.slice A (dig 10 n).length c] w fun e w' => e = .returned (.string ⟨(decDigits n).toArray⟩) ∧ w' = w:=by
 obtain ⟨l,hl⟩ : ∃ l,dig 10 n = l:=⟨_,rfl⟩;have HL:=Lib.hid hl;have HLT:=Lib.hid (fun x (hx : x ∈ l) => dig_lt (B:=10) (by decide) n x (by rw [hl]; exact hx));rw [hl] at hlen hr ⊢;clear hl;go_enter Tryz.func32,Tryz.ntmps32;go_wp2_with fail
 go_loop [3,5,8] (fun s _ i => ∃ k : Nat,k ≤ l.length ∧ i = .int .i64 (k : Int) ∧ s = .string ⟨(dgs (l.take k)).toArray⟩) (fun _ _ i => l.length - (RowKit.intOf i).toNat)
 case atStart => exact ⟨0,Nat.zero_le _,rfl,rfl⟩
 case round =>
  obtain ⟨k,hk,rfl,rfl⟩:=hrel;have hdl : (dgs (l.take k)).length ≤ 10000:=by unfold dgs; simp; omega
  by_cases hlt : k < l.length
  ·obtain ⟨ba,oa,rfl,ca⟩:=row_i64 hr hlt;have htk : l.take (k + 1) = l.take k ++ [l[k]]:=(by rw [List.take_add_one,List.getElem?_eq_getElem hlt]; rfl);obtain ⟨x,hx⟩ : ∃ x,l[k] = x:=⟨_,rfl⟩;have hx10 : x < 10:=hx ▸ HLT.out _ (List.getElem_mem hlt);rw [hx] at ca htk;have HN:=Lib.hid (show dgs (l.take (k + 1)) = UInt8.ofNat (48 + x) :: dgs (l.take k) from by rw [htk,dgs_snoc]);obtain ⟨S,hS⟩ : ∃ S,dgs (l.take k) = S:=⟨_,rfl⟩;rw [hS] at hdl HN ⊢;obtain ⟨c1,hc1⟩ : ∃ c1,UInt8.ofNat (48 + x) = c1:=⟨_,rfl⟩;have hfig:=run_fig x hx10;rw [hc1] at hfig HN;have hadd : ∀ W : World,(Op.stringOp .add ⟨#[c1]⟩ ⟨S.toArray⟩).run Tryz.prog W = .ok (.string ⟨(c1 :: S).toArray⟩) W:=fun W => run_string_add_lists W [c1] S (by simp) (by omega);obtain ⟨T,hT⟩ : ∃ T,c1 :: S = T:=⟨_,rfl⟩;rw [hT] at hadd HN;clear hx htk hS hc1 hT;go_wp2_with fail
   go_round
   case rel => exact ⟨k + 1,by omega,by go_num,by rw [HN.out]⟩
   case measure => simp [RowKit.intOf]; omega
  ·have hkl : k = l.length:=(by omega);have htl : l.take k = l:=(by rw [hkl,List.take_length]);rw [htl]
   by_cases h0 : n = 0
   ·have hle : l = []:=(by rw [← HL.out,h0,dig_zero]);subst hle;have HD:=Lib.hid (show decDigits n = [48] from by rw [h0]; rw [decDigits_one (by decide)]; rfl);rw [show dgs [] = [] from rfl];clear htl hkl h0;go_wp2_with fail;go_ret;exact ⟨by rw [HD.out]; rfl,rfl⟩
   ·have hde:=dgs_dec n n (Nat.le_refl _) h0;rw [HL.out] at hde;have hne : (dgs l).isEmpty = false:=by
     rw [← HL.out,dig_pos (n:=n) (by decide) h0,dgs_cons];cases dgs (dig 10 (n / 10)) <;> rfl
    have hne2 : ((dgs l) == []) = false:=by
     cases h : dgs l with
     | nil => rw [h] at hne; cases hne
     | cons a r => rfl
    have HD:=Lib.hid hde;obtain ⟨S,hS⟩ : ∃ S,dgs l = S:=⟨_,rfl⟩;rw [hS] at hne hne2 HD ⊢;clear htl hkl h0 hde hS;go_wp2_with fail;go_ret;exact ⟨by rw [← HD.out]; rfl,rfl⟩
end Go.Proofs.YtonehlkiackhcaaGreatDoor

namespace Go.Proofs.YtonehlkiackhcaaGreatDoor
open Go.RowKit Go.Lib Go.Sort
def refS (B : Nat) (x : Nat × Nat) : Nat × Nat:=if x.1 % B = 0 ∧ x.2 % B = 0 then (x.1 / B,x.2 / B) else x
def refI (B : Nat) : Nat → Nat × Nat → Nat × Nat
 | 0,x => x
 | k + 1,x => refS B (refI B k x)
theorem red_both (B : Nat) (hB : 2 ≤ B) (n c E p : Nat) (hn : n ≠ 0) : ∀ k,k ≤ p → ∃ j m,j ≤ k ∧ m ≠ 0 ∧ redI B k (n,c) = (m,c * B ^ (k - j)) ∧ refI B k (n,B ^ p * E) = (m,B ^ (p - j) * E)
 | 0,_ => ⟨0,n,Nat.le_refl _,hn,by simp [redI],by simp [refI]⟩
 | k + 1,h => by
  obtain ⟨j,m,hj,hm,h1,h2⟩:=red_both B hB n c E p hn k (by omega);rw [redI,refI,h1,h2];obtain ⟨i,hi⟩ : ∃ i,p - j = i + 1:=⟨p - j - 1,by omega⟩;have hd : (B ^ (p - j) * E) % B = 0:=by
   rw [hi,Nat.pow_succ,Nat.mul_right_comm];exact Nat.mul_mod_left _ _
  by_cases hmB : m % B = 0
  ·refine ⟨j + 1,m / B,by omega,?_,?_,?_⟩
   ·intro h0;have h3:=Nat.div_add_mod m B;rw [h0,hmB] at h3;simp at h3;exact hm h3.symm
   ·unfold redS;simp only;rw [if_neg hm,if_pos hmB,show k + 1 - (j + 1) = k - j by omega]
   ·unfold refS;simp only;rw [if_pos ⟨hmB,hd⟩,hi,show p - (j + 1) = i by omega,Nat.pow_succ,Nat.mul_right_comm,Nat.mul_div_cancel _ (by omega)]
  ·refine ⟨j,m,by omega,hm,?_,?_⟩
   ·unfold redS;simp only;rw [if_neg hm,if_neg hmB,show k + 1 - j = (k - j) + 1 by omega,Nat.pow_succ,← Nat.mul_assoc]
   ·unfold refS;simp only;rw [if_neg (fun h => hmB h.1)]
theorem red_zero (B c : Nat) : ∀ k,redI B k (0,c) = (0,c)
 | 0 => rfl
 | k + 1 => by rw [redI,red_zero B c k]; rfl
def refO (n p k : Nat) : Nat × Nat:=if k = 0 then (n,10 ^ p) else if k = 1 then refI 2 p (n,10 ^ p) else refI 5 p (refI 2 p (n,10 ^ p))
theorem refO_next (n p : Nat) {k : Nat} (h : k < 2) : refI (baseK k) p (refO n p k) = refO n p (k + 1):=by
 rcases (show k = 0 ∨ k = 1 by omega) with rfl | rfl <;> rfl
theorem refI_le (B : Nat) (x : Nat × Nat) : ∀ k,(refI B k x).1 ≤ x.1 ∧ (refI B k x).2 ≤ x.2
 | 0 => ⟨Nat.le_refl _,Nat.le_refl _⟩
 | k + 1 => by
  obtain ⟨h1,h2⟩:=refI_le B x k;rw [refI];unfold refS;split
  ·exact ⟨Nat.le_trans (Nat.div_le_self _ _) h1,Nat.le_trans (Nat.div_le_self _ _) h2⟩
  ·exact ⟨h1,h2⟩
theorem refO_le (n p : Nat) {k : Nat} (h : k ≤ 2) : (refO n p k).1 ≤ n ∧ (refO n p k).2 ≤ 10 ^ p:=by
 rcases (show k = 0 ∨ k = 1 ∨ k = 2 by omega) with rfl | rfl | rfl
 ·exact ⟨Nat.le_refl _,Nat.le_refl _⟩
 ·exact refI_le 2 (n,10 ^ p) p
 ·have h1:=refI_le 2 (n,10 ^ p) p;have h2:=refI_le 5 (refI 2 p (n,10 ^ p)) p;exact ⟨Nat.le_trans h2.1 h1.1,Nat.le_trans h2.2 h1.2⟩
theorem ref_out (n p : Nat) (hn : n ≠ 0) : refO n p 2 = outS n p 2 ∧ (outS n p 2).1 ≠ 0:=by
 obtain ⟨j,m,hj,hm,h1,h2⟩:=red_both 2 (by decide) n 1 (5 ^ p) p hn p (Nat.le_refl _);obtain ⟨j',m',hj',hm',h3,h4⟩:=red_both 5 (by decide) m (1 * 2 ^ (p - j)) (2 ^ (p - j)) p hm p (Nat.le_refl _);have e1 : outS n p 2 = redI 5 p (redI 2 p (n,1)):=rfl;have e2 : refO n p 2 = refI 5 p (refI 2 p (n,10 ^ p)):=rfl;rw [e1,e2,h1,h3,show 10 ^ p = 2 ^ p * 5 ^ p from by rw [← Nat.mul_pow],h2,Nat.mul_comm (2 ^ (p - j)) (5 ^ p),h4];refine ⟨?_,hm'⟩;rw [Nat.one_mul,Nat.mul_comm (5 ^ (p - j'))]
theorem ref_zero (p : Nat) : (refO 0 p 2).1 = 0 ∧ outS 0 p 2 = (0,1):=by
 constructor
 ·exact Nat.le_zero.1 (refO_le 0 p (Nat.le_refl 2)).1
 ·show redI 5 p (redI 2 p (0,1)) = (0,1);rw [red_zero,red_zero]
theorem digs_mul (n k : Nat) : (dig 10 (n * 10 ^ k)).length ≤ (dig 10 n).length + k:=by
 refine dig_len (by decide) _ _ ?_;have h1:=V_lt (B:=10) (by decide) (dig 10 n) (dig_lt (by decide) n);rw [V_dig (by decide)] at h1;rw [Nat.pow_add];exact Nat.mul_lt_mul_of_pos_right h1 (Nat.pow_pos (by decide))
theorem digs_pow (k : Nat) : (dig 10 (10 ^ k)).length ≤ k + 1:=by
 refine dig_len (by decide) _ _ ?_;rw [Nat.pow_succ];have:=Nat.pow_pos (n:=k) (show 0 < 10 by decide);omega
theorem dig_one10 : dig 10 1 = [1]:=by rw [dig_pos (by decide) (by decide),show 1 / 10 = 0 from rfl,dig_zero]
theorem dig_len0 {n : Nat} : (dig 10 n).length = 0 ↔ n = 0:=by rw [List.length_eq_zero_iff]; exact dig_nil (by decide)
theorem foldl_num (B : Nat) : ∀ (f : List UInt8) (z : Nat),f.foldl (fun n c => n * B + dval c) z = z * B ^ f.length + numV B f
 | [],z => by simp [numV]
 | c :: f,z => by
  have h:=foldl_num B f (0 * B + dval c);rw [List.foldl_cons,foldl_num B f,List.length_cons,Nat.pow_succ];show _ = _ + List.foldl (fun n c => n * B + dval c) 0 (c :: f);rw [List.foldl_cons,h,Nat.zero_mul,Nat.zero_add,Nat.add_mul,Nat.mul_assoc,Nat.mul_comm B,← Nat.add_assoc]
theorem numV_app (B : Nat) (u f : List UInt8) : numV B (u ++ f) = numV B u * B ^ f.length + numV B f:=by
 unfold numV;rw [List.foldl_append];exact foldl_num B f _
theorem dec_is1 (d : Nat) : (decDigits d == [49]) = decide (d = 1):=by
 by_cases h : d < 10
 ·rw [decDigits_one h];have : ∀ i : Fin 10,(([UInt8.ofNat (48 + i.val)] : List UInt8) == [49]) = decide (i.val = 1):=(by decide);exact this ⟨d,h⟩
 ·rw [decide_eq_false (by omega),beq_eq_false_iff_ne];intro e;have h1:=decDigits_pos (d / 10);rw [decDigits,dif_neg h] at e;have h2:=congrArg List.length e;rw [List.length_append] at h2;simp at h2;have h3 : (decDigits (d / 10)).length = 0:=(by rw [h2]; rfl);omega
end Go.Proofs.YtonehlkiackhcaaGreatDoor
