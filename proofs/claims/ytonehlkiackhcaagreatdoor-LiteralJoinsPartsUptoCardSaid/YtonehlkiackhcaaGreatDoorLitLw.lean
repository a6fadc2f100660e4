/- The literals: formatted strings are read alike on both sides: the law. Nothing is claimed here. -/
import Derived.Test.YtonehlkiackhcaaGreatDoorLitSq
set_option linter.unusedVariables false
set_option linter.unusedSimpArgs false
set_option maxRecDepth 100000
set_option maxHeartbeats 16000000
namespace Go.Proofs.YtonehlkiackhcaaGreatDoor
section
open Go.RowKit Go.Lib Go.Sort
structure PoC (w : World) (x : Sht) (sb B:Nat) (wr : World) (out : List Prt) (v : Value) : Prop where
 hs : w.heap.size < sb
 hB : sb < B
 f : Blk wr w.heap.size 29 #[.int .i64 0,.int .i64 0]
 sh : Blk wr sb 85 (shtC x)
 own : wr.ownsRow B 91 4 v out.length (out.flatMap prtc)
 bel : Below w.heap.size w wr
 hBw : B ≤ wr.heap.size
section
variable {w wr wr' : World} {x : Sht} {sb B : Nat} {out out' : List Prt} {v v' : Value}
theorem PoC.belowS (h : PoC w x sb B wr out v) (hb : Below wr.heap.size wr wr') : PoC w x sb B wr' out v :=
 ⟨h.hs,h.hB,h.f.belowS hb,h.sh.belowS hb,own_below h.own hb,below_then h.bel hb h.bel.size,Nat.le_trans h.hBw hb.size⟩
theorem PoC.grow (h : PoC w x sb B wr out v) (hg : wr.grownBy wr' v.ownBlock) (ho : wr'.ownsRow B 91 4 v' out'.length (out'.flatMap prtc)) : PoC w x sb B wr' out' v':=by
 have hne : ∀ k,k < B → some k ≠ v.ownBlock:=fun k hk e => by have:=(h.own.lt k e.symm).1; omega
 have h1:=h.hs;have h2:=h.hB;exact ⟨h.hs,h.hB,h.f.grown hg (hne _ (by omega)),h.sh.grown hg (hne _ h2),ho,h.bel.grown hg h.bel.size (fun k e => by have:=(h.own.lt k e).1; omega),Nat.le_trans h.hBw hg.size⟩
end
theorem own_setRow {w : World} {B : Nat} {e : TypeId} {s n : Nat} {v : Value} {xs : List Value} (h : w.ownsRow B e s v n xs) {g : Nat} (hg : g < B) (cs : Array Value) : (w.setRow g cs).ownsRow B e s v n xs:=by
 refine ⟨h.1,?_⟩;rcases h.2 with h1 | ⟨k,cap,cur,hv,h1,h2,h3⟩
 ·exact .inl h1
 ·exact .inr ⟨k,cap,cur,hv,h1,by rw [setRow_other _ _ _ _ (by omega)]; exact h2,h3⟩
theorem quo_two {l : List UInt8} (hs : Strg l) : (shtOf l).quo = 34∨(shtOf l).quo = 39:=by
 have h:=hs.quo;unfold isQuo at h;rw [Bool.or_eq_true,beq_iff_eq,beq_iff_eq] at h;exact h
theorem cut_two (l : List UInt8) (i:Nat) (h : i + 1 < l.length) : (l.drop i).take (i + 2 - i) = [at0 l i,at0 l (i + 1)]:=by
 rw [show i + 2 - i = 2 by omega,drop_at l i (by omega),drop_at l (i + 1) h];rfl
theorem charS_idx {l : List UInt8} {x : Sht} {i k : Nat} (h : charS l x i = .error k) : k = i:=by
 unfold charS at h;split at h
 ·injection h with h; exact h.symm
 ·split at h
  ·cases h
  ·split at h
   ·injection h with h; exact h.symm
   ·cases h
theorem longP_flush (out : List Prt) (t : List UInt8) : longP (flushP out t) = (longP out || decide (4000 < t.length)):=by
 unfold flushP;split
 ·rename_i h;subst h;simp
 ·unfold longP;rw [List.any_append];simp
theorem longP_field (out : List Prt) (p : Prt) (hp : p.field = true) : longP (out ++ [p]) = longP out:=by
 unfold longP;rw [List.any_append];simp [hp]
theorem fieldS_fld {l : List UInt8} {x : Sht} {frm : Nat} {p : Prt} {j : Nat} (h : fieldS l x frm = .ok (p,j)) : p.field = true:=by
 unfold fieldS at h;split at h
 ·cases h
 ·split at h
  ·cases h
  ·unfold tailS at h;split at h
   ·unfold tailR at h;split at h
    ·cases h
    ·injection h with h;injection h with h _;subst h;rfl
   ·injection h with h;injection h with h _;subst h;rfl
theorem partsOf_any (l : List UInt8) (w : World) (hl : l.length ≤ 9223372036854775807) (he : REnv w) :
  Calls Tryz.prog 16 #[.string ⟨l.toArray⟩] w (PaPost w (partsS l)):=by
 obtain ⟨R,hR⟩ : ∃ R,partsS l = R:=⟨_,rfl⟩;rw [hR];have HR:=hid hR;obtain ⟨i0,hi0,hz0,hz1,hz2⟩:=info_parts info_prt;have hF0:=Blk.new w 29 #[.int .i64 0,.int .i64 0];have hb0:=(Below.refl w.heap.size w).alloc (Nat.le_refl _) (.cells #[.int .i64 0,.int .i64 0] 29);clear hR;go_enter Tryz.func16,Tryz.ntmps16;go_wp2_with fail;refine (sheetOf_any l _ hl (he.keepB hb0)).mono ?_;rintro e w1 ⟨hb1,rfl⟩;have hF1:=hF0.belowS hb1;have hbb1:=below_then hb0 hb1 hb0.size;have hF1lt:=hF1.lt;obtain ⟨b,hbb⟩ : ∃ b,isStr l = b:=⟨_,rfl⟩;rw [hbb];have hN:=Blk.new w1 85 shZ;unfold shZ at hN;clear hF0 hb0 hb1;obtain ⟨sb,hsb⟩ : ∃ sb,w1.heap.size = sb:=⟨_,rfl⟩;rw [hsb] at hN hF1lt;have HSB:=hid hsb;rcases b with _ | _
 ·have HRR : Hid (R = .error (1,-1)):=hid (by rw [← HR.out]; unfold partsS; rw [if_pos hbb]);rw [if_neg (by decide)];unfold shZ;clear hbb hsb
  go_upto_region 2 with (refine wpList_store_row rfl 85 (.tmp 4) (.tmp 20) rfl sb #[.int .u8 0,.int .u8 0,.int .i64 0,.int .i64 0] rfl rfl 85 #[.int .u8 0,.int .u8 0,.int .i64 0,.int .i64 0] hN (by kernel_rfl) rfl (by simp [Value.oneCell']) ?_)
  have hF2:=hF1.alloc (.cells #[.int .u8 0,.int .u8 0,.int .i64 0,.int .i64 0] 85);have hbb2:=hbb1.alloc hbb1.size (.cells #[.int .u8 0,.int .u8 0,.int .i64 0,.int .i64 0] 85);generalize w1.alloc (.cells #[.int .u8 0,.int .u8 0,.int .i64 0,.int .i64 0] 85) = w2 at hF2 hbb2 ⊢;clear hF1 hbb1 hN;go_wp2_with fail
  -- a fault is handed back
  refine (atR_any 1 (-1) _).mono ?_;rintro e w9 ⟨rfl,hb9⟩;have hF9:=(hF2).belowS hb9;have hbb9:=below_then hbb2 hb9 (hbb2).size;clear hb9;unfold flt;go_wp2_with (refine wpList_store_row rfl 29 (.tmp 3) (.tmp 25) rfl w.heap.size #[.int .i64 1,.int .i64 (-1)] rfl rfl 29 #[.int .i64 0,.int .i64 0] hF9 (by kernel_rfl) rfl (by simp [Value.oneCell']) ?_);refine ret_tmp_blk rfl rfl (hF9.setRow _) _ Tryz.underlying29 rfl (by kernel_rfl) rfl (.slice none 0 0) rfl ⟨Go.below_setRow hbb9 (Nat.le_refl _) _,?_⟩;rw [HRR.out];rfl
 ·have hs:=strg_of hbb;have hl16 : l.length ≤ 16000:=isStr_16 hbb;have HCA:=hid (fun (W : World) (i:Nat) (h1 : Gd l i) (h2 : i < (shtOf l).lim) (h4 : CEnv W) => rletter_any W hs h1 h2 hl16 h4);have HCG:=hid (fun (i:Nat) (h1 : Gd l i) (h2 : i < (shtOf l).lim) (n j:Nat) (h3 : charS l (shtOf l) i = .ok (n,j)) => charS_gd hs h1 h2 h3);have HFG:=hid (fun (i:Nat) (h1 : Gd l i) (h2 : i < (shtOf l).lim) (h3 : at0 l i = 123) (p : Prt) (j:Nat) (h4 : fieldS l (shtOf l) i = .ok (p,j)) => fieldS_gd hs h1 h2 h3 h4);have HGN:=hid (fun (i:Nat) (h1 : Gd l i) (h2 : i < (shtOf l).lim) (h3 : at0 l i ≠ 92) => h1.next hs h2 (fun e => h3 e.1));have HGL:=hid (fun (i:Nat) (h1 : Gd l i) => h1.le);have hgd:=hs.gd;have hll:=lim_lt hs;have hqu:=quo_two hs;obtain ⟨x,hx⟩ : ∃ x,shtOf l = x:=⟨_,rfl⟩;rw [hx] at hgd hll HCA HCG HFG HGN HGL hqu ⊢;rw [if_pos rfl];have hS0 : partsS l = if x.pre ≠ 102 then .error (13,-1) else match partF l x (l.length + 1) x.frm [] [] with
   | .error j => .error (1,(j:Int))
   | .ok ps => if longP ps = true then .error (14,-1) else .ok ps:=by
   unfold partsS;rw [if_neg (by rw [hbb]; decide),hx] <;> rfl
  rw [HR.out] at hS0;have HS:=hid hS0;have HFA:=hid (fun W i (h : i < x.lim) => fieldAt_any l x i W hqu h hll.1 hl16);unfold shtC at HCA HFA ⊢;clear hS0 hbb hs hx HR hqu hsb
  go_upto_region 2 with (refine wpList_store_row rfl 85 (.tmp 4) (.tmp 20) rfl sb #[.int .u8 (x.pre.toNat:Int),.int .u8 (x.quo.toNat:Int),.int .i64 (x.frm:Int),.int .i64 (x.lim:Int)] rfl rfl 85 #[.int .u8 0,.int .u8 0,.int .i64 0,.int .i64 0] hN (by kernel_rfl) rfl (by simp [Value.oneCell']) ?_)
  have hF2:=hF1.alloc (.cells #[.int .u8 (x.pre.toNat:Int),.int .u8 (x.quo.toNat:Int),.int .i64 (x.frm:Int),.int .i64 (x.lim:Int)] 85);have hS2 : Blk (w1.alloc (.cells #[.int .u8 (x.pre.toNat:Int),.int .u8 (x.quo.toNat:Int),.int .i64 (x.frm:Int),.int .i64 (x.lim:Int)] 85)) sb 85 (shtC x):=by
   have:=Blk.new w1 85 #[.int .u8 (x.pre.toNat:Int),.int .u8 (x.quo.toNat:Int),.int .i64 (x.frm:Int),.int .i64 (x.lim:Int)];rw [HSB.out] at this;exact this
  have hbb2:=hbb1.alloc hbb1.size (.cells #[.int .u8 (x.pre.toNat:Int),.int .u8 (x.quo.toNat:Int),.int .i64 (x.frm:Int),.int .i64 (x.lim:Int)] 85);generalize w1.alloc (.cells #[.int .u8 (x.pre.toNat:Int),.int .u8 (x.quo.toNat:Int),.int .i64 (x.frm:Int),.int .i64 (x.lim:Int)] 85) = w2 at hF2 hS2 hbb2 ⊢;rw [HSB.out];clear hF1 hbb1 hN;have hC : PoC w x sb (sb + 1) w2 [] (.slice none 0 0):=⟨hF1lt,Nat.lt_succ_self _,hF2,hS2,World.ownsRow_nil _ _ _ _,hbb2,hS2.lt⟩;clear hF2 hS2 hbb2;obtain ⟨q1,q2,q3⟩:=hC.sh.rules;unfold shtC at q1
  by_cases h102 : x.pre ≠ 102
  ·have HRR : Hid (R = .error (13,-1)):=hid (by rw [HS.out,if_pos h102]);have b102 : ((x.pre.toNat:Int) == 102) = false:=u8_ne (d:=102) h102;have b102' : ((x.pre.toNat:Int) != 102) = true:=(by rw [bne,b102]; rfl);clear h102;go_wp2_with fail
   -- a fault is handed back
   refine (atR_any 13 (-1) _).mono ?_;rintro e w9 ⟨rfl,hb9⟩;have hF9:=(hC.f).belowS hb9;have hbb9:=below_then hC.bel hb9 (hC.bel).size;clear hb9;unfold flt;go_wp2_with (refine wpList_store_row rfl 29 (.tmp 3) (.tmp 30) rfl w.heap.size #[.int .i64 13,.int .i64 (-1)] rfl rfl 29 #[.int .i64 0,.int .i64 0] hF9 (by kernel_rfl) rfl (by simp [Value.oneCell']) ?_);refine ret_tmp_blk rfl rfl (hF9.setRow _) _ Tryz.underlying29 rfl (by kernel_rfl) rfl (.slice none 0 0) rfl ⟨Go.below_setRow hbb9 (Nat.le_refl _) _,?_⟩;rw [HRR.out];rfl
  ·have h102' : x.pre = 102:=(by simpa using h102);have b102 : ((x.pre.toNat:Int) == 102) = true:=(by rw [h102']; rfl);have b102' : ((x.pre.toNat:Int) != 102) = false:=(by rw [bne,b102]; rfl);have HS1:=hid (HS.out.trans (if_neg h102));obtain ⟨E,hE⟩ : ∃ E,partF l x (l.length + 1) x.frm [] [] = E:=⟨_,rfl⟩;have HE:=hid hE;rw [hE] at HS1;clear hE HS h102 h102';go_wp2_with fail;clear q1 q2 q3 b102 b102'
   go_loopw [6,7,8,9] (fun v6 s7 b8 i9 wr => ∃ (i f:Nat) (t : List UInt8) (out : List Prt),i9 = .int .i64 (i:Int)∧s7 = .string ⟨t.toArray⟩∧b8 = .bool (longP out)∧Hid (Gd l i)∧l.length < f + i∧Hid (partF l x f i t out = E)∧t.length ≤ 4 * i∧out.length ≤ 2 * i∧PoC w x sb (sb + 1) wr out v6) (fun _ _ _ i _ => l.length + 1 - (RowKit.intOf i).toNat)
   case atStart => exact ⟨x.frm,l.length + 1,[],[],rfl,rfl,rfl,hid hgd,by omega,HE,Nat.zero_le _,Nat.zero_le _,hC⟩
   case round =>
    clear hC HE;obtain ⟨i,f,t,out,rfl,rfl,rfl,HG,hf,HE1,htl,hol,hC⟩:=hrel;have hil:=HGL.out i HG.out;obtain ⟨q1,q2,q3⟩:=hC.sh.rules;unfold shtC at q1
    by_cases hlt : i < x.lim
    ·obtain ⟨f',rfl⟩ : ∃ f',f = f' + 1:=⟨f - 1,by omega⟩;obtain ⟨c,hc⟩ : ∃ c,at0 l i = c:=⟨_,rfl⟩;have hE2 : (if (c = 123∨c = 125)∧i + 1 < x.lim∧at0 l (i + 1) = c then partF l x f' (i + 2) (t ++ [c]) out
      else if c = 123 then match fieldS l x i with
       | .error j => .error j
       | .ok (p,j) => partF l x f' j [] (flushP out t ++ [p])
      else if c = 125 then .error i
      else match charS l x i with
       | .error j => .error j
       | .ok (n,j) => partF l x f' j (t ++ runeB n) out) = E:=by
      have h:=HE1.out;unfold partF at h;rw [if_neg (by omega),hc] at h;exact h
     have HE2:=hid hE2;have dlt : decide ((i:Int) < (x.lim:Int)) = true:=decide_eq_true (by omega);have hix:=run_idx l i (by omega) (i:Int) rfl;have hone:=run_one l i (by omega) (i:Int) ((i:Int) + 1) rfl rfl;rw [hc] at hix hone;obtain ⟨D,hD⟩ : ∃ D : Bool,decide ((c = 123∨c = 125)∧i + 1 < x.lim∧at0 l (i + 1) = c) = D:=⟨_,rfl⟩;have HD:=hid hD;have HCI:=hid hc;clear hE2 hD HE1 hc
     go_upto_region 11 with fail
     go_cut [10] from 37 to 57 (fun s wx => s = .bool D∧wx = wr)
     case first =>
      by_cases h1 : i + 1 < x.lim
      ·have htwo:=run_sub l i (i + 2) (by omega) (by omega) (i:Int) ((i:Int) + 2) rfl (by omega);rw [cut_two l i (by omega),HCI.out] at htwo;have hDd:=HD.out;obtain ⟨d,hd⟩ : ∃ d,at0 l (i + 1) = d:=⟨_,rfl⟩;rw [hd] at htwo hDd;have d1 : decide ((i:Int) + 1 < (x.lim:Int)) = true:=decide_eq_true (by omega);clear hd
       by_cases h123 : c = 123∧d = 123
       ·obtain ⟨rfl,rfl⟩:=h123;have hDv:=hid (show D = true from by rw [← hDd]; exact decide_eq_true ⟨.inl rfl,h1,rfl⟩);clear hDd;go_wp2_with fail;go_meet;exact ⟨by rw [hDv.out],rfl⟩
       ·have e1 : ([c,d] == [123,123]) = false:=by
         rw [beq_eq_false_iff_ne];intro h;injection h with h h';injection h' with h' _;exact h123 ⟨h,h'⟩
        by_cases h125 : c = 125∧d = 125
        ·obtain ⟨rfl,rfl⟩:=h125;have hDv:=hid (show D = true from by rw [← hDd]; exact decide_eq_true ⟨.inr rfl,h1,rfl⟩);clear hDd h123;go_wp2_with fail;go_meet;exact ⟨by rw [hDv.out],rfl⟩
        ·have e2 : ([c,d] == [125,125]) = false:=by
          rw [beq_eq_false_iff_ne];intro h;injection h with h h';injection h' with h' _;exact h125 ⟨h,h'⟩
         have hDv:=hid (show D = false from by
          rw [← hDd];refine decide_eq_false ?_;rintro ⟨h | h,_,h'⟩
          ·exact h123 ⟨h,h'.trans h⟩
          ·exact h125 ⟨h,h'.trans h⟩)
         clear hDd h123 h125;go_wp2_with fail;go_meet;exact ⟨by rw [hDv.out],rfl⟩
      ·have d1 : decide ((i:Int) + 1 < (x.lim:Int)) = false:=decide_eq_false (by omega);have hDv:=hid (show D = false from by rw [← HD.out]; exact decide_eq_false (fun e => h1 e.2.1));go_wp2_with fail;go_meet;exact ⟨by rw [hDv.out],rfl⟩
     case rest =>
      obtain ⟨rfl,rfl⟩:=hcut;have hgn1:=HGN.out i HG.out hlt;rcases D with _ | _
      rotate_left
      ·have hDv:=of_decide_eq_true HD.out;have HE3:=hid (show partF l x f' (i + 2) (t ++ [c]) out = E from by rw [← HE2.out,if_pos hDv]);have hne1 : at0 l i ≠ 92:=(by rw [HCI.out]; rcases hDv.1 with h | h <;> rw [h] <;> decide);have hne2 : at0 l (i + 1) ≠ 92:=(by rw [hDv.2.2]; rcases hDv.1 with h | h <;> rw [h] <;> decide);have HG2:=hid (HGN.out (i + 1) (hgn1 hne1) hDv.2.1 hne2);have hi2:=HGL.out (i + 2) HG2.out;have hadd : ∀ W : World,(Op.stringOp .add ⟨t.toArray⟩ ⟨#[c]⟩).run Tryz.prog W = .ok (.string ⟨(t ++ [c]).toArray⟩) W:=fun W => run_string_add_lists W t [c] (by omega) (by simp);clear hDv HE2 HD hne1 hne2 hgn1;go_wp2_with fail;go_roundw
       case rel => exact ⟨i + 2,f',t ++ [c],out,by go_num,rfl,rfl,HG2,by omega,HE3,by rw [List.length_append]; simp; omega,by omega,hC⟩
       case measure => simp [RowKit.intOf]; omega
      ·have hDv:=of_decide_eq_false HD.out
       by_cases h123 : c = 123
       ·have b123 : ((c.toNat:Int) == 123) = true:=(by rw [h123]; rfl);have hE3 : (match fieldS l x i with
         | .error j => .error j
         | .ok (p,j) => partF l x f' j [] (flushP out t ++ [p])) = E:=by rw [← HE2.out,if_neg hDv,if_pos h123]
        have hfg:=HFG.out i HG.out hlt (by rw [HCI.out]; exact h123);have hfx:=fun W => HFA.out W i hlt;obtain ⟨F,hF⟩ : ∃ F,fieldS l x i = F:=⟨_,rfl⟩;have HFLD:=hid (fun p j (h : F = .ok (p,j)) => fieldS_fld (hF.trans h));rw [hF] at hE3 hfg hfx;have hlf:=longP_flush out t;obtain ⟨L,hL⟩ : ∃ L,longP out = L:=⟨_,rfl⟩;rw [hL] at hlf ⊢;obtain ⟨O,hO⟩ : ∃ O,flushP out t = O:=⟨_,rfl⟩;have hOl : O.length ≤ out.length + 1:=(by rw [← hO]; unfold flushP; split <;> simp);have HFS:=hid (flushed_any (sb + 1) t _ out hC.own (by omega) hC.hBw);rw [hO] at hE3 hlf HFS;have HE3:=hid hE3;have HFG2:=hid hfg;have HFX:=hid hfx;have HLF:=hid hlf;clear hE3 hfg hfx hF hlf hL hO HE2 hDv HD hgn1 h123 q1 q2 q3;go_wp2_with fail;refine HFS.out.mono ?_;rintro e w4 ⟨v4,rfl,hown4,hg4⟩;have hC4:=hC.grow hg4 hown4;clear HFS hC hown4 hg4
        go_upto_region 22 with fail
        go_cut [8] from 94 to 99 (fun s wx => s = .bool (longP O)∧wx = w4)
        case first =>
         rcases L with _ | _
         ·by_cases h4 : 4000 < t.length
          ·have d4 : decide ((t.length:Int) > 4000) = true:=decide_eq_true (by omega);have hLO:=hid (show longP O = true from by rw [HLF.out,decide_eq_true h4]; rfl);clear h4;go_wp2_with fail;go_meet;exact ⟨by rw [hLO.out],rfl⟩
          ·have d4 : decide ((t.length:Int) > 4000) = false:=decide_eq_false (by omega);have hLO:=hid (show longP O = false from by rw [HLF.out,decide_eq_false h4]; rfl);clear h4;go_wp2_with fail;go_meet;exact ⟨by rw [hLO.out],rfl⟩
         ·have hLO:=hid (show longP O = true from by rw [HLF.out]; rfl);go_wp2_with fail;go_meet;exact ⟨by rw [hLO.out],rfl⟩
        case rest =>
         obtain ⟨rfl,rfl⟩:=hcut;have hC:=hC4;clear hC4 HLF;go_wp2_with refine wpList_load_row rfl 85 (.tmp 4) rfl sb rfl 85 #[.int .u8 (x.pre.toNat:Int),.int .u8 (x.quo.toNat:Int),.int .i64 (x.frm:Int),.int .i64 (x.lim:Int)] (0,0) _ hC.sh Tryz.underlying85 rfl (by kernel_rfl) ?_;refine (HFX.out _).mono ?_;rintro e w5 ⟨hb5,hp5⟩;have hC5:=hC.belowS hb5;have hN:=Blk.new w5 91 #[.bool false,.string ⟨#[]⟩,.int .i64 0,.string ⟨#[]⟩];clear hb5 HFX hC;rcases F with k | ⟨p,j⟩
         ·obtain ⟨C,hC4s,hCo,rfl⟩:=hp5;obtain ⟨c0,c1,c2,c3,rfl⟩:=arr4 hC4s;have HCO:=hid hCo;have HRR : Hid (R = .error (1,(k:Int))):=hid (by rw [HS1.out,← HE3.out]);have hC6:=hC5.belowS (Go.below_setRow ((Below.refl w5.heap.size w5).alloc (Nat.le_refl _) (.cells #[.bool false,.string ⟨#[]⟩,.int .i64 0,.string ⟨#[]⟩] 91)) (Nat.le_refl _) #[c0,c1,c2,c3]);clear hC4s hCo HE3 HFG2;go_wp2_with (refine wpList_store_row rfl 91 (.tmp 11) (.tmp 105) rfl w5.heap.size #[c0,c1,c2,c3] rfl rfl 91 #[.bool false,.string ⟨#[]⟩,.int .i64 0,.string ⟨#[]⟩] hN (by kernel_rfl) rfl HCO.out ?_)
          -- a fault is handed back
          refine (atR_any 1 ((k:Int)) _).mono ?_;rintro e w9 ⟨rfl,hb9⟩;have hF9:=(hC6.f).belowS hb9;have hbb9:=below_then hC6.bel hb9 (hC6.bel).size;clear hb9;unfold flt;go_wp2_with (refine wpList_store_row rfl 29 (.tmp 3) (.tmp 111) rfl w.heap.size #[.int .i64 1,.int .i64 ((k:Int))] rfl rfl 29 #[.int .i64 0,.int .i64 0] hF9 (by kernel_rfl) rfl (by simp [Value.oneCell']) ?_);refine ret_tmp_blk rfl rfl (hF9.setRow _) _ Tryz.underlying29 rfl (by kernel_rfl) rfl (.slice none 0 0) rfl ⟨Go.below_setRow hbb9 (Nat.le_refl _) _,?_⟩;rw [HRR.out];rfl
         ·have hfd:=HFLD.out p j rfl;obtain ⟨hgj,hij⟩:=HFG2.out p j rfl;have hjl:=HGL.out j hgj;have HE4:=hid (show partF l x f' j [] (O ++ [p]) = E from HE3.out);have HLP:=hid (longP_field O p hfd);have HGJ:=hid hgj;obtain ⟨pf,ptx,pc,psp⟩:=p;obtain rfl : e = .returned (.tuple #[.agg #[.bool pf,.string ⟨ptx.toArray⟩,.int .i64 pc,.string ⟨psp.toArray⟩],.int .i64 (j:Int),.bool true]):=hp5;obtain ⟨pt,hpt⟩ : ∃ pt : Prt,pt = ⟨pf,ptx,pc,psp⟩:=⟨_,rfl⟩;rw [← hpt] at HE4 HLP;have HPT:=hid hpt;clear hpt hfd hgj HE3 HFG2 HFLD;have hC6:=hC5.belowS (Go.below_setRow ((Below.refl w5.heap.size w5).alloc (Nat.le_refl _) (.cells #[.bool false,.string ⟨#[]⟩,.int .i64 0,.string ⟨#[]⟩] 91)) (Nat.le_refl _) #[.bool pf,.string ⟨ptx.toArray⟩,.int .i64 pc,.string ⟨psp.toArray⟩]);have hP6:=hN.setRow #[.bool pf,.string ⟨ptx.toArray⟩,.int .i64 pc,.string ⟨psp.toArray⟩];have m1 : O.length + 1 ≤ maxLen:=(by unfold maxLen; omega);have m2 : (O.length + 1) * 48 ≤ 140737488355328:=by omega
          go_upto_region 25 with (refine wpList_store_row rfl 91 (.tmp 11) (.tmp 105) rfl w5.heap.size #[.bool pf,.string ⟨ptx.toArray⟩,.int .i64 pc,.string ⟨psp.toArray⟩] rfl rfl 91 #[.bool false,.string ⟨#[]⟩,.int .i64 0,.string ⟨#[]⟩] hN (by kernel_rfl) rfl (by simp [Value.oneCell']) ?_)
          obtain ⟨pb,hpb⟩ : ∃ pb,w5.heap.size = pb:=⟨_,rfl⟩;have hsz : (((w5.alloc (.cells #[.bool false,.string ⟨#[]⟩,.int .i64 0,.string ⟨#[]⟩] 91)).setRow w5.heap.size #[.bool pf,.string ⟨ptx.toArray⟩,.int .i64 pc,.string ⟨psp.toArray⟩])).heap.size = pb + 1:=(by simp [World.setRow,hpb]);generalize (w5.alloc (.cells #[.bool false,.string ⟨#[]⟩,.int .i64 0,.string ⟨#[]⟩] 91)).setRow w5.heap.size #[.bool pf,.string ⟨ptx.toArray⟩,.int .i64 pc,.string ⟨psp.toArray⟩] = w6 at hC6 hP6 hsz ⊢;rw [hpb] at hP6 ⊢;have hC7:=hC6.belowS ((Below.refl w6.heap.size w6).alloc (Nat.le_refl _) (.cells #[.bool pf,.string ⟨ptx.toArray⟩,.int .i64 pc,.string ⟨psp.toArray⟩] 91));have hC6B:=hC7.hBw;obtain ⟨A4,c4,rfl,_,_⟩:=own_form hC6.own;clear hN hC5 hpb hsz;go_wp2_with (first | refine wpList_load_row rfl 91 (.tmp 11) rfl pb rfl 91 #[.bool pf,.string ⟨ptx.toArray⟩,.int .i64 pc,.string ⟨psp.toArray⟩] (0,0) _ hP6 Tryz.underlying91 rfl (by kernel_rfl) ?_ | (at_builtin; refine wpList_append_row _ rfl (.tmp 112) (.tmp 114) 37 rfl (sb + 1) 91 i0 (.agg #[.bool false,.string ByteArray.empty,.int .i64 0,.string ByteArray.empty]) 4 48 Tryz.underlying37 hi0 hz0 hz1 hz2 rfl (by decide) (.slice A4 O.length c4) O.length (O.flatMap prtc) rfl hC7.own (some ⟨w6.heap.size,0,none⟩) 1 1 [.bool pf,.string ⟨ptx.toArray⟩,.int .i64 pc,.string ⟨psp.toArray⟩] rfl rfl (Row.new w6 #[.bool pf,.string ⟨ptx.toArray⟩,.int .i64 pc,.string ⟨psp.toArray⟩] 91) (by simp [Value.oneCell']) m1 m2 hC6B ?_; intro v8 w8 hown8 hg8 hat8));have hC9:=hC7.grow (out':=O ++ [pt]) hg8 (by rw [List.length_append,List.flatMap_append,List.flatMap_singleton,HPT.out]; exact hown8);clear hC6 hC7 hP6 hown8 hg8;go_roundw
          case rel => exact ⟨j,f',[],O ++ [pt],rfl,rfl,by rw [HLP.out],HGJ,by omega,HE4,Nat.zero_le _,by rw [List.length_append]; simp; omega,hC9⟩
          case measure => simp [RowKit.intOf]; omega
       ·have b123 : ((c.toNat:Int) == 123) = false:=u8_ne (d:=123) h123
        by_cases h125 : c = 125
        ·have HRR : Hid (R = .error (1,(i:Int))):=hid (by rw [HS1.out,← HE2.out,if_neg (fun e => hDv e),if_neg h123,if_pos h125]);have b125 : ((c.toNat:Int) == 125) = true:=(by rw [h125]; rfl);clear hDv h123 h125 HE2 HD;go_wp2_with fail
         -- a fault is handed back
         refine (atR_any 1 ((i:Int)) _).mono ?_;rintro e w9 ⟨rfl,hb9⟩;have hF9:=(hC.f).belowS hb9;have hbb9:=below_then hC.bel hb9 (hC.bel).size;clear hb9;unfold flt;go_wp2_with (refine wpList_store_row rfl 29 (.tmp 3) (.tmp 123) rfl w.heap.size #[.int .i64 1,.int .i64 ((i:Int))] rfl rfl 29 #[.int .i64 0,.int .i64 0] hF9 (by kernel_rfl) rfl (by simp [Value.oneCell']) ?_);refine ret_tmp_blk rfl rfl (hF9.setRow _) _ Tryz.underlying29 rfl (by kernel_rfl) rfl (.slice none 0 0) rfl ⟨Go.below_setRow hbb9 (Nat.le_refl _) _,?_⟩;rw [HRR.out];rfl
        ·have b125 : ((c.toNat:Int) == 125) = false:=u8_ne (d:=125) h125;have hE3 : (match charS l x i with
          | .error j => .error j
          | .ok (n,j) => partF l x f' j (t ++ runeB n) out) = E:=by rw [← HE2.out,if_neg (fun e => hDv e),if_neg h123,if_neg h125]
         have hcg:=HCG.out i HG.out hlt;have HCH:=hid (HCA.out wc i HG.out hlt (he.keepB hC.bel).c);obtain ⟨C,hCC⟩ : ∃ C,charS l x i = C:=⟨_,rfl⟩;rw [hCC] at HCH hE3 hcg;have HKI:=hid (fun k (h : C = .error k) => charS_idx (hCC.trans h));have HE3:=hid hE3;have HCG2:=hid hcg;clear HE2 h123 h125 hCC hDv HD hE3 hcg hgn1;go_wp2_with refine wpList_load_row rfl 85 (.tmp 4) rfl sb rfl 85 #[.int .u8 (x.pre.toNat:Int),.int .u8 (x.quo.toNat:Int),.int .i64 (x.frm:Int),.int .i64 (x.lim:Int)] (0,0) _ hC.sh Tryz.underlying85 rfl (by kernel_rfl) ?_;refine HCH.out.mono ?_;rintro e w6 ⟨hb6,hp6⟩;have hC6:=hC.belowS hb6;clear q1 q2 q3 HCH hb6;rcases C with k | ⟨n,j⟩
         ·obtain ⟨c2,j2,rfl⟩:=hp6;have HRR : Hid (R = .error (1,(i:Int))):=hid (by rw [HS1.out,← HE3.out,HKI.out k rfl]);go_wp2_with fail
          -- a fault is handed back
          refine (atR_any 1 ((i:Int)) _).mono ?_;rintro e w9 ⟨rfl,hb9⟩;have hF9:=(hC6.f).belowS hb9;have hbb9:=below_then hC6.bel hb9 (hC6.bel).size;clear hb9;unfold flt;go_wp2_with (refine wpList_store_row rfl 29 (.tmp 3) (.tmp 69) rfl w.heap.size #[.int .i64 1,.int .i64 ((i:Int))] rfl rfl 29 #[.int .i64 0,.int .i64 0] hF9 (by kernel_rfl) rfl (by simp [Value.oneCell']) ?_);refine ret_tmp_blk rfl rfl (hF9.setRow _) _ Tryz.underlying29 rfl (by kernel_rfl) rfl (.slice none 0 0) rfl ⟨Go.below_setRow hbb9 (Nat.le_refl _) _,?_⟩;rw [HRR.out];rfl
         ·obtain rfl:=hp6;obtain ⟨hgj,hij,hn⟩:=HCG2.out n j rfl;have hjl:=HGL.out j hgj;have HE4:=hid (show partF l x f' j (t ++ runeB n) out = E from HE3.out);have hrl:=runeB_len n;have hCV:=run_rune_str n;have hadd : ∀ W : World,(Op.stringOp .add ⟨t.toArray⟩ ⟨(runeB n).toArray⟩).run Tryz.prog W = .ok (.string ⟨(t ++ runeB n).toArray⟩) W:=fun W => run_string_add_lists W t (runeB n) (by omega) (by omega);have HGJ:=hid hgj;clear HE3 HCG2 HKI hgj hC;go_wp2_with fail;go_roundw
          case rel => exact ⟨j,f',t ++ runeB n,out,rfl,rfl,rfl,HGJ,by omega,HE4,by rw [List.length_append]; omega,by omega,hC6⟩
          case measure => simp [RowKit.intOf]; omega
    ·have dlt : decide ((i:Int) < (x.lim:Int)) = false:=decide_eq_false (by omega);have hEo : E = .ok (flushP out t):=by
      have h:=HE1.out;rcases f with _ | f'
      ·omega
      ·unfold partF at h;rw [if_pos (by omega)] at h;exact h.symm
     have HS2:=hid (show R = if longP (flushP out t) = true then .error (14,-1) else .ok (flushP out t) from by rw [HS1.out,hEo]);have hlf:=longP_flush out t;obtain ⟨L,hL⟩ : ∃ L,longP out = L:=⟨_,rfl⟩;rw [hL] at hlf ⊢;obtain ⟨O,hO⟩ : ∃ O,flushP out t = O:=⟨_,rfl⟩;have HFS:=hid (flushed_any (sb + 1) t _ out hC.own (by omega) hC.hBw);rw [hO] at hlf HFS HS2;have HLF:=hid hlf;clear hlf hL hO hEo HE1;go_wp2_with fail;clear q1 q2 q3;refine HFS.out.mono ?_;rintro e w4 ⟨v4,rfl,hown4,hg4⟩;have hC4:=hC.grow hg4 hown4;clear HFS hC hown4 hg4
     by_cases hl4 : longP O = true
     ·have HRR : Hid (R = .error (14,-1)):=hid (by rw [HS2.out,if_pos hl4]);have hd:=HLF.out;rw [hl4] at hd;rcases L with _ | _
      ·have d4 : decide ((t.length:Int) > 4000) = true:=decide_eq_true (by have:=of_decide_eq_true (show decide (4000 < t.length) = true from by simpa using hd.symm); omega);clear hd hl4 HLF HS2;go_wp2_with fail
       -- a fault is handed back
       refine (atR_any 14 (-1) _).mono ?_;rintro e w9 ⟨rfl,hb9⟩;have hF9:=(hC4.f).belowS hb9;have hbb9:=below_then hC4.bel hb9 (hC4.bel).size;clear hb9;unfold flt;go_wp2_with (refine wpList_store_row rfl 29 (.tmp 3) (.tmp 133) rfl w.heap.size #[.int .i64 14,.int .i64 (-1)] rfl rfl 29 #[.int .i64 0,.int .i64 0] hF9 (by kernel_rfl) rfl (by simp [Value.oneCell']) ?_);refine ret_tmp_blk rfl rfl (hF9.setRow _) _ Tryz.underlying29 rfl (by kernel_rfl) rfl (.slice none 0 0) rfl ⟨Go.below_setRow hbb9 (Nat.le_refl _) _,?_⟩;rw [HRR.out];rfl
      ·clear hd hl4 HLF HS2;go_wp2_with fail
       -- a fault is handed back
       refine (atR_any 14 (-1) _).mono ?_;rintro e w9 ⟨rfl,hb9⟩;have hF9:=(hC4.f).belowS hb9;have hbb9:=below_then hC4.bel hb9 (hC4.bel).size;clear hb9;unfold flt;go_wp2_with (refine wpList_store_row rfl 29 (.tmp 3) (.tmp 133) rfl w.heap.size #[.int .i64 14,.int .i64 (-1)] rfl rfl 29 #[.int .i64 0,.int .i64 0] hF9 (by kernel_rfl) rfl (by simp [Value.oneCell']) ?_);refine ret_tmp_blk rfl rfl (hF9.setRow _) _ Tryz.underlying29 rfl (by kernel_rfl) rfl (.slice none 0 0) rfl ⟨Go.below_setRow hbb9 (Nat.le_refl _) _,?_⟩;rw [HRR.out];rfl
     ·have HRR : Hid (R = .ok O):=hid (by rw [HS2.out,if_neg hl4]);have hd:=HLF.out;rw [show longP O = false by simpa using hl4] at hd;rcases L with _ | _
      rotate_left
      ·cases hd
      have d4 : decide ((t.length:Int) > 4000) = false:=decide_eq_false (by have:=of_decide_eq_false (show decide (4000 < t.length) = false from by simpa using hd.symm); omega);have hF4:=hC4.f;clear hd hl4 HLF HS2;go_wp2_with (refine wpList_store_row rfl 29 (.tmp 3) (.tmp 135) rfl w.heap.size #[.int .i64 0,.int .i64 0] rfl rfl 29 #[.int .i64 0,.int .i64 0] hF4 (by kernel_rfl) rfl (by simp [Value.oneCell']) ?_);refine ret_tmp_blk rfl rfl (hF4.setRow _) _ Tryz.underlying29 rfl (by kernel_rfl) rfl _ rfl ⟨Go.below_setRow hC4.bel (Nat.le_refl _) _,?_⟩;rw [HRR.out];exact ⟨_,rfl,own_mono (own_setRow hC4.own (by have:=hC4.hs; omega) _) (by have:=hC4.hs; omega)⟩
end
section
open Go.RowKit Go.Lib Go.Sort
theorem flushP_len (out : List Prt) (t : List UInt8) : (flushP out t).length ≤ out.length + 1:=by
 unfold flushP;split
 ·omega
 ·simp
theorem partF_len {l : List UInt8} {x : Sht} : ∀ (f i:Nat) (t : List UInt8) (out ps : List Prt),partF l x f i t out = .ok ps → ps.length ≤ out.length + 2 * f + 1
 | 0,i,t,out,ps,h => by unfold partF at h; cases h
 | f + 1,i,t,out,ps,h => by
  unfold partF at h;split at h
  ·injection h with h;subst h;have:=flushP_len out t;omega
  ·split at h
   ·have:=partF_len f _ _ _ _ h;omega
   ·split at h
    ·split at h
     ·cases h
     ·have h1:=partF_len f _ _ _ _ h;have h2:=flushP_len out t;rw [List.length_append,List.length_singleton] at h1;omega
    ·split at h
     ·cases h
     ·split at h
      ·cases h
      ·have:=partF_len f _ _ _ _ h;omega
theorem partsS_len {l : List UInt8} {ps : List Prt} (h : partsS l = .ok ps) : ps.length ≤ 100000:=by
 unfold partsS at h;split at h
 ·cases h
 ·rename_i hs;have h16:=isStr_16 (l:=l) (by simpa using hs);split at h
  ·cases h
  ·split at h
   ·cases h
   ·rename_i ps' hp;split at h
    ·cases h
    ·injection h with h;subst h;have:=partF_len _ _ _ _ _ hp;simp at this;omega
end
end Go.Proofs.YtonehlkiackhcaaGreatDoor