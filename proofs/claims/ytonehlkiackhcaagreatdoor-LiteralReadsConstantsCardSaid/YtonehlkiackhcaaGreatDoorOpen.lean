/- Arguments that are slices of integers or of structs of integers read as lists. Nothing is claimed here. -/
import Derived.Test.YtonehlkiackhcaaGreatDoorLitRd
import Derived.Test.YtonehlkiackhcaaGreatDoorLitSp
import Derived.Test.YtonehlkiackhcaaGreatDoorSeqI
import Derived.Deep.Slices
import Derived.Deep.Fields
import Derived.ChangeSame
import Derived.ProofKit
import Derived.OpenShut
set_option linter.unusedVariables false
set_option maxRecDepth 100000
set_option maxHeartbeats 16000000
namespace Go.Proofs.YtonehlkiackhcaaGreatDoor
open Go.RowKit Go.Lib Go.Sort
structure Cst where
 k : Int
 ln : List Nat
 ld : List Nat
 t : List UInt8
 fc : Int
 fi : Int
def numK : NumR → Cst
 | .fault c => ⟨0,[],[],[],c,-1⟩
 | .whole n => ⟨2,lg n,[],[],0,0⟩
 | .point n p => if (outS n p 2).2 = 1 then ⟨2,lg (outS n p 2).1,[],[],0,0⟩ else ⟨3,lg (outS n p 2).1,lg (outS n p 2).2,[],0,0⟩
def strK : Except (Int × Int) (Int × List UInt8) → Cst
 | .error (c,i) => ⟨0,[],[],[],c,i⟩
 | .ok (k,t) => ⟨k,[],[],t,0,0⟩
def CsPost (w : World) (K : Cst) (e : Ending) (w' : World) : Prop:=Below w.heap.size w w' ∧ ∃ A1 c1 A2 c2,e = .returned (.tuple #[.agg #[.int .i64 K.k,.bool false,.slice A1 K.ln.length c1,.bool false,.slice A2 K.ld.length c2,.string ⟨K.t.toArray⟩,.int .i64 0],flt K.fc K.fi]) ∧ Row w' A1 (u32s K.ln) ∧ Row w' A2 (u32s K.ld)
theorem nu_cs {w : World} {R : NumR} {e : Ending} {w' : World} (h : NuPost w R e w') : CsPost w (numK R) e w':=by
 obtain ⟨hb,h⟩:=h;refine ⟨hb,?_⟩;rcases R with c | n | ⟨n,p⟩
 ·exact ⟨none,0,none,0,h,.inl rfl,.inl rfl⟩
 ·obtain ⟨v,h,A,c,hr,hv⟩:=h;rw [if_pos rfl] at hv;subst hv;exact ⟨A,c,none,0,h,hr,.inl rfl⟩
 ·obtain ⟨v,h,A,c,hr,hv⟩:=h;unfold numK;split at hv
  ·rename_i h1;subst hv;simp only [if_pos h1];exact ⟨A,c,none,0,h,hr,.inl rfl⟩
  ·rename_i h1;obtain ⟨A',c',hr',hv⟩:=hv;subst hv;simp only [if_neg h1];exact ⟨A,c,A',c',h,hr,hr'⟩
theorem st_cs {w : World} {R : Except (Int × Int) (Int × List UInt8)} {e : Ending} {w' : World} (h : StPost w R e w') : CsPost w (strK R) e w':=by
 obtain ⟨hb,h⟩:=h;refine ⟨hb,?_⟩;rcases R with ⟨c,i⟩ | ⟨k,t⟩
 ·exact ⟨none,0,none,0,h,.inl rfl,.inl rfl⟩
 ·exact ⟨none,0,none,0,h,.inl rfl,.inl rfl⟩
theorem num_len {B : Nat} (hB : B ≤ 16) {s cs : List UInt8} (hd : ∀ i : Fin 256,cs.contains (UInt8.ofNat i.val) = true → isDg B (UInt8.ofNat i.val) = true) (h : onlyV s cs = true) (hl : s.length ≤ 1000) : (lg (numV B s)).length ≤ 1000 :=
 Nat.le_trans (dig_numV_len B (by omega) s (fun c hc => isDg_lt (only_dg hd h c hc))) hl
theorem num_bd (s : List UInt8) : (numK (numR s)).ln.length ≤ 100000 ∧ (numK (numR s)).ld.length ≤ 100000:=by
 unfold numR;split
 ·exact ⟨Nat.zero_le _,Nat.zero_le _⟩
 ·rename_i h6;split
  ·rename_i h;exact ⟨Nat.le_trans (num_len (by decide) dg16 h.2 (by rw [List.length_drop]; omega)) (by decide),Nat.zero_le _⟩
  ·split
   ·rename_i h;exact ⟨Nat.le_trans (num_len (by decide) dg2 h.2 (by rw [List.length_drop]; omega)) (by decide),Nat.zero_le _⟩
   ·split
    ·rename_i h;obtain ⟨⟨u,f,b⟩,hc⟩ : ∃ x,cut s [46] = x:=⟨_,rfl⟩;rw [hc] at h;obtain ⟨hd,hb⟩:=h;simp only at hd hb;subst hb;obtain rfl:=(cut_nof hc).1;exact ⟨Nat.le_trans (num_len (by decide) dg10 (dec_only hd) (by omega)) (by decide),Nat.zero_le _⟩
    ·split
     ·rename_i h;obtain ⟨⟨u,f,b⟩,hc⟩ : ∃ x,cut s [46] = x:=⟨_,rfl⟩;rw [hc] at h ⊢;obtain ⟨hd,hf⟩:=h;simp only at hd hf ⊢;have hl:=cut_yes hc;have h1 : (lg (numV 10 (u ++ f))).length ≤ 1000:=Nat.le_trans (dig_numV_len 10 (by decide) (u ++ f) (fun c hc => by
       rcases List.mem_append.1 hc with h | h
       ·exact isDg_lt (only_dg dg10 (dec_only hd) c h)
       ·exact isDg_lt (only_dg dg10 hf c h))) (by rw [List.length_append]; omega)
      have h2:=outS_le (numV 10 (u ++ f)) f.length (Nat.le_refl 2);have h3:=Nat.le_trans (lg_mono h2.1) h1;have h4:=Nat.le_trans (lg_mono h2.2) (one_bd f.length (by omega))
      by_cases h5 : (outS (numV 10 (u ++ f)) f.length 2).2 = 1
      ·simp only [numK,if_pos h5];exact ⟨by omega,Nat.zero_le _⟩
      ·simp only [numK,if_neg h5];exact ⟨by omega,by omega⟩
     ·exact ⟨Nat.zero_le _,Nat.zero_le _⟩
theorem str_bd (s : List UInt8) : (strK (strS s)).ln = [] ∧ (strK (strS s)).ld = []:=by
 rcases h : strS s with ⟨c,i⟩ | ⟨k,t⟩
 ·exact ⟨rfl,rfl⟩
 ·exact ⟨rfl,rfl⟩
theorem constsLaw_any (l : List UInt8) (w : World) (hl : l.length ≤ 9223372036854775807) (he : REnv w) (htab : Lib.TabIs Tryz.prog w "internal/strconv.uint64pow10" .u64 Lib.pow10Tab) :
  Calls Tryz.prog 4 #[.string ⟨l.toArray⟩] w fun e w' => e = .returned (.bool true) ∧ RowKit.Below w.heap.size w w':=by
 go_enter Tryz.func4,Tryz.ntmps4;go_wp2_with fail;refine (spells_any w he htab).mono ?_;rintro e w1 ⟨rfl,hb1⟩;have he1:=he.keepB hb1;clear he htab;obtain ⟨hn1,hn2⟩:=num_bd l;obtain ⟨hs1,hs2⟩:=str_bd l;have HN1:=Lib.hid (fun W h => (litnum_any l W hl h).mono fun e w' h => nu_cs h);have HN2:=Lib.hid (fun W h => (numof_any l W hl h).mono fun e w' h => nu_cs h);have HS1:=Lib.hid (fun W h => (string_any l W hl h).mono fun e w' h => st_cs h);have HS2:=Lib.hid (fun W h => (stringOf_any l W hl h).mono fun e w' h => st_cs h);obtain ⟨N,hN⟩ : ∃ N,numK (numR l) = N:=⟨_,rfl⟩;obtain ⟨S,hS⟩ : ∃ S,strK (strS l) = S:=⟨_,rfl⟩;rw [hN] at hn1 hn2 HN1 HN2;rw [hS] at hs1 hs2 HS1 HS2;clear hN hS;obtain ⟨nk,nl,nd,nt,nf,ni⟩:=N;obtain ⟨sk,sl,sd,st,sf,si⟩:=S;dsimp only at hn1 hn2 hs1 hs2;subst hs1 hs2;go_wp2_with fail;refine (HN1.out w1 he1.lim).mono ?_;rintro e w2 ⟨ba,A1,c1,A2,c2,rfl,hrA,hrB⟩;have he2:=he1.keepB ba;have hb2:=below_then hb1 ba hb1.size;clear ba he1 hb1 HN1;dsimp only at hrA hrB ⊢;unfold flt;go_wp2_with fail;have hnV:=(Blk.new w2 26 #[.int .i64 nk,.bool false,.slice A1 (nl.length) c1,.bool false,.slice A2 (nd.length) c2,.string ⟨(nt).toArray⟩,.int .i64 0]).alloc (.cells #[.int .i64 nf,.int .i64 ni] 29);have hnF:=Blk.new (w2.alloc (.cells #[.int .i64 nk,.bool false,.slice A1 (nl.length) c1,.bool false,.slice A2 (nd.length) c2,.string ⟨(nt).toArray⟩,.int .i64 0] 26)) 29 #[.int .i64 nf,.int .i64 ni];rw [show (w2.alloc (.cells #[.int .i64 nk,.bool false,.slice A1 (nl.length) c1,.bool false,.slice A2 (nd.length) c2,.string ⟨(nt).toArray⟩,.int .i64 0] 26)).heap.size = w2.heap.size + 1 from by simp] at hnF;have ba1:=(Below.refl w2.heap.size w2).alloc (Nat.le_refl _) (.cells #[.int .i64 nk,.bool false,.slice A1 (nl.length) c1,.bool false,.slice A2 (nd.length) c2,.string ⟨(nt).toArray⟩,.int .i64 0] 26);have ba:=ba1.alloc ba1.size (.cells #[.int .i64 nf,.int .i64 ni] 29);obtain ⟨w3,hwj⟩ : ∃ wj,(w2.alloc (.cells #[.int .i64 nk,.bool false,.slice A1 (nl.length) c1,.bool false,.slice A2 (nd.length) c2,.string ⟨(nt).toArray⟩,.int .i64 0] 26)).alloc (.cells #[.int .i64 nf,.int .i64 ni] 29) = wj:=⟨_,rfl⟩;obtain ⟨bnf,hbf⟩ : ∃ bf,w2.heap.size + 1 = bf:=⟨_,rfl⟩;obtain ⟨bnv,hbv⟩ : ∃ bv,w2.heap.size = bv:=⟨_,rfl⟩;rw [hwj,hbv] at hnV;rw [hwj,hbf] at hnF;rw [hwj] at ba;rw [hwj,hbf,hbv];clear hwj hbf ba1;clear hbv;have he3:=he2.keepB ba;have hb3:=below_then hb2 ba hb2.size;have hrA3:=hrA.keepB ba;have hrB3:=hrB.keepB ba;clear ba he2 hb2 hrA hrB;refine (HN2.out w3 he3.lim).mono ?_;rintro e w4 ⟨ba,A3,c3,A4,c4,rfl,hrC,hrD⟩;have he4:=he3.keepB ba;have hb4:=below_then hb3 ba hb3.size;have hrA4:=hrA3.keepB ba;have hrB4:=hrB3.keepB ba;have hnV4:=hnV.belowS ba;have hnF4:=hnF.belowS ba;clear ba he3 hb3 hrA3 hrB3 hnV hnF HN2;dsimp only at hrC hrD ⊢;unfold flt;go_wp2_with fail;have hmV:=(Blk.new w4 26 #[.int .i64 nk,.bool false,.slice A3 (nl.length) c3,.bool false,.slice A4 (nd.length) c4,.string ⟨(nt).toArray⟩,.int .i64 0]).alloc (.cells #[.int .i64 nf,.int .i64 ni] 29);have hmF:=Blk.new (w4.alloc (.cells #[.int .i64 nk,.bool false,.slice A3 (nl.length) c3,.bool false,.slice A4 (nd.length) c4,.string ⟨(nt).toArray⟩,.int .i64 0] 26)) 29 #[.int .i64 nf,.int .i64 ni];rw [show (w4.alloc (.cells #[.int .i64 nk,.bool false,.slice A3 (nl.length) c3,.bool false,.slice A4 (nd.length) c4,.string ⟨(nt).toArray⟩,.int .i64 0] 26)).heap.size = w4.heap.size + 1 from by simp] at hmF;have ba1:=(Below.refl w4.heap.size w4).alloc (Nat.le_refl _) (.cells #[.int .i64 nk,.bool false,.slice A3 (nl.length) c3,.bool false,.slice A4 (nd.length) c4,.string ⟨(nt).toArray⟩,.int .i64 0] 26);have ba:=ba1.alloc ba1.size (.cells #[.int .i64 nf,.int .i64 ni] 29);obtain ⟨w5,hwj⟩ : ∃ wj,(w4.alloc (.cells #[.int .i64 nk,.bool false,.slice A3 (nl.length) c3,.bool false,.slice A4 (nd.length) c4,.string ⟨(nt).toArray⟩,.int .i64 0] 26)).alloc (.cells #[.int .i64 nf,.int .i64 ni] 29) = wj:=⟨_,rfl⟩
 obtain ⟨bmf,hbf⟩ : ∃ bf,w4.heap.size + 1 = bf:=⟨_,rfl⟩;obtain ⟨bmv,hbv⟩ : ∃ bv,w4.heap.size = bv:=⟨_,rfl⟩;rw [hwj,hbv] at hmV;rw [hwj,hbf] at hmF;rw [hwj] at ba;rw [hwj,hbf,hbv];clear hwj hbf ba1;clear hbv;have he5:=he4.keepB ba;have hb5:=below_then hb4 ba hb4.size;have hrA5:=hrA4.keepB ba;have hrB5:=hrB4.keepB ba;have hrC5:=hrC.keepB ba;have hrD5:=hrD.keepB ba;have hnV5:=hnV4.belowS ba;have hnF5:=hnF4.belowS ba;clear ba he4 hb4 hrA4 hrB4 hrC hrD hnV4 hnF4;refine (HS1.out w5 he5.c.l).mono ?_;rintro e w6 ⟨ba,A5,c5,A6,c6,rfl,-,-⟩;have he6:=he5.keepB ba;have hb6:=below_then hb5 ba hb5.size;have hrA6:=hrA5.keepB ba;have hrB6:=hrB5.keepB ba;have hrC6:=hrC5.keepB ba;have hrD6:=hrD5.keepB ba;have hnV6:=hnV5.belowS ba;have hnF6:=hnF5.belowS ba;have hmV6:=hmV.belowS ba;have hmF6:=hmF.belowS ba;clear ba he5 hb5 hrA5 hrB5 hrC5 hrD5 hnV5 hnF5 hmV hmF HS1;dsimp only;unfold flt;rw [show (([] : List Nat)).length = 0 from rfl];go_wp2_with fail;have hsV:=(Blk.new w6 26 #[.int .i64 sk,.bool false,.slice A5 (0) c5,.bool false,.slice A6 (0) c6,.string ⟨(st).toArray⟩,.int .i64 0]).alloc (.cells #[.int .i64 sf,.int .i64 si] 29);have hsF:=Blk.new (w6.alloc (.cells #[.int .i64 sk,.bool false,.slice A5 (0) c5,.bool false,.slice A6 (0) c6,.string ⟨(st).toArray⟩,.int .i64 0] 26)) 29 #[.int .i64 sf,.int .i64 si];rw [show (w6.alloc (.cells #[.int .i64 sk,.bool false,.slice A5 (0) c5,.bool false,.slice A6 (0) c6,.string ⟨(st).toArray⟩,.int .i64 0] 26)).heap.size = w6.heap.size + 1 from by simp] at hsF;have ba1:=(Below.refl w6.heap.size w6).alloc (Nat.le_refl _) (.cells #[.int .i64 sk,.bool false,.slice A5 (0) c5,.bool false,.slice A6 (0) c6,.string ⟨(st).toArray⟩,.int .i64 0] 26);have ba:=ba1.alloc ba1.size (.cells #[.int .i64 sf,.int .i64 si] 29);obtain ⟨w7,hwj⟩ : ∃ wj,(w6.alloc (.cells #[.int .i64 sk,.bool false,.slice A5 (0) c5,.bool false,.slice A6 (0) c6,.string ⟨(st).toArray⟩,.int .i64 0] 26)).alloc (.cells #[.int .i64 sf,.int .i64 si] 29) = wj:=⟨_,rfl⟩;obtain ⟨bsf,hbf⟩ : ∃ bf,w6.heap.size + 1 = bf:=⟨_,rfl⟩;obtain ⟨bsv,hbv⟩ : ∃ bv,w6.heap.size = bv:=⟨_,rfl⟩;rw [hwj,hbv] at hsV;rw [hwj,hbf] at hsF;rw [hwj] at ba;rw [hwj,hbf,hbv];clear hwj hbf ba1;clear hbv;have he7:=he6.keepB ba;have hb7:=below_then hb6 ba hb6.size;have hrA7:=hrA6.keepB ba;have hrB7:=hrB6.keepB ba;have hrC7:=hrC6.keepB ba;have hrD7:=hrD6.keepB ba;have hnV7:=hnV6.belowS ba;have hnF7:=hnF6.belowS ba;have hmV7:=hmV6.belowS ba;have hmF7:=hmF6.belowS ba;clear ba he6 hb6 hrA6 hrB6 hrC6 hrD6 hnV6 hnF6 hmV6 hmF6;refine (HS2.out w7 he7).mono ?_;rintro e w8 ⟨ba,A7,c7,A8,c8,rfl,-,-⟩;have hb8:=below_then hb7 ba hb7.size;have hrA8:=hrA7.keepB ba;have hrB8:=hrB7.keepB ba;have hrC8:=hrC7.keepB ba;have hrD8:=hrD7.keepB ba;have hnV8:=hnV7.belowS ba;have hnF8:=hnF7.belowS ba;have hmV8:=hmV7.belowS ba;have hmF8:=hmF7.belowS ba;have hsV8:=hsV.belowS ba;have hsF8:=hsF.belowS ba;clear ba he7 hb7 hrA7 hrB7 hrC7 hrD7 hnV7 hnF7 hmV7 hmF7 hsV hsF HS2;dsimp only;unfold flt;rw [show (([] : List Nat)).length = 0 from rfl]
 go_upto_region 7 with fail
 have hrV:=(Blk.new w8 26 #[.int .i64 sk,.bool false,.slice A7 (0) c7,.bool false,.slice A8 (0) c8,.string ⟨(st).toArray⟩,.int .i64 0]).alloc (.cells #[.int .i64 sf,.int .i64 si] 29);have hrF:=Blk.new (w8.alloc (.cells #[.int .i64 sk,.bool false,.slice A7 (0) c7,.bool false,.slice A8 (0) c8,.string ⟨(st).toArray⟩,.int .i64 0] 26)) 29 #[.int .i64 sf,.int .i64 si];rw [show (w8.alloc (.cells #[.int .i64 sk,.bool false,.slice A7 (0) c7,.bool false,.slice A8 (0) c8,.string ⟨(st).toArray⟩,.int .i64 0] 26)).heap.size = w8.heap.size + 1 from by simp] at hrF;have ba1:=(Below.refl w8.heap.size w8).alloc (Nat.le_refl _) (.cells #[.int .i64 sk,.bool false,.slice A7 (0) c7,.bool false,.slice A8 (0) c8,.string ⟨(st).toArray⟩,.int .i64 0] 26);have ba:=ba1.alloc ba1.size (.cells #[.int .i64 sf,.int .i64 si] 29);obtain ⟨w9,hwj⟩ : ∃ wj,(w8.alloc (.cells #[.int .i64 sk,.bool false,.slice A7 (0) c7,.bool false,.slice A8 (0) c8,.string ⟨(st).toArray⟩,.int .i64 0] 26)).alloc (.cells #[.int .i64 sf,.int .i64 si] 29) = wj:=⟨_,rfl⟩;obtain ⟨brf,hbf⟩ : ∃ bf,w8.heap.size + 1 = bf:=⟨_,rfl⟩;obtain ⟨brv,hbv⟩ : ∃ bv,w8.heap.size = bv:=⟨_,rfl⟩;rw [hwj,hbv] at hrV;rw [hwj,hbf] at hrF;rw [hwj] at ba;rw [hwj,hbf,hbv];clear hwj hbf ba1;clear hbv;have hb9:=below_then hb8 ba hb8.size;have hrA9:=hrA8.keepB ba;have hrB9:=hrB8.keepB ba;have hrC9:=hrC8.keepB ba;have hrD9:=hrD8.keepB ba;have hnV9:=hnV8.belowS ba;have hnF9:=hnF8.belowS ba;have hmV9:=hmV8.belowS ba;have hmF9:=hmF8.belowS ba;have hsV9:=hsV8.belowS ba;have hsF9:=hsF8.belowS ba;clear ba hb8 hrA8 hrB8 hrC8 hrD8 hnV8 hnF8 hmV8 hmF8 hsV8 hsF8;have HQ1:=Lib.hid (sconst_any (w:=w9) nk 0 nl nd nt A1 A2 A3 A4 c1 c2 c3 c4 hn1 hn2 hrA9 hrB9 hrC9 hrD9);have HQ2:=Lib.hid (fun W => sconst_any (w:=W) sk 0 [] [] st A5 A6 A7 A8 c5 c6 c7 c8 (by simp) (by simp) (.inl rfl) (.inl rfl) (.inl rfl) (.inl rfl));clear hrA9 hrB9 hrC9 hrD9 hn1 hn2;unfold valD at HQ1 HQ2;obtain ⟨a1,a2,a3⟩:=hnV9.rules;obtain ⟨b1,b2,b3⟩:=hnF9.rules;obtain ⟨d1,d2,d3⟩:=hmV9.rules;obtain ⟨e1,e2,e3⟩:=hmF9.rules;go_wp2_with fail;refine HQ1.out.mono ?_;rintro e w10 ⟨rfl,ba⟩;have hb10:=below_then hb9 ba hb9.size;have hsV10:=hsV9.belowS ba;have hsF10:=hsF9.belowS ba;have hrV10:=hrV.belowS ba;have hrF10:=hrF.belowS ba;clear ba hb9 hsV9 hsF9 hrV hrF a1 a2 a3 b1 b2 b3 d1 d2 d3 e1 e2 e3 hnV9 hnF9 hmV9 hmF9 HQ1;obtain ⟨a1,a2,a3⟩:=hsV10.rules;obtain ⟨b1,b2,b3⟩:=hsF10.rules;obtain ⟨d1,d2,d3⟩:=hrV10.rules;obtain ⟨e1,e2,e3⟩:=hrF10.rules;go_wp2_with fail;refine (HQ2.out _).mono ?_;rintro e w11 ⟨rfl,ba⟩;have hb11:=below_then hb10 ba hb10.size;clear ba hb10 a1 a2 a3 b1 b2 b3 d1 d2 d3 e1 e2 e3 hsV10 hsF10 hrV10 hrF10 HQ2;go_wp2_with fail;go_ret;exact ⟨rfl,hb11⟩
end Go.Proofs.YtonehlkiackhcaaGreatDoor

namespace Go.Proofs.YtonehlkiackhcaaGreatDoor
open Go.ChangeShapes Go.WideShapes Go.Deep Go.RowKit
section
variable {H : Type} {enc : TypeId × Value → H} {P : Program} {w : World} {base : Nat} {spare : Nat → Bool} {held : Bool}
end
end Go.Proofs.YtonehlkiackhcaaGreatDoor
