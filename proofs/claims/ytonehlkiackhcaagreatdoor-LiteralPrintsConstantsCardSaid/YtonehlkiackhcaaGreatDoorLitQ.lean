/- The literals: the parts of a formatted string. Nothing is claimed here. -/
import Derived.Test.YtonehlkiackhcaaGreatDoorQTailD
set_option linter.unusedVariables false
set_option linter.unusedSimpArgs false
set_option maxRecDepth 100000
set_option maxHeartbeats 16000000
namespace Go.Proofs.YtonehlkiackhcaaGreatDoor
open Go.RowKit Go.Lib Go.Sort
attribute [local go_sem] steady
theorem parts1_idle (q p:Nat) (v : Value) (w : World) (hq : Blk w q 29 #[.int .i64 0,.int .i64 0]) :
  CallsD Tryz.prog 56 #[.pointer (some ⟨q,0,none⟩),.pointer (some ⟨p,0,none⟩)] .returning w fun e u' w' => e = .returned (.tuple #[])∧u' = .returning∧w' = w:=by
 refine callsD_of_wpS Tryz.func56 rfl fun c₀ cs hu => ?_;simp only [Tryz.ntmps56,List.size_toArray,List.length_cons,List.length_nil,Nat.reduceAdd,Nat.reduceSub,Array.replicate_succ,Array.replicate_zero,List.push_toArray,List.append_toArray,List.nil_append,List.cons_append];refine wpS_of_wp ?_;obtain ⟨p1,p2,p3⟩:=hq.rules;go_wp2_with fail;cases c₀
 simp_all [bodyPostS,results,Tryz.results56]
theorem parts1_pan (q p:Nat) (c i:Int) (v : Value) (w : World) (hc : c ≠ 0) (hq : Blk w q 29 #[.int .i64 c,.int .i64 i]) (hp : Blk w p 37 #[v]) :
  CallsD Tryz.prog 56 #[.pointer (some ⟨q,0,none⟩),.pointer (some ⟨p,0,none⟩)] .returning w fun e u' w' => e = .returned (.tuple #[])∧u' = .returning∧w' = w.setCell ⟨p,0,none⟩ (.slice none 0 0):=by
 refine callsD_of_wpS Tryz.func56 rfl fun c₀ cs hu => ?_;simp only [Tryz.ntmps56,List.size_toArray,List.length_cons,List.length_nil,Nat.reduceAdd,Nat.reduceSub,Array.replicate_succ,Array.replicate_zero,List.push_toArray,List.append_toArray,List.nil_append,List.cons_append];refine wpS_of_wp ?_;obtain ⟨p1,p2,p3⟩:=hq.rules;obtain ⟨q1,q2,q3⟩:=hp.rules;have hcb : (c == 0) = false:=by rw [beq_eq_false_iff_ne]; exact hc
 clear hc;go_wp2_with fail;cases c₀
 simp_all [bodyPostS,results,Tryz.results56]
theorem res_parts {w : World} {tmps : Array Value} {p : Nat} {v : Value} {c i : Int} (h2 : tmps.getD 2 undef = .pointer (some ⟨p,0,none⟩)) (h3 : tmps.getD 3 undef = .pointer (some ⟨p + 1,0,none⟩)) (hP : Blk w p 37 #[v]) (hQ : Blk w (p + 1) 29 #[.int .i64 c,.int .i64 i]) :
  (results Tryz.f15 tmps).run Tryz.prog w = .ok (.tuple #[v,flt c i]) w:=by
 have h2' : tmps[2]?.getD undef = .pointer (some ⟨p,0,none⟩):=by simpa using h2
 have h3' : tmps[3]?.getD undef = .pointer (some ⟨p + 1,0,none⟩):=by simpa using h3
 have hc:=hP.cell 0;have hc0:=hQ.cell 0;have hc1:=hQ.cell 1;have hd:=run_loadVar_row w (p + 1) 29 29 #[.int .i64 c,.int .i64 i] (0,0) _ hQ Tryz.underlying29 rfl (by kernel_rfl);simp [results,Tryz.results15,h2',h3',asAddr,hd,go_sem,hc,hc0,hc1,flt]
theorem parts_put (a : Act) (d:Nat) (v : Value) (hd : 4 ≤ d) {R : Ending → World → Prop} {c : List PanicEntry} {w : World} (h : bodyPostD Tryz.prog Tryz.f15 R (.panic c) (a.put (some d) v) w) : bodyPostD Tryz.prog Tryz.f15 R (.panic c) a w:=by
 refine Leaves.congr ?_ _ _ _ h;have h2 : (a.put (some d) v).tmps.getD 2 undef = a.tmps.getD 2 undef:=by
  simp [Act.put,Array.getElem?_setIfInBounds,show ¬ d = 2 by omega]
 have h3 : (a.put (some d) v).tmps.getD 3 undef = a.tmps.getD 3 undef:=by
  simp [Act.put,Array.getElem?_setIfInBounds,show ¬ d = 3 by omega]
 have e : Tryz.f15.results = #[.cell 2 37,.cell 3 29]:=rfl;simp only [results,e];simp only [Array.mapM_eq_foldlM,List.foldlM_toArray,Array.foldlM_toList,List.foldlM_cons,List.foldlM_nil,h2,h3]
def PaPost (w : World) (R : Except (Int × Int) (List Prt)) (e : Ending) (w' : World) : Prop :=
 Below w.heap.size w w'∧match R with
 | .error (c,i) => e = .returned (.tuple #[.slice none 0 0,flt c i])
 | .ok ps => ∃ v,e = .returned (.tuple #[v,flt 0 0])∧w'.ownsRow w.heap.size 91 4 v ps.length (ps.flatMap prtc)
theorem run_rune_str (n:Nat) (W : World) : (convert 21 9 (.int .i32 (n:Int))).run Tryz.prog W = .ok (.string ⟨(runeB n).toArray⟩) W:=by
 rw [← enc_ba];simp [convert,run_underlying Tryz.underlying21,run_underlying Tryz.underlying9,Conv.intToString]
structure PaC (w : World) (l : List UInt8) (x : Sht) (g tb B:Nat) (wr : World) (i:Nat) (t : List UInt8) (out : List Prt) (v : Value) : Prop where
 hg : w.heap.size + 2 ≤ g
 hgt : g < tb
 htB : tb < B
 rd : Blk wr g 70 (rdC l i x)
 q : Blk wr (w.heap.size + 1) 29 #[.int .i64 0,.int .i64 0]
 p : Blk wr w.heap.size 37 #[v]
 tx : Blk wr tb 9 #[.string ⟨t.toArray⟩]
 own : wr.ownsRow B 91 4 v out.length (out.flatMap prtc)
 bel : Below w.heap.size w wr
 hB : B ≤ wr.heap.size
section
variable {w wr wr' : World} {l : List UInt8} {x : Sht} {g tb B i : Nat} {t : List UInt8} {out : List Prt} {v : Value}
theorem PaC.belowS (h : PaC w l x g tb B wr i t out v) (hb : Below wr.heap.size wr wr') : PaC w l x g tb B wr' i t out v :=
 ⟨h.hg,h.hgt,h.htB,h.rd.belowS hb,h.q.belowS hb,h.p.belowS hb,h.tx.belowS hb,own_below h.own hb,below_then h.bel hb h.bel.size,Nat.le_trans h.hB hb.size⟩
theorem PaC.bx (h : PaC w l x g tb B wr i t out v) (hx : BX g wr wr') {j : Nat} (hr : Blk wr' g 70 (rdC l j x)) : PaC w l x g tb B wr' j t out v :=
 ⟨h.hg,h.hgt,h.htB,hr,hx.blk h.q (by have:=h.hg; omega),hx.blk h.p (by have:=h.hg; omega),hx.blk h.tx (by have:=h.hgt; omega),hx.own h.own (fun e => by have:=(h.own.lt g e).1; have:=h.hgt; have:=h.htB; omega),hx.bel h.bel (by have:=h.hg; omega) h.bel.size,Nat.le_trans h.hB hx.size⟩
theorem PaC.at_ (h : PaC w l x g tb B wr i t out v) (j:Nat) : PaC w l x g tb B (wr.setCell ⟨g,1,none⟩ (.int .i64 (j:Int))) j t out v :=
 h.bx ((BX.refl g wr).set (p:=⟨g,1,none⟩) rfl _) (h.rd.set_ 1 (.int .i64 (j:Int)))
theorem PaC.text (h : PaC w l x g tb B wr i t out v) (t' : List UInt8) : PaC w l x g tb B (wr.setCell ⟨tb,0,none⟩ (.string ⟨t'.toArray⟩)) i t' out v :=
 ⟨h.hg,h.hgt,h.htB,h.rd.far (p:=⟨tb,0,none⟩) (by have:=h.hgt; show g ≠ tb; omega) _,h.q.far (p:=⟨tb,0,none⟩) (by have:=h.hg; have:=h.hgt; show w.heap.size + 1 ≠ tb; omega) _,h.p.far (p:=⟨tb,0,none⟩) (by have:=h.hg; have:=h.hgt; show w.heap.size ≠ tb; omega) _,
  h.tx.set_ 0 (.string ⟨t'.toArray⟩),ownsRow_setCell_other h.own (fun e => by have:=(h.own.lt tb e).1; have:=h.htB; omega) _,h.bel.setCell (p:=⟨tb,0,none⟩) (by have:=h.hg; have:=h.hgt; show w.heap.size ≤ tb; omega) _,by simpa [World.setCell] using h.hB⟩
theorem PaC.flush (h : PaC w l x g tb B wr i t out v) {v' : Value} (h1 : Blk wr' tb 9 #[.string ⟨#[]⟩]) (h2 : Blk wr' w.heap.size 37 #[v']) (h3 : wr'.ownsRow B 91 4 v' (flushP out t).length ((flushP out t).flatMap prtc)) (k : Kept tb w.heap.size v wr wr') : PaC w l x g tb B wr' i [] (flushP out t) v' :=
 ⟨h.hg,h.hgt,h.htB,k.blk _ _ _ (by have:=h.hgt; omega) (by have:=h.hg; omega) (fun e => by have:=(h.own.lt g e).1; have:=h.hgt; have:=h.htB; omega) h.rd,k.blk _ _ _ (by have:=h.hg; have:=h.hgt; omega) (by omega) (fun e => by have:=(h.own.lt _ e).1; have:=h.hg; have:=h.hgt; have:=h.htB; omega) h.q,h2,h1,h3,
  k.bel _ _ (by have:=h.hg; have:=h.hgt; omega) (Nat.le_refl _) (fun k' e => by have:=(h.own.lt k' e).1; have:=h.hg; have:=h.hgt; have:=h.htB; omega) h.bel,Nat.le_trans h.hB k.size⟩
theorem PaC.flush_any (h : PaC w l x g tb B wr i t out v) (ho : out.length ≤ 100000) : Calls Tryz.prog 57 #[.pointer (some ⟨tb,0,none⟩),.pointer (some ⟨w.heap.size,0,none⟩)] wr fun e w' => e = .returned (.tuple #[])∧∃ v',PaC w l x g tb B w' i [] (flushP out t) v':=by
 refine (Proofs.YtonehlkiackhcaaGreatDoor.flush_any tb w.heap.size B t v out h.tx h.p h.own ho h.hB (by have:=h.hg; have:=h.hgt; omega)).mono ?_;rintro e w' ⟨rfl,v',h1,h2,h3,h4⟩;exact ⟨rfl,v',h.flush h1 h2 h3 h4⟩
theorem PaC.more (h : PaC w l x g tb B wr i t out v) {v' : Value} {pt : Prt} (hg : wr.grownBy wr' v.ownBlock) (ho : wr'.ownsRow B 91 4 v' (out.length + 1) (out.flatMap prtc ++ prtc pt)) : PaC w l x g tb B (wr'.setCell ⟨w.heap.size,0,none⟩ v') i t (out ++ [pt]) v':=by
 have hne : ∀ k,k < B → some k ≠ v.ownBlock:=fun k hk e => by have:=(h.own.lt k e.symm).1; omega
 have hgw:=h.hg;have hgt:=h.hgt;have htB:=h.htB;have hPn:=h.p.grown hg (hne _ (by omega));refine ⟨h.hg,h.hgt,h.htB,(h.rd.grown hg (hne _ (by omega))).far (p:=⟨w.heap.size,0,none⟩) (by show g ≠ w.heap.size; omega) _,(h.q.grown hg (hne _ (by omega))).far (p:=⟨w.heap.size,0,none⟩) (by show w.heap.size + 1 ≠ w.heap.size; omega) _,hPn.set_ 0 v',
  (h.tx.grown hg (hne _ (by omega))).far (p:=⟨w.heap.size,0,none⟩) (by show tb ≠ w.heap.size; omega) _,?_,(h.bel.grown hg h.bel.size (fun k e => by have:=(h.own.lt k e).1; omega)).setCell (p:=⟨w.heap.size,0,none⟩) (Nat.le_refl _) _,?_⟩
 ·rw [List.length_append,List.flatMap_append,List.flatMap_singleton];exact ownsRow_setCell_other ho (own_blk_ne ho hPn (by decide)) _
 ·have:=hg.size;have:=h.hB;simp [World.setCell];omega
end
theorem parts_any (l : List UInt8) (w : World) (hl : l.length ≤ 9223372036854775807) (he : LEnv w) :
  Calls Tryz.prog 15 #[.string ⟨l.toArray⟩] w (PaPost w (partsS l)):=by
 obtain ⟨R,hR⟩ : ∃ R,partsS l = R:=⟨_,rfl⟩;rw [hR];have HR:=hid hR;clear hR;obtain ⟨i0,hi0,hz0,hz1,hz2⟩:=info_parts info_prt;have hmf : ∀ (fn : Fn) (first cap : Array Value) (w : World),(Instr.makeFunc fn first cap).run Tryz.prog w = .ok (.func fn first cap) w:=fun _ _ _ _ => rfl;have hb0 : Below w.heap.size w ((w.alloc (.cells #[.slice none 0 0] 37)).alloc (.cells #[.int .i64 0,.int .i64 0] 29)):=((Below.refl _ w).alloc (Nat.le_refl _) _).alloc (by simp) _;have hP:=(Blk.new w 37 #[.slice none 0 0]).alloc (.cells #[.int .i64 0,.int .i64 0] 29);have hQ:=Blk.new (w.alloc (.cells #[.slice none 0 0] 37)) 29 #[.int .i64 0,.int .i64 0];have hsz : (w.alloc (.cells #[.slice none 0 0] 37)).heap.size = w.heap.size + 1:=by simp
 rw [hsz] at hQ;clear hsz
 go_enter_defers Tryz.func15,Tryz.ntmps15
 go_wp2_with fail;refine (open_any l _ hl (he.keepB hb0)).mono ?_;rintro e w1 ⟨hop,hb1⟩;have hP1:=hP.belowS hb1;have hQ1:=hQ.belowS hb1;have hb:=below_then hb0 hb1 (by simp; omega);have he1:=he.keepB hb;have hsz1 : w.heap.size + 2 ≤ ((w.alloc (.cells #[.slice none 0 0] 37)).alloc (.cells #[.int .i64 0,.int .i64 0] 29)).heap.size:=by simp
 obtain ⟨b,hbb⟩ : ∃ b,isStr l = b:=⟨_,rfl⟩;rw [hbb] at hop;cases b with
 | false =>
  have HRR:=hid (show R = .error (1,-1) from by rw [← HR.out]; unfold partsS; rw [if_pos hbb]);simp only [OpPost] at hop;subst hop;clear hP hQ hb0 hbb hsz1;refine leaves_cons (f:=43) (args:=#[.pointer (some ⟨w.heap.size + 1,0,none⟩)]) (by simp) (by simp [go_sem]) ?_;refine (caught_pan _ 1 (-1) _ _ _ (hQ1)).mono ?_;rintro e u' w6 ⟨rfl,rfl,hQ6,hfr,hbl⟩;have hP6:=hfr _ _ _ (by omega) (hP1);show Leaves Tryz.prog Tryz.f15 _ (PaPost w R) [{ target:=.fn (.func 56) #[.pointer (some ⟨w.heap.size + 1,0,none⟩),.pointer (some ⟨w.heap.size,0,none⟩)],args:=#[] }] .returning _;refine leaves_cons (f:=56) (args:=#[.pointer (some ⟨w.heap.size + 1,0,none⟩),.pointer (some ⟨w.heap.size,0,none⟩)]) (by simp) (by simp [go_sem]) ?_;refine (parts1_pan _ _ 1 (-1) _ _ (by decide) hQ6 hP6).mono ?_;rintro e u' w7 ⟨rfl,rfl,rfl⟩;refine ⟨_,res_parts (p:=w.heap.size) rfl rfl (hP6.set_ 0 (.slice none 0 0)) (hQ6.far (p:=⟨w.heap.size,0,none⟩) (by simp) (.slice none 0 0)),(hbl _ _ (by omega) (hb)).setCell (p:=⟨w.heap.size,0,none⟩) (Nat.le_refl _) _,?_⟩;rw [HRR.out] <;> rfl
 | true =>
  obtain ⟨g,rfl,hg1,hgs⟩:=hop;have hs:=strg_of hbb;have hl16 : l.length ≤ 16000:=isStr_16 hbb;have hCA:=fun (W : World) (i:Nat) (h1 : Gd l i) (h2 : i < (shtOf l).lim) (h3 : Blk W g 70 (rdC l i (shtOf l))) (h4 : EnvR W) => character_any hs h1 h2 h3 hl16 h4;have hCG:=fun (i:Nat) (h1 : Gd l i) (h2 : i < (shtOf l).lim) (n j:Nat) (h3 : charS l (shtOf l) i = .ok (n,j)) => charS_gd hs h1 h2 h3;have hFG:=fun (i:Nat) (h1 : Gd l i) (h2 : i < (shtOf l).lim) (h3 : at0 l i = 123) (p : Prt) (j:Nat) (h4 : fieldS l (shtOf l) i = .ok (p,j)) => fieldS_gd hs h1 h2 h3 h4;have hGN:=fun (i:Nat) (h1 : Gd l i) (h2 : i < (shtOf l).lim) (h3 : at0 l i ≠ 92) => h1.next hs h2 (fun e => h3 e.1);have hGL:=fun (i:Nat) (h1 : Gd l i) => h1.le;have hgd:=hs.gd;have hll:=lim_lt hs;obtain ⟨x,hx⟩ : ∃ x,shtOf l = x:=⟨_,rfl⟩;rw [hx] at hg1 hgd hll hCA hCG hFG hGN hGL;have HCA:=hid hCA;have HCG:=hid hCG;have HFG:=hid hFG;have HGN:=hid hGN;have HGL:=hid hGL;clear hCA hCG hFG hGN hGL;have hS0 : partsS l = if x.pre ≠ 102 then .error (13,-1) else match partF l x (l.length + 1) x.frm [] [] with
   | .error j => .error (1,(j:Int))
   | .ok ps => if longP ps = true then .error (14,-1) else .ok ps:=by
   unfold partsS;rw [if_neg (by rw [hbb]; decide),hx] <;> rfl
  rw [HR.out] at hS0;have HS:=hid hS0;clear hS0 hbb hP hQ hb0 hs hx;obtain ⟨q1,q2,q3⟩:=hg1.rules;unfold rdC at q1
  by_cases h102 : x.pre ≠ 102
  ·have HRR:=hid (show R = .error (13,-1) from by rw [HS.out,if_pos h102]);have b102 : ((x.pre.toNat:Int) == 102) = false:=u8_ne (d:=102) h102;have b102' : ((x.pre.toNat:Int) != 102) = true:=(by rw [bne,b102]; rfl);clear h102;go_wp2_with fail;refine (lfault_any 13 (-1) _).mono ?_;rintro e w2 ⟨rfl,hb2⟩;have hP2:=hP1.belowS hb2;have hQ2:=hQ1.belowS hb2;obtain ⟨u1,u2,u3⟩:=hP2.rules;obtain ⟨v1,v2,v3⟩:=hQ2.rules;go_wp2_with fail;show Leaves Tryz.prog Tryz.f15 _ (PaPost w R) [{ target:=.fn (.func 43) #[],args:=#[.pointer (some ⟨w.heap.size + 1,0,none⟩)] },{ target:=.fn (.func 56) #[.pointer (some ⟨w.heap.size + 1,0,none⟩),.pointer (some ⟨w.heap.size,0,none⟩)],args:=#[] }] .returning _;refine leaves_cons (f:=43) (args:=#[.pointer (some ⟨w.heap.size + 1,0,none⟩)]) (by simp) (by simp [go_sem]) ?_;refine (caught_idle _ _).mono ?_;rintro e u' w6 ⟨rfl,rfl,rfl⟩;show Leaves Tryz.prog Tryz.f15 _ (PaPost w R) [{ target:=.fn (.func 56) #[.pointer (some ⟨w.heap.size + 1,0,none⟩),.pointer (some ⟨w.heap.size,0,none⟩)],args:=#[] }] .returning _;refine leaves_cons (f:=56) (args:=#[.pointer (some ⟨w.heap.size + 1,0,none⟩),.pointer (some ⟨w.heap.size,0,none⟩)]) (by simp) (by simp [go_sem]) ?_;have hPz:=(hP2.set_ 0 (.slice none 0 0)).far (p:=⟨w.heap.size + 1,0,none⟩) (by simp) (.int .i64 13) |>.far (p:=⟨w.heap.size + 1,1,none⟩) (by simp) (.int .i64 (-1))
   have hQz:=((hQ2.far (p:=⟨w.heap.size,0,none⟩) (by simp) (.slice none 0 0)).set_ 0 (.int .i64 13)).set_ 1 (.int .i64 (-1));have hbz:=(((below_then hb hb2 hb.size).setCell (p:=⟨w.heap.size,0,none⟩) (Nat.le_refl _) (.slice none 0 0)).setCell (p:=⟨w.heap.size + 1,0,none⟩) (Nat.le_succ _) (.int .i64 13)).setCell (p:=⟨w.heap.size + 1,1,none⟩) (Nat.le_succ _) (.int .i64 (-1));refine (parts1_pan _ _ (13) (-1) _ _ (by decide) hQz hPz).mono ?_;rintro e u' w7 ⟨rfl,rfl,rfl⟩;refine ⟨_,res_parts (p:=w.heap.size) rfl rfl (hPz.set_ 0 (.slice none 0 0)) (hQz.far (p:=⟨w.heap.size,0,none⟩) (by simp) (.slice none 0 0)),hbz.setCell (p:=⟨w.heap.size,0,none⟩) (Nat.le_refl _) _,?_⟩;rw [HRR.out] <;> rfl
  ·have h102' : x.pre = 102:=(by simpa using h102);have b102 : ((x.pre.toNat:Int) == 102) = true:=(by rw [h102']; rfl);have b102' : ((x.pre.toNat:Int) != 102) = false:=(by rw [bne,b102]; rfl);have HS1:=hid (HS.out.trans (if_neg h102));obtain ⟨E,hE⟩ : ∃ E,partF l x (l.length + 1) x.frm [] [] = E:=⟨_,rfl⟩;have HE:=hid hE;rw [hE] at HS1;have HBW:=hid hb;have hgn : NoVar g:=noVar he1.rd hg1 rfl;have hgw : w.heap.size + 2 ≤ g:=(by omega);clear hE HS h102 hb1 h102';have htb : g < w1.heap.size:=hg1.lt;have hC0 : PaC w l x g w1.heap.size (w1.heap.size + 1) (w1.alloc (.cells #[.string ⟨#[]⟩] 9)) x.frm [] [] (.slice none 0 0) :=
    ⟨hgw,htb,Nat.lt_succ_self _,hg1.alloc _,hQ1.alloc _,hP1.alloc _,Blk.new w1 9 #[.string ⟨#[]⟩],World.ownsRow_nil _ _ _ _,hb.alloc hb.size _,by simp⟩
   go_wp2_with fail;obtain ⟨tb,htbe⟩ : ∃ tb,w1.heap.size = tb:=⟨_,rfl⟩;rw [htbe] at hC0 htb ⊢;clear hP1 hQ1 hb hg1 q1 q2 q3 he1
   go_loopw [] (fun wr => ∃ (i f:Nat) (t : List UInt8) (out : List Prt) (v : Value),Hid (Gd l i)∧l.length < f + i∧Hid (partF l x f i t out = E)∧t.length ≤ 4 * i∧out.length ≤ 2 * i∧PaC w l x g tb (tb + 1) wr i t out v) (fun wr => l.length + 1 - posOf wr g)
   case atStart => exact ⟨x.frm,l.length + 1,[],[],_,hid hgd,by omega,HE,Nat.zero_le _,Nat.zero_le _,hC0⟩
   case round =>
    clear hC0;obtain ⟨i,f,t,out,v,HG,hf,HE1,htl,hol,hC⟩:=hrel;have hil:=HGL.out i HG.out;have hp0:=posOf_of (i:=i) hC.rd;obtain ⟨u1,u2,u3⟩:=hC.rd.rules;unfold rdC at u1
    by_cases hlt : i < x.lim
    ·obtain ⟨f',rfl⟩ : ∃ f',f = f' + 1:=⟨f - 1,by omega⟩;obtain ⟨c,hc⟩ : ∃ c,at0 l i = c:=⟨_,rfl⟩;have hE2 : (if (c = 123∨c = 125)∧i + 1 < x.lim∧at0 l (i + 1) = c then partF l x f' (i + 2) (t ++ [c]) out
      else if c = 123 then match fieldS l x i with
       | .error j => .error j
       | .ok (p,j) => partF l x f' j [] (flushP out t ++ [p])
      else if c = 125 then .error i
      else match charS l x i with
       | .error j => .error j
       | .ok (n,j) => partF l x f' j (t ++ runeB n) out) = E:=by
      have h:=HE1.out;unfold partF at h;rw [if_neg (by omega),hc] at h;exact h
     have HE2:=hid hE2;have dlt : decide ((i:Int) < (x.lim:Int)) = true:=decide_eq_true (by omega);have hix:=run_idx l i (by omega) (i:Int) rfl;have hix1:=run_idx l (i + 1) (by omega) ((i:Int) + 1) rfl;rw [hc] at hix;obtain ⟨D,hD⟩ : ∃ D : Bool,decide (i + 1 < x.lim∧at0 l (i + 1) = c) = D:=⟨_,rfl⟩;have HD:=hid hD;clear hE2 hD HE1;go_wp2_with fail;go_quiet (fail);generalize hW : World.drewN (wr) _ = w3;have hbw : Below (wr).heap.size (wr) w3:=(by rw [← hW]; exact below_drewN (Below.refl _ _) _);have hC3:=hC.belowS hbw;clear hW hbw u1 u2 u3 hC;obtain ⟨u1,u2,u3⟩:=hC3.rd.rules;unfold rdC at u1
     go_upto_region 11 with fail
     go_cut [9] from 22 to 108 (fun s wx => s = .bool D∧wx = w3)
     case first =>
      by_cases h1 : i + 1 < x.lim
      ·have d1 : decide ((i:Int) + 1 < (x.lim:Int)) = true:=decide_eq_true (by omega)
       by_cases h2 : at0 l (i + 1) = c
       ·have hDv:=hid (show D = true from by rw [← HD.out]; exact decide_eq_true ⟨h1,h2⟩);rw [h2] at hix1;have b2 : ((c.toNat:Int) == (c.toNat:Int)) = true:=(by simp);clear h2;go_wp2_with fail;go_meet;exact ⟨by rw [hDv.out],rfl⟩
       ·have hDv:=hid (show D = false from by rw [← HD.out]; exact decide_eq_false (fun e => h2 e.2));have b2 : (((at0 l (i + 1)).toNat:Int) == (c.toNat:Int)) = false:=u8_ne h2;clear h2;go_wp2_with fail;go_meet;exact ⟨by rw [hDv.out],rfl⟩
      ·have d1 : decide ((i:Int) + 1 < (x.lim:Int)) = false:=decide_eq_false (by omega);have hDv:=hid (show D = false from by rw [← HD.out]; exact decide_eq_false (fun e => h1 e.1));go_wp2_with fail;go_meet;exact ⟨by rw [hDv.out],rfl⟩
     case rest =>
      obtain ⟨rfl,rfl⟩:=hcut;clear u1 u2 u3;obtain ⟨u1,u2,u3⟩:=hC3.rd.rules;unfold rdC at u1;obtain ⟨s1,s2,s3⟩:=hC3.tx.rules;have hgn1:=HGN.out i HG.out hlt
      by_cases h123 : c = 123
      ·subst h123;cases D with
       | true =>
        -- a brace that is doubled
        have hDv:=of_decide_eq_true HD.out;have HE3:=hid (show partF l x f' (i + 2) (t ++ [123]) out = E from by rw [← HE2.out,if_pos ⟨by decide,hDv⟩]);have hgd2 : Gd l (i + 2):=HGN.out (i + 1) (hgn1 (by rw [hc]; decide)) hDv.1 (by rw [hDv.2]; decide);have hCV : ∀ W : World,(convert 5 9 (.int .u8 123)).run Tryz.prog W = .ok (.string ⟨#[123]⟩) W:=fun W => by kernel_rfl
        have hadd : ∀ W : World,(Op.stringOp .add ⟨t.toArray⟩ ⟨#[123]⟩).run Tryz.prog W = .ok (.string ⟨(t ++ [123]).toArray⟩) W:=fun W => run_string_add_lists W t [123] (by omega) (by decide);have hC9:=(hC3.text (t ++ [123])).at_ (i + 2);have hp9 : posOf ((wc.setCell ⟨tb,0,none⟩ (.string ⟨(t ++ [123]).toArray⟩)).setCell ⟨g,1,none⟩ (.int .i64 ((i:Int) + 2))) g = i + 2:=posOf_of (i:=i + 2) hC9.rd;clear hDv hix hix1;go_wp2_with fail;go_roundw
        case rel => exact ⟨i + 2,f',t ++ [123],out,v,hid hgd2,by omega,HE3,by rw [List.length_append]; simp; omega,by omega,hC9⟩
        case measure => rw [hp0,hp9]; omega
       | false =>
        have hDv:=of_decide_eq_false HD.out;have hE3 : (match fieldS l x i with
         | .error j => .error j
         | .ok (p,j) => partF l x f' j [] (flushP out t ++ [p])) = E:=by rw [← HE2.out,if_neg (fun e => hDv e.2),if_pos rfl]
        have hFG:=HFG.out i HG.out hlt hc;clear hDv hix hix1 HE2;go_wp2_with fail;refine (hC3.flush_any (by omega)).mono ?_;rintro e w4 ⟨rfl,v4,hC4⟩;clear u1 u2 u3 s1 s2 s3 hC3;obtain ⟨u1,u2,u3⟩:=hC4.rd.rules;unfold rdC at u1;go_wp2_with fail;have hC5 : PaC w l x g tb (tb + 1) (w4.setCell ⟨g,1,none⟩ (.int .i64 ((i:Int) + 1))) (i + 1) [] (flushP out t) v4:=hC4.at_ (i + 1);obtain ⟨w5,hw5⟩ : ∃ w5,w4.setCell ⟨g,1,none⟩ (.int .i64 ((i:Int) + 1)) = w5:=⟨_,rfl⟩;rw [hw5] at hC5 ⊢;clear hw5 u1 u2 u3 hC4;obtain ⟨O,hO⟩ : ∃ O,flushP out t = O:=⟨_,rfl⟩;have hOl : O.length ≤ out.length + 1:=(by rw [← hO]; unfold flushP; split <;> simp);rw [hO] at hC5 hE3;clear hO;have hC5d:=hC5.belowS (Below.refl _ _).drew;have HC5:=hid hC5d;have G : ∀ (p' : Held fun w' => Blk w' w.heap.size 37 #[v4]) (k:Nat),p'.w.cell? ⟨w.heap.size,k,none⟩ = #[v4][k]?:=fun p' k => p'.h.cell k
        refine wp_region_steady_tailD 3 6 (by kernel_rfl) (by kernel_rfl) (fun w' => ∃ p' : Held fun w' => Blk w' w.heap.size 37 #[v4], w' = p'.w) (isHeld_mk hC5d.p) (by --
            intro o ho c a v w' h
            simp only [List.take_succ_cons,List.take_zero,List.mem_cons,List.not_mem_nil,or_false] at ho
            rcases ho with rfl | rfl | rfl <;> exact parts_put a _ v (by decide) h) ?_
        simp only [List.take_succ_cons,List.take_zero,List.drop_succ_cons,List.drop_zero]
        repeat (refine wpSteady_step (fun K hK => ?_) --
                go_simp
                first
                  | (refine ⟨_,fun _ => rfl,hK _ ?_⟩; clear hK K)
                  | (refine hK _ ?_; clear hK K))
        refine wpSteady_nil ?_;refine tailM_one ?_;go_wp2_with fail;refine ((field_any i hC5d.rd hl16 (by omega) (by omega)).mono ?_);rintro e w6 ⟨hthr,hrd,hx6⟩;obtain ⟨F,hF⟩ : ∃ F,fieldS l x i = F:=⟨_,rfl⟩;rw [hF] at hthr hrd hE3 hFG;rcases F with j | ⟨pt,j⟩
        ·simp only [Thr] at hthr;subst hthr;have HRR:=hid (show R = .error (1,(j:Int)) from by rw [HS1.out,← hE3]);have hC6q:=hx6.blk hC5d.q (by omega);have hC6p:=hx6.blk hC5d.p (by omega);have hC6b:=hx6.bel hC5d.bel (by omega) hC5d.bel.size;clear hE3 hFG;go_wp2_with fail;refine leaves_cons (f:=43) (args:=#[.pointer (some ⟨w.heap.size + 1,0,none⟩)]) (by simp) (by simp [go_sem]) ?_;refine (caught_pan _ 1 ((j:Int)) _ _ _ (hC6q)).mono ?_;rintro e u' w6 ⟨rfl,rfl,hQ6,hfr,hbl⟩;have hP6:=hfr _ _ _ (by omega) (hC6p);show Leaves Tryz.prog Tryz.f15 _ (PaPost w R) [{ target:=.fn (.func 56) #[.pointer (some ⟨w.heap.size + 1,0,none⟩),.pointer (some ⟨w.heap.size,0,none⟩)],args:=#[] }] .returning _;refine leaves_cons (f:=56) (args:=#[.pointer (some ⟨w.heap.size + 1,0,none⟩),.pointer (some ⟨w.heap.size,0,none⟩)]) (by simp) (by simp [go_sem]) ?_;refine (parts1_pan _ _ 1 ((j:Int)) _ _ (by decide) hQ6 hP6).mono ?_;rintro e u' w7 ⟨rfl,rfl,rfl⟩;refine ⟨_,res_parts (p:=w.heap.size) rfl rfl (hP6.set_ 0 (.slice none 0 0)) (hQ6.far (p:=⟨w.heap.size,0,none⟩) (by simp) (.slice none 0 0)),(hbl _ _ (by omega) (hC6b)).setCell (p:=⟨w.heap.size,0,none⟩) (Nat.le_refl _) _,?_⟩;rw [HRR.out] <;> rfl
        ·obtain ⟨pf,ptx,pc,psp⟩:=pt;have hthr : e = .returned (.agg #[.bool pf,.string ⟨ptx.toArray⟩,.int .i64 pc,.string ⟨psp.toArray⟩]):=hthr;subst hthr;obtain ⟨pt,hpt⟩ : ∃ pt : Prt,pt = ⟨pf,ptx,pc,psp⟩:=⟨_,rfl⟩;rw [← hpt] at hE3 hFG hrd;have HPT:=hid hpt;clear hpt;obtain ⟨hgj,hij⟩:=hFG pt j rfl;have hjl:=HGL.out j hgj;have HE4:=hid (show partF l x f' j [] (O ++ [pt]) = E from hE3);have hC6:=hC5d.bx hx6 (hrd _ rfl);have hC7:=hC6.belowS ((Below.refl w6.heap.size w6).alloc (Nat.le_refl _) (.cells #[.bool pf,.string ⟨ptx.toArray⟩,.int .i64 pc,.string ⟨psp.toArray⟩] 91));clear hE3 hFG hC5 hC5d hrd hx6 hF;go_wp2_with fail;refine thenC_mk (show ∃ p' : Held fun w' => Blk w' w.heap.size 37 #[v4],w6 = p'.w from isHeld_mk hC6.p) ?_;refine tailM_one ?_;go_wp2_with fail;have hh7:=isHeld_mk (S:=fun w' => Blk w' w.heap.size 37 #[v4]) hC7.p;refine thenC_mk hh7 ?_;refine tailM_one ?_;have m1 : O.length + 1 ≤ maxLen:=(by unfold maxLen; omega);have m2 : (O.length + 1) * 48 ≤ 140737488355328:=(by omega);have hC6B:=hC7.hB;obtain ⟨A4,c4,rfl,_,_⟩:=own_form hC6.own;clear hh7;go_wp2_with (at_builtin; refine wpList_append_row _ rfl (.tmp 97) (.tmp 101) 37 rfl (tb + 1) 91 i0 (.agg #[.bool false,.string ByteArray.empty,.int .i64 0,.string ByteArray.empty]) 4 48 Tryz.underlying37 hi0 hz0 hz1 hz2 rfl (by decide) (.slice A4 O.length c4) O.length (O.flatMap prtc) rfl hC7.own (some ⟨w6.heap.size,0,none⟩) 1 1 [.bool pf,.string ⟨ptx.toArray⟩,.int .i64 pc,.string ⟨psp.toArray⟩] rfl rfl (Row.new w6 #[.bool pf,.string ⟨ptx.toArray⟩,.int .i64 pc,.string ⟨psp.toArray⟩] 91) (by simp [Value.oneCell']) m1 m2 hC6B ?_; intro v8 w8 hown8 hg8 hat8);obtain ⟨A8,c8,rfl,_,_⟩:=own_form hown8;have hp8:=hC7.p.grown hg8 (fun e => by have:=(hC7.own.lt _ e.symm).1; have:=hC7.hg; have:=hC7.hgt; omega);have hh8:=isHeld_mk (S:=fun w' => Blk w' w.heap.size 37 #[.slice A4 O.length c4]) hp8;refine thenC_mk hh8 ?_;refine tailM_zero ?_;have hC9:=hC7.more (pt:=pt) hg8 (by rw [HPT.out]; exact hown8);have hp9:=posOf_of (i:=j) hC9.rd;obtain ⟨z1,z2,z3⟩:=hp8.rules;clear hh8 G;go_wp2_with fail;go_roundw
         case rel => exact ⟨j,f',[],O ++ [pt],.slice A8 (O.length + 1) c8,hid hgj,by omega,HE4,Nat.zero_le _,by rw [List.length_append]; simp; omega,hC9⟩
         case measure => rw [hp0,hp9]; omega
      ·by_cases h125 : c = 125
       ·subst h125;cases D with
        | true =>
         -- a brace that is doubled
         have hDv:=of_decide_eq_true HD.out;have HE3:=hid (show partF l x f' (i + 2) (t ++ [125]) out = E from by rw [← HE2.out,if_pos ⟨by decide,hDv⟩]);have hgd2 : Gd l (i + 2):=HGN.out (i + 1) (hgn1 (by rw [hc]; decide)) hDv.1 (by rw [hDv.2]; decide);have hCV : ∀ W : World,(convert 5 9 (.int .u8 125)).run Tryz.prog W = .ok (.string ⟨#[125]⟩) W:=fun W => by kernel_rfl
         have hadd : ∀ W : World,(Op.stringOp .add ⟨t.toArray⟩ ⟨#[125]⟩).run Tryz.prog W = .ok (.string ⟨(t ++ [125]).toArray⟩) W:=fun W => run_string_add_lists W t [125] (by omega) (by decide);have hC9:=(hC3.text (t ++ [125])).at_ (i + 2);have hp9 : posOf ((wc.setCell ⟨tb,0,none⟩ (.string ⟨(t ++ [125]).toArray⟩)).setCell ⟨g,1,none⟩ (.int .i64 ((i:Int) + 2))) g = i + 2:=posOf_of (i:=i + 2) hC9.rd;clear hDv hix hix1;go_wp2_with fail;go_roundw
         case rel => exact ⟨i + 2,f',t ++ [125],out,v,hid hgd2,by omega,HE3,by rw [List.length_append]; simp; omega,by omega,hC9⟩
         case measure => rw [hp0,hp9]; omega
        | false =>
         have hDv:=of_decide_eq_false HD.out;have HRR:=hid (show R = .error (1,(i:Int)) from by rw [HS1.out,← HE2.out,if_neg (fun e => hDv e.2),if_neg h123,if_pos rfl]);clear hDv h123 hix hix1;go_wp2_with fail;refine (lfail_any _ _ _).mono ?_;rintro e w9 ⟨rfl,hb9⟩;have hC9:=hC3.belowS hb9;go_wp2_with fail;refine leaves_cons (f:=43) (args:=#[.pointer (some ⟨w.heap.size + 1,0,none⟩)]) (by simp) (by simp [go_sem]) ?_;refine (caught_pan _ 1 ((i:Int)) _ _ _ (hC9.q)).mono ?_;rintro e u' w6 ⟨rfl,rfl,hQ6,hfr,hbl⟩;have hP6:=hfr _ _ _ (by omega) (hC9.p);show Leaves Tryz.prog Tryz.f15 _ (PaPost w R) [{ target:=.fn (.func 56) #[.pointer (some ⟨w.heap.size + 1,0,none⟩),.pointer (some ⟨w.heap.size,0,none⟩)],args:=#[] }] .returning _;refine leaves_cons (f:=56) (args:=#[.pointer (some ⟨w.heap.size + 1,0,none⟩),.pointer (some ⟨w.heap.size,0,none⟩)]) (by simp) (by simp [go_sem]) ?_;refine (parts1_pan _ _ 1 ((i:Int)) _ _ (by decide) hQ6 hP6).mono ?_;rintro e u' w7 ⟨rfl,rfl,rfl⟩;refine ⟨_,res_parts (p:=w.heap.size) rfl rfl (hP6.set_ 0 (.slice none 0 0)) (hQ6.far (p:=⟨w.heap.size,0,none⟩) (by simp) (.slice none 0 0)),(hbl _ _ (by omega) (hC9.bel)).setCell (p:=⟨w.heap.size,0,none⟩) (Nat.le_refl _) _,?_⟩;rw [HRR.out] <;> rfl
       ·have b123 : ((c.toNat:Int) == 123) = false:=u8_ne (d:=123) h123;have b125 : ((c.toNat:Int) == 125) = false:=u8_ne (d:=125) h125;have hE3 : (match charS l x i with
         | .error j => .error j
         | .ok (n,j) => partF l x f' j (t ++ runeB n) out) = E:=by rw [← HE2.out,if_neg (fun e => e.1.elim h123 h125),if_neg h123,if_neg h125]
        have hcg:=HCG.out i HG.out hlt;have hC5d:=hC3.belowS (Below.refl _ _).drew;have her:=(he.keepB hC5d.bel).rd;have HCH:=hid (HCA.out wc.drew i HG.out hlt hC5d.rd her);obtain ⟨C,hCC⟩ : ∃ C,charS l x i = C:=⟨_,rfl⟩;rw [hCC] at HCH hE3 hcg;have G : ∀ (p' : Held fun w' => Blk w' tb 9 #[.string ⟨t.toArray⟩]) (k:Nat),p'.w.cell? ⟨tb,k,none⟩ = #[.string ⟨t.toArray⟩][k]?:=fun p' k => p'.h.cell k;clear hix hix1 HE2 h123 h125 hCC;go_wp2_with fail
        refine wp_region_steady_tailD 2 5 (by kernel_rfl) (by kernel_rfl) (fun w' => ∃ p' : Held fun w' => Blk w' tb 9 #[.string ⟨t.toArray⟩], w' = p'.w) (isHeld_mk hC5d.tx) (by --
            intro o ho c a v w' h
            simp only [List.take_succ_cons,List.take_zero,List.mem_cons,List.not_mem_nil,or_false] at ho
            rcases ho with rfl | rfl <;> exact parts_put a _ v (by decide) h) ?_
        simp only [List.take_succ_cons,List.take_zero,List.drop_succ_cons,List.drop_zero]
        repeat (refine wpSteady_step (fun K hK => ?_) --
                go_simp
                first
                  | (refine ⟨_,fun _ => rfl,hK _ ?_⟩; clear hK K)
                  | (refine hK _ ?_; clear hK K))
        refine wpSteady_nil ?_;refine tailM_one ?_;clear u1 u2 u3 s1 s2 s3;go_wp2_with fail;refine HCH.out.mono ?_;rintro e w6 ⟨hthr,hrd,hx6⟩;rcases C with j | ⟨n,j⟩
        ·simp only [Thr] at hthr;subst hthr;have HRR:=hid (show R = .error (1,(j:Int)) from by rw [HS1.out,← hE3]);have hC6q:=hx6.blk hC5d.q (by omega);have hC6p:=hx6.blk hC5d.p (by omega);have hC6b:=hx6.bel hC5d.bel (by omega) hC5d.bel.size;clear hE3 hcg;go_wp2_with fail;refine leaves_cons (f:=43) (args:=#[.pointer (some ⟨w.heap.size + 1,0,none⟩)]) (by simp) (by simp [go_sem]) ?_;refine (caught_pan _ 1 ((j:Int)) _ _ _ (hC6q)).mono ?_;rintro e u' w6 ⟨rfl,rfl,hQ6,hfr,hbl⟩;have hP6:=hfr _ _ _ (by omega) (hC6p);show Leaves Tryz.prog Tryz.f15 _ (PaPost w R) [{ target:=.fn (.func 56) #[.pointer (some ⟨w.heap.size + 1,0,none⟩),.pointer (some ⟨w.heap.size,0,none⟩)],args:=#[] }] .returning _;refine leaves_cons (f:=56) (args:=#[.pointer (some ⟨w.heap.size + 1,0,none⟩),.pointer (some ⟨w.heap.size,0,none⟩)]) (by simp) (by simp [go_sem]) ?_;refine (parts1_pan _ _ 1 ((j:Int)) _ _ (by decide) hQ6 hP6).mono ?_;rintro e u' w7 ⟨rfl,rfl,rfl⟩;refine ⟨_,res_parts (p:=w.heap.size) rfl rfl (hP6.set_ 0 (.slice none 0 0)) (hQ6.far (p:=⟨w.heap.size,0,none⟩) (by simp) (.slice none 0 0)),(hbl _ _ (by omega) (hC6b)).setCell (p:=⟨w.heap.size,0,none⟩) (Nat.le_refl _) _,?_⟩;rw [HRR.out] <;> rfl
        ·simp only [Thr] at hthr;subst hthr;obtain ⟨hgj,hij,hn⟩:=hcg n j rfl;have hjl:=HGL.out j hgj;have HE4:=hid (show partF l x f' j (t ++ runeB n) out = E from hE3);have hC6:=hC5d.bx hx6 (hrd _ rfl);have hrl:=runeB_len n;have hCV:=run_rune_str n;have hadd : ∀ W : World,(Op.stringOp .add ⟨t.toArray⟩ ⟨(runeB n).toArray⟩).run Tryz.prog W = .ok (.string ⟨(t ++ runeB n).toArray⟩) W:=fun W => run_string_add_lists W t (runeB n) (by omega) (by omega);clear hE3 hcg hC3 hC5d hrd hx6;go_wp2_with fail;have hh6:=isHeld_mk (S:=fun w' => Blk w' tb 9 #[.string ⟨t.toArray⟩]) hC6.tx;refine thenC_mk hh6 ?_;refine tailM_one ?_;go_wp2_with fail;refine thenC_mk hh6 ?_;refine tailM_one ?_;go_wp2_with fail;refine thenC_mk hh6 ?_;refine tailM_zero ?_;have hC9:=hC6.text (t ++ runeB n);have hp9:=posOf_of (i:=j) hC9.rd;obtain ⟨z1,z2,z3⟩:=hC6.tx.rules;clear hh6 G;go_wp2_with fail;go_roundw
         case rel => exact ⟨j,f',t ++ runeB n,out,v,hid hgj,by omega,HE4,by rw [List.length_append]; omega,by omega,hC9⟩
         case measure => rw [hp0,hp9]; omega
    ·have dlt : decide ((i:Int) < (x.lim:Int)) = false:=decide_eq_false (by omega);have hEo : E = .ok (flushP out t):=by
      have h:=HE1.out;rcases f with _ | f'
      ·omega
      ·unfold partF at h;rw [if_pos (by omega)] at h;exact h.symm
     have HS2:=hid (show R = if longP (flushP out t) = true then .error (14,-1) else .ok (flushP out t) from by rw [HS1.out,hEo]);clear hEo HE1;go_wp2_with fail;go_quiet (fail);generalize hW : World.drewN (wr) _ = w3;have hbw : Below (wr).heap.size (wr) w3:=(by rw [← hW]; exact below_drewN (Below.refl _ _) _);have hC3:=hC.belowS hbw;clear hW hbw u1 u2 u3 hC;go_wp2_with fail;refine (hC3.flush_any (by omega)).mono ?_;rintro e w4 ⟨rfl,v4,hC4⟩;obtain ⟨O,hO⟩ : ∃ O,flushP out t = O:=⟨_,rfl⟩;have hOl : O.length ≤ out.length + 1:=(by rw [← hO]; unfold flushP; split <;> simp);rw [hO] at hC4 HS2;clear hO hC3;obtain ⟨A4,c4,rfl,_,_⟩:=own_form hC4.own;obtain ⟨u1,u2,u3⟩:=hC4.p.rules;go_wp2_with fail;clear u1 u2 u3
     go_loopw [113] (fun iv wr => ∃ k : Nat,k ≤ O.length∧iv = .int .i64 (k:Int)∧PaC w l x g tb (tb + 1) wr i [] O (.slice A4 O.length c4)∧Hid (longP (O.take k) = false)) (fun iv _ => O.length - (RowKit.intOf iv).toNat)
     case atStart => exact ⟨0,Nat.zero_le _,rfl,hC4,hid rfl⟩
     case round =>
      clear hC4;obtain ⟨k,hk,rfl,hC5,HL⟩:=hrel
      by_cases hlt2 : k < O.length
      ·obtain ⟨bb,off,hA,hbl,hcl⟩:=(Row.of_own hC5.own).elem (f:=prtc) (s:=4) (fun _ => rfl) (by omega) hlt2;subst hA;obtain ⟨pt,hpt⟩ : ∃ pt,O[k] = pt:=⟨_,rfl⟩;rw [hpt] at hcl;have htk : O.take (k + 1) = O.take k ++ [pt]:=(by rw [List.take_add_one,List.getElem?_eq_getElem hlt2,hpt]; rfl);have hlg : longP (O.take (k + 1)) = (!pt.field && decide (4000 < pt.text.length)):=by
        rw [htk];unfold longP;rw [List.any_append,show (O.take k).any (fun p => !p.field && decide (4000 < p.text.length)) = false from HL.out];simp
       have HLG:=hid hlg;obtain ⟨pf,ptx,pc,psp⟩:=pt;have e0:=hcl 0 (.bool pf) (by omega) rfl;have e1:=hcl 1 (.string ⟨ptx.toArray⟩) (by omega) rfl;have e2:=hcl 2 (.int .i64 pc) (by omega) rfl;have e3:=hcl 3 (.string ⟨psp.toArray⟩) (by omega) rfl;rw [Nat.add_zero] at e0;clear hcl hlg htk hpt;have hC6:=hC5.belowS ((Below.refl wr.heap.size wr).alloc (Nat.le_refl _) (.cells #[.bool pf,.string ⟨ptx.toArray⟩,.int .i64 pc,.string ⟨psp.toArray⟩] 91));cases pf with
       | true =>
        have HL2:=hid (show longP (O.take (k + 1)) = false from by rw [HLG.out]; rfl);go_wp2_with fail;go_roundw
        case rel => exact ⟨k + 1,by omega,by go_num,hC6,HL2⟩
        case measure => simp [RowKit.intOf]; omega
       | false =>
        by_cases h4 : 4000 < ptx.length
        ·have d4 : decide ((ptx.length:Int) > 4000) = true:=decide_eq_true (by omega);have HRR:=hid (show R = .error (14,-1) from by
          rw [HS2.out,if_pos];have h1 : longP (O.take (k + 1)) = true:=(by rw [HLG.out]; simp [h4]);unfold longP at h1 ⊢;rw [← List.take_append_drop (k + 1) O,List.any_append,h1];rfl)
         go_wp2_with fail;refine (lfault_any 14 (-1) _).mono ?_;rintro e w8 ⟨rfl,hb8⟩;have hC8:=hC6.belowS hb8;obtain ⟨u1,u2,u3⟩:=hC8.p.rules;obtain ⟨v1,v2,v3⟩:=hC8.q.rules;clear e0 e1 e2 e3;go_wp2_with fail;show Leaves Tryz.prog Tryz.f15 _ (PaPost w R) [{ target:=.fn (.func 43) #[],args:=#[.pointer (some ⟨w.heap.size + 1,0,none⟩)] },{ target:=.fn (.func 56) #[.pointer (some ⟨w.heap.size + 1,0,none⟩),.pointer (some ⟨w.heap.size,0,none⟩)],args:=#[] }] .returning _;refine leaves_cons (f:=43) (args:=#[.pointer (some ⟨w.heap.size + 1,0,none⟩)]) (by simp) (by simp [go_sem]) ?_;refine (caught_idle _ _).mono ?_;rintro e u' w6 ⟨rfl,rfl,rfl⟩;show Leaves Tryz.prog Tryz.f15 _ (PaPost w R) [{ target:=.fn (.func 56) #[.pointer (some ⟨w.heap.size + 1,0,none⟩),.pointer (some ⟨w.heap.size,0,none⟩)],args:=#[] }] .returning _;refine leaves_cons (f:=56) (args:=#[.pointer (some ⟨w.heap.size + 1,0,none⟩),.pointer (some ⟨w.heap.size,0,none⟩)]) (by simp) (by simp [go_sem]) ?_;have hPz:=(hC8.p.set_ 0 (.slice none 0 0)).far (p:=⟨w.heap.size + 1,0,none⟩) (by simp) (.int .i64 14) |>.far (p:=⟨w.heap.size + 1,1,none⟩) (by simp) (.int .i64 (-1))
         have hQz:=((hC8.q.far (p:=⟨w.heap.size,0,none⟩) (by simp) (.slice none 0 0)).set_ 0 (.int .i64 14)).set_ 1 (.int .i64 (-1));have hbz:=((hC8.bel.setCell (p:=⟨w.heap.size,0,none⟩) (Nat.le_refl _) (.slice none 0 0)).setCell (p:=⟨w.heap.size + 1,0,none⟩) (Nat.le_succ _) (.int .i64 14)).setCell (p:=⟨w.heap.size + 1,1,none⟩) (Nat.le_succ _) (.int .i64 (-1));refine (parts1_pan _ _ (14) (-1) _ _ (by decide) hQz hPz).mono ?_;rintro e u' w7 ⟨rfl,rfl,rfl⟩;refine ⟨_,res_parts (p:=w.heap.size) rfl rfl (hPz.set_ 0 (.slice none 0 0)) (hQz.far (p:=⟨w.heap.size,0,none⟩) (by simp) (.slice none 0 0)),hbz.setCell (p:=⟨w.heap.size,0,none⟩) (Nat.le_refl _) _,?_⟩;rw [HRR.out] <;> rfl
        ·have d4 : decide ((ptx.length:Int) > 4000) = false:=decide_eq_false (by omega);have HL2:=hid (show longP (O.take (k + 1)) = false from by rw [HLG.out]; simp; omega);go_wp2_with fail;go_roundw
         case rel => exact ⟨k + 1,by omega,by go_num,hC6,HL2⟩
         case measure => simp [RowKit.intOf]; omega
      ·have hkO : O.take k = O:=List.take_of_length_le (by omega);have hLO:=HL.out;rw [hkO] at hLO;have HRR:=hid (show R = .ok O from by rw [HS2.out,if_neg (by rw [hLO]; decide)]);obtain ⟨u1,u2,u3⟩:=hC5.p.rules;obtain ⟨v1,v2,v3⟩:=hC5.q.rules;clear hkO hLO;go_wp2_with fail;show Leaves Tryz.prog Tryz.f15 _ (PaPost w R) [{ target:=.fn (.func 43) #[],args:=#[.pointer (some ⟨w.heap.size + 1,0,none⟩)] },{ target:=.fn (.func 56) #[.pointer (some ⟨w.heap.size + 1,0,none⟩),.pointer (some ⟨w.heap.size,0,none⟩)],args:=#[] }] .returning _;refine leaves_cons (f:=43) (args:=#[.pointer (some ⟨w.heap.size + 1,0,none⟩)]) (by simp) (by simp [go_sem]) ?_;refine (caught_idle _ _).mono ?_;rintro e u' w6 ⟨rfl,rfl,rfl⟩;show Leaves Tryz.prog Tryz.f15 _ (PaPost w R) [{ target:=.fn (.func 56) #[.pointer (some ⟨w.heap.size + 1,0,none⟩),.pointer (some ⟨w.heap.size,0,none⟩)],args:=#[] }] .returning _;refine leaves_cons (f:=56) (args:=#[.pointer (some ⟨w.heap.size + 1,0,none⟩),.pointer (some ⟨w.heap.size,0,none⟩)]) (by simp) (by simp [go_sem]) ?_;have hPz:=(hC5.p.set_ 0 (.slice A4 O.length c4)).far (p:=⟨w.heap.size + 1,0,none⟩) (by simp) (.int .i64 0) |>.far (p:=⟨w.heap.size + 1,1,none⟩) (by simp) (.int .i64 0)
       have hQz:=((hC5.q.far (p:=⟨w.heap.size,0,none⟩) (by simp) (.slice A4 O.length c4)).set_ 0 (.int .i64 0)).set_ 1 (.int .i64 0);have hnp:=own_blk_ne hC5.own hC5.p (by decide);have hnq:=own_blk_ne hC5.own hC5.q (by decide);refine (parts1_idle _ _ (.slice none 0 0) _ hQz).mono ?_;rintro e u' w7 ⟨rfl,rfl,rfl⟩;refine ⟨_,res_parts (p:=w.heap.size) rfl rfl hPz hQz,((hC5.bel.setCell (p:=⟨w.heap.size,0,none⟩) (Nat.le_refl _) _).setCell (p:=⟨w.heap.size + 1,0,none⟩) (Nat.le_succ _) _).setCell (p:=⟨w.heap.size + 1,1,none⟩) (Nat.le_succ _) _,?_⟩;rw [HRR.out];exact ⟨_,rfl,own_mono (ownsRow_setCell_other (ownsRow_setCell_other (ownsRow_setCell_other hC5.own hnp _) hnq _) hnq _) (by omega)⟩
end Go.Proofs.YtonehlkiackhcaaGreatDoor
