/- The literals: slices.Equal over parts. Nothing is claimed here. -/
import Derived.Test.YtonehlkiackhcaaGreatDoorRefTk
import Derived.Laws.CopyOwn
import Derived.Test.YtonehlkiackhcaaGreatDoorQTailD
import Derived.Test.YtonehlkiackhcaaGreatDoorRefZ
import Derived.Deep.RegionWith
import Derived.Test.YtonehlkiackhcaaGreatDoorRefD
set_option linter.unusedVariables false
set_option maxRecDepth 100000
set_option maxHeartbeats 16000000
namespace Go.Proofs.YtonehlkiackhcaaGreatDoor
open Go.RowKit Go.Shelf Go.Lib Go.Maps
theorem tokens_any (l : List UInt8) (w : World) (hl : l.length ≤ 9223372036854775807) (hT : Tabs w) (hm : Lim w) :
  Calls Tryz.prog 91 #[.string ⟨l.toArray⟩] w (ScPost w (scanT l)):=by
 unfold scanT
 by_cases h : (sfault l).1 ≠ 0
 ·rw [if_pos h];exact tokens_flt l w hl hT _ _ rfl h
 ·have h0 : (sfault l).1 = 0:=(by simpa using h);rw [if_neg h];have hz : sfault l = (0,0) ∧ l.length ≤ 16000:=by
   unfold sfault at h0 ⊢;split at h0
   ·simp at h0
   ·rename_i hlen;rw [if_neg hlen];refine ⟨?_,by omega⟩;split at h0
    ·rfl
    ·simp at h0
  obtain ⟨_,cs,hcs,hch⟩:=chars_of l h0;exact tokens_txt hch hcs.symm hz.2 hz.1 w hT hm
end Go.Proofs.YtonehlkiackhcaaGreatDoor

namespace Go.Proofs.YtonehlkiackhcaaGreatDoor
open Go.RowKit Go.Lib Go.Sort
structure REnv (w : World) : Prop where
 c : CEnv w
 lim : Lim w
theorem REnv.keepB {w w' : World} (h : REnv w) (hb : Below w.heap.size w w') : REnv w':=⟨h.c.keepB hb,h.lim.keepB hb⟩
section
variable {P : Program} {fn : Func} {R : Ending → World → Prop} {a : Act} {w : World} {p g t ty : Nat} {cs : Array Value}
theorem results_blk_tmp {q : Nat} (hres : fn.results = #[.cell p ty,.tmp q]) (hp : a.tmps.getD p undef = .pointer (some ⟨g,0,none⟩)) (hB : Blk w g t cs) (d : TypeDesc) (hu : P.underlying ty = some d)
  (hd : (match d with | .struct _ | .array _ _ => true | _ => false) = true) (hi : (P.info? ty).map (·.size) = some cs.size) :
  (results fn a.tmps).run P w = .ok (.tuple #[.agg cs,a.tmps.getD q undef]) w:=by
 have hp' : a.tmps[p]?.getD undef = .pointer (some ⟨g,0,none⟩):=by simpa using hp
 simp [results,hres,hp',asAddr,run_loadVar_row w g t ty cs (0,0) d hB hu hd hi]
theorem ret_blk_tmp {q : Nat} (hres : fn.results = #[.cell p ty,.tmp q]) (hp : a.tmps.getD p undef = .pointer (some ⟨g,0,none⟩)) (hB : Blk w g t cs) (d : TypeDesc) (hu : P.underlying ty = some d)
  (hd : (match d with | .struct _ | .array _ _ => true | _ => false) = true) (hi : (P.info? ty).map (·.size) = some cs.size) (hdf : a.defers = []) (v : Value) (hv : a.tmps.getD q undef = v)
  (hR : R (.returned (.tuple #[.agg cs,v])) w) : bodyPost P fn R .ret a w:=by
 subst hv;exact bodyPost_ret (results_blk_tmp hres hp hB d hu hd hi) hdf hR
end
def shZ : Array Value:=#[.int .u8 0,.int .u8 0,.int .i64 0,.int .i64 0]
theorem shtC_sht {l : List UInt8} (p qn : Nat) (hp : strP l = p) (hq : (quotes (l.drop p)).length = qn) (hle : qn ≤ l.length) : shtC (shtOf l) = #[.int .u8 (((if isQuo (at0 l 0) then 0 else at0 l 0 : UInt8).toNat : Nat) : Int),.int .u8 ((at0 l p).toNat : Int),.int .i64 ((p : Int) + (qn : Int)),.int .i64 ((l.length : Int) - (qn : Int))]:=by
 unfold shtC shtOf;simp only;rw [hp,hq,Int.natCast_add,Int.natCast_sub hle]
theorem scanT_16 {l : List UInt8} {ts : List Tok} (h : scanT l = .ok ts) : l.length ≤ 16000:=by
 unfold scanT at h;split at h
 ·simp at h
 ·rename_i h0;have h0 : (sfault l).1 = 0:=(by simpa using h0);exact (chars_of l h0).1
def SheetPost (w : World) (l : List UInt8) (b : Bool) (e : Ending) (w' : World) : Prop :=
 Below w.heap.size w w' ∧ e = .returned (.tuple #[.agg (if b = true then shtC (shtOf l) else shZ),.bool b])
theorem sheetOf_any (l : List UInt8) (w : World) (hl : l.length ≤ 9223372036854775807) (he : REnv w) :
  Calls Tryz.prog 54 #[.string ⟨l.toArray⟩] w (SheetPost w l (isStr l)):=by
 have HSC:=Lib.hid (fun W hW hW2 => tokens_any l W hl hW hW2);obtain ⟨b,hb⟩ : ∃ b,isStr l = b:=⟨_,rfl⟩;have HIS:=Lib.hid hb;rw [hb];clear hb;have hB0:=Blk.new w 85 shZ;have hba0 : Below w.heap.size w (w.alloc (.cells shZ 85)):=(Below.refl _ w).alloc (Nat.le_refl _) _;unfold shZ at hB0 hba0;go_enter Tryz.func54,Tryz.ntmps54;go_wp2_with fail;refine (HSC.out _ (he.c.keepB hba0).l.rd.tabs (he.lim.keepB hba0)).mono ?_;rintro e w1 ⟨hb1,hpost⟩;obtain ⟨T,hT⟩ : ∃ T,scanT l = T:=⟨_,rfl⟩;rw [hT] at hpost;have hB1:=hB0.belowS hb1;have hbb1:=below_then hba0 hb1 hba0.size;clear HSC hb1 hB0 hba0;rcases T with ⟨c,i⟩ | ts
 ·have hc:=scanT_err hT;have HI:=Lib.hid (show b = false from HIS.out.symm.trans (isStr_err hT));have cb : (c != 0) = true:=(by rw [bne_iff_ne]; exact hc);simp only at hpost;subst hpost;clear hT hc;unfold flt;have hbb2:=hbb1.alloc hbb1.size (.cells #[.int .i64 c,.int .i64 i] 29);have hB2:=hB1.alloc (.cells #[.int .i64 c,.int .i64 i] 29)
  -- it is no string
  go_upto_region 3 with fail
  go_wp2_with (refine wpList_store_row rfl 85 (.tmp 2) (.tmp 39) rfl w.heap.size #[.int .u8 0,.int .u8 0,.int .i64 0,.int .i64 0] rfl rfl 85 #[.int .u8 0,.int .u8 0,.int .i64 0,.int .i64 0] hB2 (by kernel_rfl) rfl (by simp [Value.oneCell']) ?_);refine ret_blk_tmp rfl rfl (hB2.setRow _) _ Tryz.underlying85 rfl (by kernel_rfl) rfl (.bool false) rfl ⟨Go.below_setRow hbb2 (Nat.le_refl _) _,?_⟩;rw [HI.out];rfl
 ·simp only at hpost;obtain ⟨vt,rfl,hown⟩:=hpost;obtain ⟨A,cc,rfl,hrow,_⟩:=own_form hown;have hbb2:=hbb1.alloc hbb1.size (.cells #[.int .i64 0,.int .i64 0] 29);have hB2:=hB1.alloc (.cells #[.int .i64 0,.int .i64 0] 29);have hrow2:=hrow.keepB ((Below.refl w1.heap.size w1).alloc (Nat.le_refl _) (.cells #[.int .i64 0,.int .i64 0] 29));unfold flt
  by_cases h3 : ts.length ≠ 3
  ·have HI:=Lib.hid (show b = false from HIS.out.symm.trans (isStr_len hT h3));have b3 : ((ts.length : Int) != 3) = true:=(by rw [bne_iff_ne]; omega);clear hT h3 hown hrow hrow2
   -- it is no string
   go_upto_region 3 with fail
   go_wp2_with (refine wpList_store_row rfl 85 (.tmp 2) (.tmp 39) rfl w.heap.size #[.int .u8 0,.int .u8 0,.int .i64 0,.int .i64 0] rfl rfl 85 #[.int .u8 0,.int .u8 0,.int .i64 0,.int .i64 0] hB2 (by kernel_rfl) rfl (by simp [Value.oneCell']) ?_);refine ret_blk_tmp rfl rfl (hB2.setRow _) _ Tryz.underlying85 rfl (by kernel_rfl) rfl (.bool false) rfl ⟨Go.below_setRow hbb2 (Nat.le_refl _) _,?_⟩;rw [HI.out];rfl
  ·obtain ⟨t,t1,t2,rfl⟩ : ∃ t t1 t2,ts = [t,t1,t2]:=by
    match ts,h3 with
    | [t,t1,t2],_ => exact ⟨t,t1,t2,rfl⟩
    | [],h => exact absurd (by simp) h
    | [_],h => exact absurd (by simp) h
    | [_,_],h => exact absurd (by simp) h
    | _ :: _ :: _ :: _ :: _,h => exact absurd (by simp) h
   have hst:=isStr_of hT t t1 t2 rfl;have hwh:=fun h7 hlen => (str_whole hT (t:=t) (by simp) h7 hlen).1;have hl16:=scanT_16 hT;obtain ⟨bb,off,rfl,hbl,hc⟩:=hrow2.elem (f:=tokc) (s:=4) (fun _ => rfl) (by omega) (k:=0) (by simp);have c0:=hc 0 (.int .i64 t.kind) (by omega) rfl;have c1:=hc 1 (.string ⟨t.text.toArray⟩) (by omega) rfl;obtain ⟨tk,htk⟩ : ∃ tk,t.kind = tk:=⟨_,rfl⟩;obtain ⟨tx,htx⟩ : ∃ tx,t.text = tx:=⟨_,rfl⟩;rw [htk] at c0 hst hwh;rw [htx] at c1 hst hwh;have HIS2:=Lib.hid (HIS.out.symm.trans hst);simp only [Nat.zero_mul,Nat.add_zero] at c0 c1;clear hT hst hc hown hrow hrow2 htk htx h3
   by_cases h7 : tk = 7
   ·subst h7
    by_cases hxl : tx.length = l.length
    ·obtain rfl : tx = l:=hwh rfl hxl;have HI:=Lib.hid (show b = true from by rw [HIS2.out]; simp);have hs:=strg_of (HIS.out.trans HI.out);have hle:=hs.le;have hq0:=hs.q0;have hp:=hs.p;have hquo:=hs.quo;have hlen : (shtOf tx).frm = strP tx + (quotes (tx.drop (strP tx))).length:=rfl;rw [hlen] at hle;have hix0:=run_idx tx 0 (by omega) 0 rfl;have HHQ:=Lib.hid (fun W b hb => hasQ_any tx 0 0 rfl b hb W hl16 (by omega));clear HIS2 hxl hwh
     go_upto_region 4 with fail
     have hsz2:=hbb2.size;generalize w1.alloc (.cells #[.int .i64 0,.int .i64 0] 29) = w2 at hbb2 hB2 hsz2 ⊢;obtain ⟨g,hg⟩ : ∃ g,w.heap.size = g:=⟨_,rfl⟩;obtain ⟨G,hG⟩ : ∃ G,w2.heap.size = G:=⟨_,rfl⟩;have hne : g ≠ G:=(by have:=hB2.lt; omega);have hgG : g ≤ G:=(by omega);have hN:=Blk.new w2 85 #[.int .u8 0,.int .u8 0,.int .i64 0,.int .i64 0];have h4:=hN.setRow #[.int .u8 0,.int .u8 0,.int .i64 0,.int .i64 0];rw [hG] at hN h4;rw [hg] at hbb2 hB2 ⊢;have hg4:=(hB2.alloc (.cells #[.int .u8 0,.int .u8 0,.int .i64 0,.int .i64 0] 85)).farRow hne #[.int .u8 0,.int .u8 0,.int .i64 0,.int .i64 0];have hb4:=Go.below_setRow (hbb2.alloc (by omega) (.cells #[.int .u8 0,.int .u8 0,.int .i64 0,.int .i64 0] 85)) hgG #[.int .u8 0,.int .u8 0,.int .i64 0,.int .i64 0];have HG:=Lib.hid hg;clear hg c0 c1
     go_upto_region 5 with (refine wpList_store_row rfl 85 (.tmp 6) (.tmp 40) rfl G #[.int .u8 0,.int .u8 0,.int .i64 0,.int .i64 0] rfl rfl 85 #[.int .u8 0,.int .u8 0,.int .i64 0,.int .i64 0] hN (by kernel_rfl) rfl (by simp [Value.oneCell']) ?_)
     generalize (w2.alloc (.cells #[.int .u8 0,.int .u8 0,.int .i64 0,.int .i64 0] 85)).setRow G #[.int .u8 0,.int .u8 0,.int .i64 0,.int .i64 0] = w4 at h4 hg4 hb4 ⊢;clear hN hB2 hbb2 hsz2 hG;obtain ⟨q1,q2,q3⟩:=h4.rules
     by_cases hc0 : isQuo (at0 tx 0) = true
     ·rw [if_pos hc0] at hp;have hc1 : at0 tx 0 = 34 ∨ at0 tx 0 = 39:=by
       unfold isQuo at hc0;rw [Bool.or_eq_true,beq_iff_eq,beq_iff_eq] at hc0;exact hc0
      have hpv : (((if isQuo (at0 tx 0) then 0 else at0 tx 0 : UInt8).toNat : Nat) : Int) = 0:=(by rw [if_pos hc0]; rfl);obtain ⟨D,hD⟩ : ∃ D,tx.drop 0 = D:=⟨_,rfl⟩;have hdr:=hD;rw [hp] at hle hq0;rw [hD] at hle hq0;clear hD hlen hquo hs HIS;rcases hc1 with hc1 | hc1
      ·have hqv : ((at0 tx 0).toNat : Int) = 34:=(by rw [hc1]; rfl);have HQV:=Lib.hid hqv;have HPV:=Lib.hid hpv;rw [hc1] at hix0;clear hc1 hqv hpv;have hF6 : Blk (w4.setCell ⟨G,1,none⟩ (.int .u8 34)) G 85 #[.int .u8 0,.int .u8 34,.int .i64 0,.int .i64 0]:=h4.set_ 1 _;have hG6:=hg4.far (p:=⟨G,1,none⟩) hne (.int .u8 34);have hb6:=hb4.setCell (p:=⟨G,1,none⟩) hgG (.int .u8 34);go_wp2_with fail;refine (HHQ.out _ true hc0).mono ?_;rintro e w5 ⟨rfl,rfl⟩;clear hc0
       go_upto_region 9 with fail
       generalize w4.setCell ⟨G,1,none⟩ (.int .u8 34) = w6 at hF6 hG6 hb6 ⊢;clear q1 q2 q3 h4 hg4 hb4 HHQ;obtain ⟨q1,q2,q3⟩:=hF6.rules;have hpv:=HPV.out
       -- one quote or three
       have hpre:=fun W => pre3_any D W;have htl:=run_tail tx 0 (by omega) 0 rfl;rw [hdr] at htl
       by_cases h3q : D.take 3 = [34,34,34]
       ·have hqn : (quotes D).length = 3:=(by unfold quotes; rw [if_pos h3q]; rfl);rw [hqn] at hle;have hd6 : decide ((tx.length : Int) - 0 ≥ 6) = true:=decide_eq_true (by omega);rw [decide_eq_true h3q] at hpre;have HPRE:=Lib.hid hpre;clear hpre h3q;go_wp2_with fail;refine (HPRE.out _).mono ?_;rintro e w3 ⟨rfl,rfl⟩;have hsh:=shtC_sht (l:=tx) 0 3 hp (by rw [hdr]; exact hqn) (by omega);rw [hpv,HQV.out] at hsh;have HSH:=Lib.hid hsh;clear hsh;have hF : Blk ((w6.setCell ⟨G,2,none⟩ (.int .i64 3)).setCell ⟨G,3,none⟩ (.int .i64 ((tx.length : Int) - 3))) G 85 #[.int .u8 0,.int .u8 34,.int .i64 3,.int .i64 ((tx.length : Int) - 3)]:=(hF6.set_ 2 _).set_ 3 _;have hGf : Blk ((w6.setCell ⟨G,2,none⟩ (.int .i64 3)).setCell ⟨G,3,none⟩ (.int .i64 ((tx.length : Int) - 3))) g 85 #[.int .u8 0,.int .u8 0,.int .i64 0,.int .i64 0]:=(hG6.far (p:=⟨G,2,none⟩) hne _).far (p:=⟨G,3,none⟩) hne _;have hbf : Below g w ((w6.setCell ⟨G,2,none⟩ (.int .i64 3)).setCell ⟨G,3,none⟩ (.int .i64 ((tx.length : Int) - 3))):=(hb6.setCell (p:=⟨G,2,none⟩) hgG _).setCell (p:=⟨G,3,none⟩) hgG _;obtain ⟨s1,s2,s3⟩:=hF6.rules;go_wp2_with (first | refine wpList_load_row rfl 85 (.tmp 6) rfl G rfl 85 #[.int .u8 0,.int .u8 34,.int .i64 3,.int .i64 ((tx.length : Int) - 3)] (0,0) _ hF Tryz.underlying85 rfl (by kernel_rfl) ?_ | refine wpList_store_row rfl 85 (.tmp 2) (.tmp 71) rfl g #[.int .u8 0,.int .u8 34,.int .i64 3,.int .i64 ((tx.length : Int) - 3)] rfl rfl 85 #[.int .u8 0,.int .u8 0,.int .i64 0,.int .i64 0] hGf (by kernel_rfl) rfl (by simp [Value.oneCell']) ?_);refine ret_blk_tmp rfl rfl (hGf.setRow _) _ Tryz.underlying85 rfl (by kernel_rfl) rfl (.bool true) rfl ⟨by rw [HG.out]; exact Go.below_setRow hbf (Nat.le_refl _) _,?_⟩;rw [HI.out,if_pos rfl,HSH.out];rfl
       ·have hqn : (quotes D).length = 1:=(by unfold quotes; rw [if_neg h3q,List.length_take]; have:=hq0; have h5:=congrArg List.length hdr; rw [List.length_drop] at h5; omega);rw [hqn] at hle;rw [decide_eq_false h3q] at hpre;have HPRE:=Lib.hid hpre;clear hpre h3q
        by_cases h6 : 6 + 0 ≤ tx.length
        ·have hd6 : decide ((tx.length : Int) - 0 ≥ 6) = true:=decide_eq_true (by omega);go_wp2_with fail;refine (HPRE.out _).mono ?_;rintro e w3 ⟨rfl,rfl⟩;have hsh:=shtC_sht (l:=tx) 0 1 hp (by rw [hdr]; exact hqn) (by omega);rw [hpv,HQV.out] at hsh;have HSH:=Lib.hid hsh;clear hsh;have hF : Blk ((w6.setCell ⟨G,2,none⟩ (.int .i64 1)).setCell ⟨G,3,none⟩ (.int .i64 ((tx.length : Int) - 1))) G 85 #[.int .u8 0,.int .u8 34,.int .i64 1,.int .i64 ((tx.length : Int) - 1)]:=(hF6.set_ 2 _).set_ 3 _;have hGf : Blk ((w6.setCell ⟨G,2,none⟩ (.int .i64 1)).setCell ⟨G,3,none⟩ (.int .i64 ((tx.length : Int) - 1))) g 85 #[.int .u8 0,.int .u8 0,.int .i64 0,.int .i64 0]:=(hG6.far (p:=⟨G,2,none⟩) hne _).far (p:=⟨G,3,none⟩) hne _;have hbf : Below g w ((w6.setCell ⟨G,2,none⟩ (.int .i64 1)).setCell ⟨G,3,none⟩ (.int .i64 ((tx.length : Int) - 1))):=(hb6.setCell (p:=⟨G,2,none⟩) hgG _).setCell (p:=⟨G,3,none⟩) hgG _;obtain ⟨s1,s2,s3⟩:=hF6.rules;go_wp2_with (first | refine wpList_load_row rfl 85 (.tmp 6) rfl G rfl 85 #[.int .u8 0,.int .u8 34,.int .i64 1,.int .i64 ((tx.length : Int) - 1)] (0,0) _ hF Tryz.underlying85 rfl (by kernel_rfl) ?_ | refine wpList_store_row rfl 85 (.tmp 2) (.tmp 71) rfl g #[.int .u8 0,.int .u8 34,.int .i64 1,.int .i64 ((tx.length : Int) - 1)] rfl rfl 85 #[.int .u8 0,.int .u8 0,.int .i64 0,.int .i64 0] hGf (by kernel_rfl) rfl (by simp [Value.oneCell']) ?_);refine ret_blk_tmp rfl rfl (hGf.setRow _) _ Tryz.underlying85 rfl (by kernel_rfl) rfl (.bool true) rfl ⟨by rw [HG.out]; exact Go.below_setRow hbf (Nat.le_refl _) _,?_⟩;rw [HI.out,if_pos rfl,HSH.out];rfl
        ·have hd6 : decide ((tx.length : Int) - 0 ≥ 6) = false:=decide_eq_false (by omega);have hsh:=shtC_sht (l:=tx) 0 1 hp (by rw [hdr]; exact hqn) (by omega);rw [hpv,HQV.out] at hsh;have HSH:=Lib.hid hsh;clear hsh;have hF : Blk ((w6.setCell ⟨G,2,none⟩ (.int .i64 1)).setCell ⟨G,3,none⟩ (.int .i64 ((tx.length : Int) - 1))) G 85 #[.int .u8 0,.int .u8 34,.int .i64 1,.int .i64 ((tx.length : Int) - 1)]:=(hF6.set_ 2 _).set_ 3 _;have hGf : Blk ((w6.setCell ⟨G,2,none⟩ (.int .i64 1)).setCell ⟨G,3,none⟩ (.int .i64 ((tx.length : Int) - 1))) g 85 #[.int .u8 0,.int .u8 0,.int .i64 0,.int .i64 0]:=(hG6.far (p:=⟨G,2,none⟩) hne _).far (p:=⟨G,3,none⟩) hne _;have hbf : Below g w ((w6.setCell ⟨G,2,none⟩ (.int .i64 1)).setCell ⟨G,3,none⟩ (.int .i64 ((tx.length : Int) - 1))):=(hb6.setCell (p:=⟨G,2,none⟩) hgG _).setCell (p:=⟨G,3,none⟩) hgG _;obtain ⟨s1,s2,s3⟩:=hF6.rules;go_wp2_with (first | refine wpList_load_row rfl 85 (.tmp 6) rfl G rfl 85 #[.int .u8 0,.int .u8 34,.int .i64 1,.int .i64 ((tx.length : Int) - 1)] (0,0) _ hF Tryz.underlying85 rfl (by kernel_rfl) ?_ | refine wpList_store_row rfl 85 (.tmp 2) (.tmp 71) rfl g #[.int .u8 0,.int .u8 34,.int .i64 1,.int .i64 ((tx.length : Int) - 1)] rfl rfl 85 #[.int .u8 0,.int .u8 0,.int .i64 0,.int .i64 0] hGf (by kernel_rfl) rfl (by simp [Value.oneCell']) ?_);refine ret_blk_tmp rfl rfl (hGf.setRow _) _ Tryz.underlying85 rfl (by kernel_rfl) rfl (.bool true) rfl ⟨by rw [HG.out]; exact Go.below_setRow hbf (Nat.le_refl _) _,?_⟩;rw [HI.out,if_pos rfl,HSH.out];rfl
      ·have hqv : ((at0 tx 0).toNat : Int) = 39:=(by rw [hc1]; rfl);have HQV:=Lib.hid hqv;have HPV:=Lib.hid hpv;rw [hc1] at hix0;clear hc1 hqv hpv;have hF6 : Blk (w4.setCell ⟨G,1,none⟩ (.int .u8 39)) G 85 #[.int .u8 0,.int .u8 39,.int .i64 0,.int .i64 0]:=h4.set_ 1 _;have hG6:=hg4.far (p:=⟨G,1,none⟩) hne (.int .u8 39);have hb6:=hb4.setCell (p:=⟨G,1,none⟩) hgG (.int .u8 39);go_wp2_with fail;refine (HHQ.out _ true hc0).mono ?_;rintro e w5 ⟨rfl,rfl⟩;clear hc0
       go_upto_region 9 with fail
       generalize w4.setCell ⟨G,1,none⟩ (.int .u8 39) = w6 at hF6 hG6 hb6 ⊢;clear q1 q2 q3 h4 hg4 hb4 HHQ;obtain ⟨q1,q2,q3⟩:=hF6.rules;have hpv:=HPV.out
       -- one quote or three
       have hpre:=fun W => pre3_any D W;have htl:=run_tail tx 0 (by omega) 0 rfl;rw [hdr] at htl
       by_cases h3q : D.take 3 = [34,34,34]
       ·have hqn : (quotes D).length = 3:=(by unfold quotes; rw [if_pos h3q]; rfl);rw [hqn] at hle;have hd6 : decide ((tx.length : Int) - 0 ≥ 6) = true:=decide_eq_true (by omega);rw [decide_eq_true h3q] at hpre;have HPRE:=Lib.hid hpre;clear hpre h3q;go_wp2_with fail;refine (HPRE.out _).mono ?_;rintro e w3 ⟨rfl,rfl⟩;have hsh:=shtC_sht (l:=tx) 0 3 hp (by rw [hdr]; exact hqn) (by omega);rw [hpv,HQV.out] at hsh;have HSH:=Lib.hid hsh;clear hsh;have hF : Blk ((w6.setCell ⟨G,2,none⟩ (.int .i64 3)).setCell ⟨G,3,none⟩ (.int .i64 ((tx.length : Int) - 3))) G 85 #[.int .u8 0,.int .u8 39,.int .i64 3,.int .i64 ((tx.length : Int) - 3)]:=(hF6.set_ 2 _).set_ 3 _;have hGf : Blk ((w6.setCell ⟨G,2,none⟩ (.int .i64 3)).setCell ⟨G,3,none⟩ (.int .i64 ((tx.length : Int) - 3))) g 85 #[.int .u8 0,.int .u8 0,.int .i64 0,.int .i64 0]:=(hG6.far (p:=⟨G,2,none⟩) hne _).far (p:=⟨G,3,none⟩) hne _;have hbf : Below g w ((w6.setCell ⟨G,2,none⟩ (.int .i64 3)).setCell ⟨G,3,none⟩ (.int .i64 ((tx.length : Int) - 3))):=(hb6.setCell (p:=⟨G,2,none⟩) hgG _).setCell (p:=⟨G,3,none⟩) hgG _;obtain ⟨s1,s2,s3⟩:=hF6.rules;go_wp2_with (first | refine wpList_load_row rfl 85 (.tmp 6) rfl G rfl 85 #[.int .u8 0,.int .u8 39,.int .i64 3,.int .i64 ((tx.length : Int) - 3)] (0,0) _ hF Tryz.underlying85 rfl (by kernel_rfl) ?_ | refine wpList_store_row rfl 85 (.tmp 2) (.tmp 71) rfl g #[.int .u8 0,.int .u8 39,.int .i64 3,.int .i64 ((tx.length : Int) - 3)] rfl rfl 85 #[.int .u8 0,.int .u8 0,.int .i64 0,.int .i64 0] hGf (by kernel_rfl) rfl (by simp [Value.oneCell']) ?_);refine ret_blk_tmp rfl rfl (hGf.setRow _) _ Tryz.underlying85 rfl (by kernel_rfl) rfl (.bool true) rfl ⟨by rw [HG.out]; exact Go.below_setRow hbf (Nat.le_refl _) _,?_⟩;rw [HI.out,if_pos rfl,HSH.out];rfl
       ·have hqn : (quotes D).length = 1:=(by unfold quotes; rw [if_neg h3q,List.length_take]; have:=hq0; have h5:=congrArg List.length hdr; rw [List.length_drop] at h5; omega);rw [hqn] at hle;rw [decide_eq_false h3q] at hpre;have HPRE:=Lib.hid hpre;clear hpre h3q
        by_cases h6 : 6 + 0 ≤ tx.length
        ·have hd6 : decide ((tx.length : Int) - 0 ≥ 6) = true:=decide_eq_true (by omega);go_wp2_with fail;refine (HPRE.out _).mono ?_;rintro e w3 ⟨rfl,rfl⟩;have hsh:=shtC_sht (l:=tx) 0 1 hp (by rw [hdr]; exact hqn) (by omega);rw [hpv,HQV.out] at hsh;have HSH:=Lib.hid hsh;clear hsh;have hF : Blk ((w6.setCell ⟨G,2,none⟩ (.int .i64 1)).setCell ⟨G,3,none⟩ (.int .i64 ((tx.length : Int) - 1))) G 85 #[.int .u8 0,.int .u8 39,.int .i64 1,.int .i64 ((tx.length : Int) - 1)]:=(hF6.set_ 2 _).set_ 3 _;have hGf : Blk ((w6.setCell ⟨G,2,none⟩ (.int .i64 1)).setCell ⟨G,3,none⟩ (.int .i64 ((tx.length : Int) - 1))) g 85 #[.int .u8 0,.int .u8 0,.int .i64 0,.int .i64 0]:=(hG6.far (p:=⟨G,2,none⟩) hne _).far (p:=⟨G,3,none⟩) hne _;have hbf : Below g w ((w6.setCell ⟨G,2,none⟩ (.int .i64 1)).setCell ⟨G,3,none⟩ (.int .i64 ((tx.length : Int) - 1))):=(hb6.setCell (p:=⟨G,2,none⟩) hgG _).setCell (p:=⟨G,3,none⟩) hgG _;obtain ⟨s1,s2,s3⟩:=hF6.rules;go_wp2_with (first | refine wpList_load_row rfl 85 (.tmp 6) rfl G rfl 85 #[.int .u8 0,.int .u8 39,.int .i64 1,.int .i64 ((tx.length : Int) - 1)] (0,0) _ hF Tryz.underlying85 rfl (by kernel_rfl) ?_ | refine wpList_store_row rfl 85 (.tmp 2) (.tmp 71) rfl g #[.int .u8 0,.int .u8 39,.int .i64 1,.int .i64 ((tx.length : Int) - 1)] rfl rfl 85 #[.int .u8 0,.int .u8 0,.int .i64 0,.int .i64 0] hGf (by kernel_rfl) rfl (by simp [Value.oneCell']) ?_);refine ret_blk_tmp rfl rfl (hGf.setRow _) _ Tryz.underlying85 rfl (by kernel_rfl) rfl (.bool true) rfl ⟨by rw [HG.out]; exact Go.below_setRow hbf (Nat.le_refl _) _,?_⟩;rw [HI.out,if_pos rfl,HSH.out];rfl
        ·have hd6 : decide ((tx.length : Int) - 0 ≥ 6) = false:=decide_eq_false (by omega);have hsh:=shtC_sht (l:=tx) 0 1 hp (by rw [hdr]; exact hqn) (by omega);rw [hpv,HQV.out] at hsh;have HSH:=Lib.hid hsh;clear hsh;have hF : Blk ((w6.setCell ⟨G,2,none⟩ (.int .i64 1)).setCell ⟨G,3,none⟩ (.int .i64 ((tx.length : Int) - 1))) G 85 #[.int .u8 0,.int .u8 39,.int .i64 1,.int .i64 ((tx.length : Int) - 1)]:=(hF6.set_ 2 _).set_ 3 _;have hGf : Blk ((w6.setCell ⟨G,2,none⟩ (.int .i64 1)).setCell ⟨G,3,none⟩ (.int .i64 ((tx.length : Int) - 1))) g 85 #[.int .u8 0,.int .u8 0,.int .i64 0,.int .i64 0]:=(hG6.far (p:=⟨G,2,none⟩) hne _).far (p:=⟨G,3,none⟩) hne _;have hbf : Below g w ((w6.setCell ⟨G,2,none⟩ (.int .i64 1)).setCell ⟨G,3,none⟩ (.int .i64 ((tx.length : Int) - 1))):=(hb6.setCell (p:=⟨G,2,none⟩) hgG _).setCell (p:=⟨G,3,none⟩) hgG _;obtain ⟨s1,s2,s3⟩:=hF6.rules;go_wp2_with (first | refine wpList_load_row rfl 85 (.tmp 6) rfl G rfl 85 #[.int .u8 0,.int .u8 39,.int .i64 1,.int .i64 ((tx.length : Int) - 1)] (0,0) _ hF Tryz.underlying85 rfl (by kernel_rfl) ?_ | refine wpList_store_row rfl 85 (.tmp 2) (.tmp 71) rfl g #[.int .u8 0,.int .u8 39,.int .i64 1,.int .i64 ((tx.length : Int) - 1)] rfl rfl 85 #[.int .u8 0,.int .u8 0,.int .i64 0,.int .i64 0] hGf (by kernel_rfl) rfl (by simp [Value.oneCell']) ?_);refine ret_blk_tmp rfl rfl (hGf.setRow _) _ Tryz.underlying85 rfl (by kernel_rfl) rfl (.bool true) rfl ⟨by rw [HG.out]; exact Go.below_setRow hbf (Nat.le_refl _) _,?_⟩;rw [HI.out,if_pos rfl,HSH.out];rfl
     ·rw [if_neg hc0] at hp;have hix1:=run_idx tx 1 (by omega) 1 rfl;obtain ⟨D,hD⟩ : ∃ D,tx.drop 1 = D:=⟨_,rfl⟩;have hdr:=hD;rw [hp] at hle hq0;rw [hD] at hle hq0;have hpv : (((if isQuo (at0 tx 0) then 0 else at0 tx 0 : UInt8).toNat : Nat) : Int) = ((at0 tx 0).toNat : Int):=(by rw [if_neg hc0]);obtain ⟨pv,hpv0⟩ : ∃ pv : Int,((at0 tx 0).toNat : Int) = pv:=⟨_,rfl⟩;obtain ⟨qv,hqv⟩ : ∃ qv : Int,((at0 tx 1).toNat : Int) = qv:=⟨_,rfl⟩;rw [hpv0] at hix0 hpv;rw [hqv] at hix1;have HQV:=Lib.hid hqv;have HPV:=Lib.hid hpv;clear hD hlen hquo hs HIS hpv0 hqv hpv;have hF6 : Blk ((w4.setCell ⟨G,0,none⟩ (.int .u8 pv)).setCell ⟨G,1,none⟩ (.int .u8 qv)) G 85 #[.int .u8 pv,.int .u8 qv,.int .i64 0,.int .i64 0]:=(h4.set_ 0 _).set_ 1 _;have hG6:=(hg4.far (p:=⟨G,0,none⟩) hne (.int .u8 pv)).far (p:=⟨G,1,none⟩) hne (.int .u8 qv);have hb6:=(hb4.setCell (p:=⟨G,0,none⟩) hgG (.int .u8 pv)).setCell (p:=⟨G,1,none⟩) hgG (.int .u8 qv);go_wp2_with fail;refine (HHQ.out _ false (by simpa using hc0)).mono ?_;rintro e w5 ⟨rfl,rfl⟩;clear hc0
      go_upto_region 9 with fail
      generalize (w4.setCell ⟨G,0,none⟩ (.int .u8 pv)).setCell ⟨G,1,none⟩ (.int .u8 qv) = w6 at hF6 hG6 hb6 ⊢;clear q1 q2 q3 h4 hg4 hb4 HHQ;obtain ⟨q1,q2,q3⟩:=hF6.rules;have hpv:=HPV.out
      -- one quote or three
      have hpre:=fun W => pre3_any D W;have htl:=run_tail tx 1 (by omega) 1 rfl;rw [hdr] at htl
      by_cases h3q : D.take 3 = [34,34,34]
      ·have hqn : (quotes D).length = 3:=(by unfold quotes; rw [if_pos h3q]; rfl);rw [hqn] at hle;have hd6 : decide ((tx.length : Int) - 1 ≥ 6) = true:=decide_eq_true (by omega);rw [decide_eq_true h3q] at hpre;have HPRE:=Lib.hid hpre;clear hpre h3q;go_wp2_with fail;refine (HPRE.out _).mono ?_;rintro e w3 ⟨rfl,rfl⟩;have hsh:=shtC_sht (l:=tx) 1 3 hp (by rw [hdr]; exact hqn) (by omega);rw [hpv,HQV.out] at hsh;have HSH:=Lib.hid hsh;clear hsh;have hF : Blk ((w6.setCell ⟨G,2,none⟩ (.int .i64 4)).setCell ⟨G,3,none⟩ (.int .i64 ((tx.length : Int) - 3))) G 85 #[.int .u8 pv,.int .u8 qv,.int .i64 4,.int .i64 ((tx.length : Int) - 3)]:=(hF6.set_ 2 _).set_ 3 _;have hGf : Blk ((w6.setCell ⟨G,2,none⟩ (.int .i64 4)).setCell ⟨G,3,none⟩ (.int .i64 ((tx.length : Int) - 3))) g 85 #[.int .u8 0,.int .u8 0,.int .i64 0,.int .i64 0]:=(hG6.far (p:=⟨G,2,none⟩) hne _).far (p:=⟨G,3,none⟩) hne _;have hbf : Below g w ((w6.setCell ⟨G,2,none⟩ (.int .i64 4)).setCell ⟨G,3,none⟩ (.int .i64 ((tx.length : Int) - 3))):=(hb6.setCell (p:=⟨G,2,none⟩) hgG _).setCell (p:=⟨G,3,none⟩) hgG _;obtain ⟨s1,s2,s3⟩:=hF6.rules;go_wp2_with (first | refine wpList_load_row rfl 85 (.tmp 6) rfl G rfl 85 #[.int .u8 pv,.int .u8 qv,.int .i64 4,.int .i64 ((tx.length : Int) - 3)] (0,0) _ hF Tryz.underlying85 rfl (by kernel_rfl) ?_ | refine wpList_store_row rfl 85 (.tmp 2) (.tmp 71) rfl g #[.int .u8 pv,.int .u8 qv,.int .i64 4,.int .i64 ((tx.length : Int) - 3)] rfl rfl 85 #[.int .u8 0,.int .u8 0,.int .i64 0,.int .i64 0] hGf (by kernel_rfl) rfl (by simp [Value.oneCell']) ?_);refine ret_blk_tmp rfl rfl (hGf.setRow _) _ Tryz.underlying85 rfl (by kernel_rfl) rfl (.bool true) rfl ⟨by rw [HG.out]; exact Go.below_setRow hbf (Nat.le_refl _) _,?_⟩;rw [HI.out,if_pos rfl,HSH.out];rfl
      ·have hqn : (quotes D).length = 1:=(by unfold quotes; rw [if_neg h3q,List.length_take]; have:=hq0; have h5:=congrArg List.length hdr; rw [List.length_drop] at h5; omega);rw [hqn] at hle;rw [decide_eq_false h3q] at hpre;have HPRE:=Lib.hid hpre;clear hpre h3q
       by_cases h6 : 6 + 1 ≤ tx.length
       ·have hd6 : decide ((tx.length : Int) - 1 ≥ 6) = true:=decide_eq_true (by omega);go_wp2_with fail;refine (HPRE.out _).mono ?_;rintro e w3 ⟨rfl,rfl⟩;have hsh:=shtC_sht (l:=tx) 1 1 hp (by rw [hdr]; exact hqn) (by omega);rw [hpv,HQV.out] at hsh;have HSH:=Lib.hid hsh;clear hsh;have hF : Blk ((w6.setCell ⟨G,2,none⟩ (.int .i64 2)).setCell ⟨G,3,none⟩ (.int .i64 ((tx.length : Int) - 1))) G 85 #[.int .u8 pv,.int .u8 qv,.int .i64 2,.int .i64 ((tx.length : Int) - 1)]:=(hF6.set_ 2 _).set_ 3 _;have hGf : Blk ((w6.setCell ⟨G,2,none⟩ (.int .i64 2)).setCell ⟨G,3,none⟩ (.int .i64 ((tx.length : Int) - 1))) g 85 #[.int .u8 0,.int .u8 0,.int .i64 0,.int .i64 0]:=(hG6.far (p:=⟨G,2,none⟩) hne _).far (p:=⟨G,3,none⟩) hne _;have hbf : Below g w ((w6.setCell ⟨G,2,none⟩ (.int .i64 2)).setCell ⟨G,3,none⟩ (.int .i64 ((tx.length : Int) - 1))):=(hb6.setCell (p:=⟨G,2,none⟩) hgG _).setCell (p:=⟨G,3,none⟩) hgG _;obtain ⟨s1,s2,s3⟩:=hF6.rules;go_wp2_with (first | refine wpList_load_row rfl 85 (.tmp 6) rfl G rfl 85 #[.int .u8 pv,.int .u8 qv,.int .i64 2,.int .i64 ((tx.length : Int) - 1)] (0,0) _ hF Tryz.underlying85 rfl (by kernel_rfl) ?_ | refine wpList_store_row rfl 85 (.tmp 2) (.tmp 71) rfl g #[.int .u8 pv,.int .u8 qv,.int .i64 2,.int .i64 ((tx.length : Int) - 1)] rfl rfl 85 #[.int .u8 0,.int .u8 0,.int .i64 0,.int .i64 0] hGf (by kernel_rfl) rfl (by simp [Value.oneCell']) ?_);refine ret_blk_tmp rfl rfl (hGf.setRow _) _ Tryz.underlying85 rfl (by kernel_rfl) rfl (.bool true) rfl ⟨by rw [HG.out]; exact Go.below_setRow hbf (Nat.le_refl _) _,?_⟩;rw [HI.out,if_pos rfl,HSH.out];rfl
       ·have hd6 : decide ((tx.length : Int) - 1 ≥ 6) = false:=decide_eq_false (by omega);have hsh:=shtC_sht (l:=tx) 1 1 hp (by rw [hdr]; exact hqn) (by omega);rw [hpv,HQV.out] at hsh;have HSH:=Lib.hid hsh;clear hsh;have hF : Blk ((w6.setCell ⟨G,2,none⟩ (.int .i64 2)).setCell ⟨G,3,none⟩ (.int .i64 ((tx.length : Int) - 1))) G 85 #[.int .u8 pv,.int .u8 qv,.int .i64 2,.int .i64 ((tx.length : Int) - 1)]:=(hF6.set_ 2 _).set_ 3 _;have hGf : Blk ((w6.setCell ⟨G,2,none⟩ (.int .i64 2)).setCell ⟨G,3,none⟩ (.int .i64 ((tx.length : Int) - 1))) g 85 #[.int .u8 0,.int .u8 0,.int .i64 0,.int .i64 0]:=(hG6.far (p:=⟨G,2,none⟩) hne _).far (p:=⟨G,3,none⟩) hne _;have hbf : Below g w ((w6.setCell ⟨G,2,none⟩ (.int .i64 2)).setCell ⟨G,3,none⟩ (.int .i64 ((tx.length : Int) - 1))):=(hb6.setCell (p:=⟨G,2,none⟩) hgG _).setCell (p:=⟨G,3,none⟩) hgG _;obtain ⟨s1,s2,s3⟩:=hF6.rules;go_wp2_with (first | refine wpList_load_row rfl 85 (.tmp 6) rfl G rfl 85 #[.int .u8 pv,.int .u8 qv,.int .i64 2,.int .i64 ((tx.length : Int) - 1)] (0,0) _ hF Tryz.underlying85 rfl (by kernel_rfl) ?_ | refine wpList_store_row rfl 85 (.tmp 2) (.tmp 71) rfl g #[.int .u8 pv,.int .u8 qv,.int .i64 2,.int .i64 ((tx.length : Int) - 1)] rfl rfl 85 #[.int .u8 0,.int .u8 0,.int .i64 0,.int .i64 0] hGf (by kernel_rfl) rfl (by simp [Value.oneCell']) ?_);refine ret_blk_tmp rfl rfl (hGf.setRow _) _ Tryz.underlying85 rfl (by kernel_rfl) rfl (.bool true) rfl ⟨by rw [HG.out]; exact Go.below_setRow hbf (Nat.le_refl _) _,?_⟩;rw [HI.out,if_pos rfl,HSH.out];rfl
    ·have hb : ((tx.length : Int) != (l.length : Int)) = true:=(by rw [bne_iff_ne]; omega);have HI:=Lib.hid (show b = false from by
      rw [HIS2.out];have : (tx == l) = false:=(by rw [beq_eq_false_iff_ne]; rintro rfl; exact hxl rfl);rw [this];rfl)
     clear HIS2 hxl hwh
     -- it is no string
     go_upto_region 3 with fail
     go_wp2_with (refine wpList_store_row rfl 85 (.tmp 2) (.tmp 39) rfl w.heap.size #[.int .u8 0,.int .u8 0,.int .i64 0,.int .i64 0] rfl rfl 85 #[.int .u8 0,.int .u8 0,.int .i64 0,.int .i64 0] hB2 (by kernel_rfl) rfl (by simp [Value.oneCell']) ?_);refine ret_blk_tmp rfl rfl (hB2.setRow _) _ Tryz.underlying85 rfl (by kernel_rfl) rfl (.bool false) rfl ⟨Go.below_setRow hbb2 (Nat.le_refl _) _,?_⟩;rw [HI.out];rfl
   ·have b7 : (tk == 7) = false:=(by simpa using h7);have b7' : (tk != 7) = true:=(by rw [bne,b7]; rfl);have HI:=Lib.hid (show b = false from by rw [HIS2.out,b7]; rfl);clear HIS2 h7 hwh
    -- it is no string
    go_upto_region 3 with fail
    go_wp2_with (refine wpList_store_row rfl 85 (.tmp 2) (.tmp 39) rfl w.heap.size #[.int .u8 0,.int .u8 0,.int .i64 0,.int .i64 0] rfl rfl 85 #[.int .u8 0,.int .u8 0,.int .i64 0,.int .i64 0] hB2 (by kernel_rfl) rfl (by simp [Value.oneCell']) ?_);refine ret_blk_tmp rfl rfl (hB2.setRow _) _ Tryz.underlying85 rfl (by kernel_rfl) rfl (.bool false) rfl ⟨Go.below_setRow hbb2 (Nat.le_refl _) _,?_⟩;rw [HI.out];rfl
end Go.Proofs.YtonehlkiackhcaaGreatDoor

namespace Go.Proofs.YtonehlkiackhcaaGreatDoor
open Go.RowKit Go.Shelf Go.Lib
def joinP (p : Prt) : List UInt8 :=
 if p.field = true then [123] ++ p.text ++ (if p.conv ≠ 0 then [33,UInt8.ofNat (p.conv % 256).toNat] else []) ++ (if p.spec ≠ [] then [58] ++ p.spec else []) ++ [125]
 else repl ((runesL p.text).flatMap (charQ 39 ctlB))
def joinL (ps : List Prt) : List UInt8:=[102,39] ++ ps.flatMap joinP ++ [39]
theorem quoted_in (rs : List Nat) : ((quotedS 39 ctlB rs).drop 1).take ((quotedS 39 ctlB rs).length - 1 - 1) = rs.flatMap (charQ 39 ctlB):=by
 unfold quotedS;simp
end Go.Proofs.YtonehlkiackhcaaGreatDoor

namespace Go.Proofs.YtonehlkiackhcaaGreatDoor
open Go.RowKit Go.Lib Go.Sort
section
variable {P : Program} {fn : Func} {R : Ending → World → Prop} {a : Act} {w : World} {p g t ty : Nat} {cs : Array Value}
end
end Go.Proofs.YtonehlkiackhcaaGreatDoor

namespace Go.Proofs.YtonehlkiackhcaaGreatDoor
open Go.RowKit Go.Lib Go.Sort
def FaPost (w : World) (R : Except Nat (Prt × Nat)) (e : Ending) (w' : World) : Prop :=
 Below w.heap.size w w' ∧ match R with
 | .ok (p,j) => e = .returned (.tuple #[.agg (prtc p).toArray,.int .i64 (j : Int),.bool true])
 | .error k => ∃ C : Array Value,C.size = 4 ∧ C.all (·.oneCell') = true ∧ e = .returned (.tuple #[.agg C,.int .i64 (k : Int),.bool false])
end Go.Proofs.YtonehlkiackhcaaGreatDoor

namespace Go.Proofs.YtonehlkiackhcaaGreatDoor
open Go.RowKit Go.Lib Go.Sort
end Go.Proofs.YtonehlkiackhcaaGreatDoor

namespace Go.Proofs.YtonehlkiackhcaaGreatDoor
open Go.RowKit Go.Lib Go.Sort
theorem take_next {l : List Prt} {k : Nat} {p : Prt} (h : l[k]? = some p) : l.take (k + 1) = l.take k ++ [p]:=by
 obtain ⟨hk,rfl⟩:=List.getElem?_eq_some_iff.1 h;exact List.take_succ_eq_append_getElem hk
theorem pequal_any {w : World} (a b : List Prt) (A B : Option Addr) (c d : Nat) (ha : a.length ≤ 9223372036854775807) (hb : b.length ≤ 9223372036854775807) (hra : Row w A (a.flatMap prtc)) (hrb : Row w B (b.flatMap prtc)) :
  Calls Tryz.prog 67 #[.slice A a.length c,.slice B b.length d] w fun e w' => e = .returned (.bool (decide (a = b))) ∧ Below w.heap.size w w':=by
 by_cases hlen : a.length = b.length
 ·have h0 : ((a.length : Int) != b.length) = false:=(by simp [hlen]);have HLN:=Lib.hid hlen;clear hlen;go_enter Tryz.func67,Tryz.ntmps67;go_wp2_with fail
  go_loopw [5,13] (fun i5 i wr => ∃ k n : Nat,k ≤ a.length ∧ i = .int .i64 (k : Int) ∧ wr = w.drewN n ∧ a.take k = b.take k) (fun _ i _ => a.length - (RowKit.intOf i).toNat)
  case atStart => exact ⟨0,0,Nat.zero_le _,rfl,rfl,by simp⟩
  case round =>
   obtain ⟨k,n,hk,rfl,rfl,htk⟩:=hrel;have HTK:=Lib.hid htk;clear htk
   by_cases hlt : k < a.length
   ·have hlt2 : k < b.length:=(by rw [← HLN.out]; exact hlt);obtain ⟨b1,o1,rfl,hb1,h1⟩:=hra.elem (f:=prtc) (s:=4) (fun _ => rfl) (by omega) hlt;obtain ⟨b2,o2,rfl,hb2,h2⟩:=hrb.elem (f:=prtc) (s:=4) (fun _ => rfl) (by omega) hlt2;obtain ⟨p,hp⟩ : ∃ p,a[k] = p:=⟨_,rfl⟩;obtain ⟨q,hq⟩ : ∃ q,b[k] = q:=⟨_,rfl⟩;rw [hp] at h1;rw [hq] at h2;have HAK:=Lib.hid (show a[k]? = some p from by rw [List.getElem?_eq_getElem hlt,hp]);have HBK:=Lib.hid (show b[k]? = some q from by rw [List.getElem?_eq_getElem hlt2,hq]);clear hp hq;obtain ⟨pf,pt,pc,ps⟩:=p;obtain ⟨qf,qt,qc,qs⟩:=q;have e0:=h1 0 (.bool pf) (by omega) rfl;have e1:=h1 1 (.string ⟨pt.toArray⟩) (by omega) rfl;have e2:=h1 2 (.int .i64 pc) (by omega) rfl;have e3:=h1 3 (.string ⟨ps.toArray⟩) (by omega) rfl;have d0:=h2 0 (.bool qf) (by omega) rfl;have d1:=h2 1 (.string ⟨qt.toArray⟩) (by omega) rfl;have d2:=h2 2 (.int .i64 qc) (by omega) rfl;have d3:=h2 3 (.string ⟨qs.toArray⟩) (by omega) rfl;rw [Nat.add_zero] at e0 d0;clear h1 h2;have i1 : (k : Int) < a.length:=(by omega);have i2 : (k : Int) < b.length:=(by omega);cases c1 : (pf == qf)
    ·have hne : ¬ a = b:=by
      intro h;have h1:=HAK.out;rw [h,HBK.out] at h1;cases h1;simp at c1
     have HNE:=Lib.hid hne;clear hne;go_wp2_with fail;go_quiet (fail);go_wp2_with fail;go_ret;refine ⟨ret_bool ?_,below_drewN (below_drewN (Below.refl _ _) _) _⟩;rw [eq_comm,decide_eq_false_iff_not];exact HNE.out
    ·cases c2 : (pt == qt)
     ·have hne : ¬ a = b:=by
       intro h;have h1:=HAK.out;rw [h,HBK.out] at h1;cases h1;simp at c2
      have HNE:=Lib.hid hne;clear hne;go_wp2_with fail;go_quiet (fail);go_wp2_with fail;go_ret;refine ⟨ret_bool ?_,below_drewN (below_drewN (Below.refl _ _) _) _⟩;rw [eq_comm,decide_eq_false_iff_not];exact HNE.out
     ·cases c3 : (pc == qc)
      ·have hne : ¬ a = b:=by
        intro h;have h1:=HAK.out;rw [h,HBK.out] at h1;cases h1;simp at c3
       have HNE:=Lib.hid hne;clear hne;go_wp2_with fail;go_quiet (fail);go_wp2_with fail;go_ret;refine ⟨ret_bool ?_,below_drewN (below_drewN (Below.refl _ _) _) _⟩;rw [eq_comm,decide_eq_false_iff_not];exact HNE.out
      ·cases c4 : (ps == qs)
       ·have hne : ¬ a = b:=by
         intro h;have h1:=HAK.out;rw [h,HBK.out] at h1;cases h1;simp at c4
        have HNE:=Lib.hid hne;clear hne;go_wp2_with fail;go_quiet (fail);go_wp2_with fail;go_ret;refine ⟨ret_bool ?_,below_drewN (below_drewN (Below.refl _ _) _) _⟩;rw [eq_comm,decide_eq_false_iff_not];exact HNE.out
       ·have hpq : a.take (k + 1) = b.take (k + 1):=by
         rw [take_next HAK.out,take_next HBK.out,HTK.out];rw [beq_iff_eq] at c1 c2 c3 c4;subst c1 c2 c3 c4;rfl
        have HPQ:=Lib.hid hpq;clear hpq;go_wp2_with fail;go_quiet (fail);go_wp2_with fail;go_roundw
        case rel => exact ⟨k + 1,_,by omega,by go_num,rfl,HPQ.out⟩
        case measure => simp [RowKit.intOf]; omega
   ·go_wp2_with fail;go_ret;refine ⟨ret_bool ?_,below_drewN (Below.refl _ _) _⟩;have h:=HTK.out;rw [List.take_of_length_le (by omega),List.take_of_length_le (by have:=HLN.out; omega)] at h;rw [eq_comm,decide_eq_true_iff];exact h
 ·have h0 : ((a.length : Int) != b.length) = true:=by
   rw [bne_iff_ne]; omega
  have HLN:=Lib.hid hlen;clear hlen;go_enter Tryz.func67,Tryz.ntmps67;go_wp2_with fail;go_ret;refine ⟨ret_bool ?_,Below.refl _ _⟩;rw [eq_comm,decide_eq_false_iff_not];exact fun h => HLN.out (by rw [h])
end Go.Proofs.YtonehlkiackhcaaGreatDoor
