/- The literals: the constant of a string, as the reference reads it. Nothing is claimed here. -/
import Derived.Test.YtonehlkiackhcaaGreatDoorRefTk
set_option linter.unusedVariables false
set_option linter.unusedSimpArgs false
set_option maxRecDepth 100000
set_option maxHeartbeats 16000000
namespace Go.Proofs.YtonehlkiackhcaaGreatDoor
section
open Go.RowKit Go.Shelf Go.Lib Go.Maps
end
section
open Go.RowKit Go.Lib Go.Sort
structure REnv (w : World) : Prop where
 c : CEnv w
 lim : Lim w
theorem REnv.keepB {w w' : World} (h : REnv w) (hb : Below w.heap.size w w') : REnv w':=⟨h.c.keepB hb,h.lim.keepB hb⟩
section
variable {P : Program} {fn : Func} {R : Ending → World → Prop} {a : Act} {w : World} {p g t ty : Nat} {cs : Array Value}
end
def shZ : Array Value:=#[.int .u8 0,.int .u8 0,.int .i64 0,.int .i64 0]
def SheetPost (w : World) (l : List UInt8) (b : Bool) (e : Ending) (w' : World) : Prop :=
 Below w.heap.size w w'∧e = .returned (.tuple #[.agg (if b = true then shtC (shtOf l) else shZ),.bool b])
end
section
open Go.RowKit Go.Shelf Go.Lib
def joinP (p : Prt) : List UInt8 :=
 if p.field = true then [123] ++ p.text ++ (if p.conv ≠ 0 then [33,UInt8.ofNat (p.conv % 256).toNat] else []) ++ (if p.spec ≠ [] then [58] ++ p.spec else []) ++ [125]
 else repl ((runesL p.text).flatMap (charQ 39 ctlB))
def joinL (ps : List Prt) : List UInt8:=[102,39] ++ ps.flatMap joinP ++ [39]
theorem quoted_in (rs : List Nat) : ((quotedS 39 ctlB rs).drop 1).take ((quotedS 39 ctlB rs).length - 1 - 1) = rs.flatMap (charQ 39 ctlB):=by
 unfold quotedS;simp
end
section
open Go.RowKit Go.Lib Go.Sort
section
variable {P : Program} {fn : Func} {R : Ending → World → Prop} {a : Act} {w : World} {p g t ty : Nat} {cs : Array Value}
end
end
section
open Go.RowKit Go.Lib Go.Sort
def FaPost (w : World) (R : Except Nat (Prt × Nat)) (e : Ending) (w' : World) : Prop :=
 Below w.heap.size w w'∧match R with
 | .ok (p,j) => e = .returned (.tuple #[.agg (prtc p).toArray,.int .i64 (j:Int),.bool true])
 | .error k => ∃ C : Array Value,C.size = 4∧C.all (·.oneCell') = true∧e = .returned (.tuple #[.agg C,.int .i64 (k:Int),.bool false])
theorem take_next {l : List Prt} {k : Nat} {p : Prt} (h : l[k]? = some p) : l.take (k + 1) = l.take k ++ [p]:=by
 obtain ⟨hk,rfl⟩:=List.getElem?_eq_some_iff.1 h;exact List.take_succ_eq_append_getElem hk
theorem pequal_any {w : World} (a b : List Prt) (A B : Option Addr) (c d:Nat) (ha : a.length ≤ 9223372036854775807) (hb : b.length ≤ 9223372036854775807) (hra : Row w A (a.flatMap prtc)) (hrb : Row w B (b.flatMap prtc)) :
  Calls Tryz.prog 67 #[.slice A a.length c,.slice B b.length d] w fun e w' => e = .returned (.bool (decide (a = b)))∧Below w.heap.size w w':=by
 by_cases hlen : a.length = b.length
 ·have h0 : ((a.length:Int) != b.length) = false:=(by simp [hlen]);have HLN:=hid hlen;clear hlen;go_enter Tryz.func67,Tryz.ntmps67;go_wp2_with fail
  go_loopw [5,13] (fun i5 i wr => ∃ k n : Nat,k ≤ a.length∧i = .int .i64 (k:Int)∧wr = w.drewN n∧a.take k = b.take k) (fun _ i _ => a.length - (RowKit.intOf i).toNat)
  case atStart => exact ⟨0,0,Nat.zero_le _,rfl,rfl,by simp⟩
  case round =>
   obtain ⟨k,n,hk,rfl,rfl,htk⟩:=hrel;have HTK:=hid htk;clear htk
   by_cases hlt : k < a.length
   ·have hlt2 : k < b.length:=(by rw [← HLN.out]; exact hlt);obtain ⟨b1,o1,rfl,hb1,h1⟩:=hra.elem (f:=prtc) (s:=4) (fun _ => rfl) (by omega) hlt;obtain ⟨b2,o2,rfl,hb2,h2⟩:=hrb.elem (f:=prtc) (s:=4) (fun _ => rfl) (by omega) hlt2;obtain ⟨p,hp⟩ : ∃ p,a[k] = p:=⟨_,rfl⟩;obtain ⟨q,hq⟩ : ∃ q,b[k] = q:=⟨_,rfl⟩;rw [hp] at h1;rw [hq] at h2;have HAK:=hid (show a[k]? = some p from by rw [List.getElem?_eq_getElem hlt,hp]);have HBK:=hid (show b[k]? = some q from by rw [List.getElem?_eq_getElem hlt2,hq]);clear hp hq;obtain ⟨pf,pt,pc,ps⟩:=p;obtain ⟨qf,qt,qc,qs⟩:=q;have e0:=h1 0 (.bool pf) (by omega) rfl;have e1:=h1 1 (.string ⟨pt.toArray⟩) (by omega) rfl;have e2:=h1 2 (.int .i64 pc) (by omega) rfl;have e3:=h1 3 (.string ⟨ps.toArray⟩) (by omega) rfl;have d0:=h2 0 (.bool qf) (by omega) rfl;have d1:=h2 1 (.string ⟨qt.toArray⟩) (by omega) rfl;have d2:=h2 2 (.int .i64 qc) (by omega) rfl;have d3:=h2 3 (.string ⟨qs.toArray⟩) (by omega) rfl;rw [Nat.add_zero] at e0 d0;clear h1 h2;have i1 : (k:Int) < a.length:=(by omega);have i2 : (k:Int) < b.length:=(by omega);cases c1 : (pf == qf)
    ·have hne : ¬ a = b:=by
      intro h;have h1:=HAK.out;rw [h,HBK.out] at h1;cases h1;simp at c1
     have HNE:=hid hne;clear hne;go_wp2_with fail;go_quiet (fail);go_wp2_with fail;go_ret;refine ⟨ret_bool ?_,below_drewN (below_drewN (Below.refl _ _) _) _⟩;rw [eq_comm,decide_eq_false_iff_not];exact HNE.out
    ·cases c2 : (pt == qt)
     ·have hne : ¬ a = b:=by
       intro h;have h1:=HAK.out;rw [h,HBK.out] at h1;cases h1;simp at c2
      have HNE:=hid hne;clear hne;go_wp2_with fail;go_quiet (fail);go_wp2_with fail;go_ret;refine ⟨ret_bool ?_,below_drewN (below_drewN (Below.refl _ _) _) _⟩;rw [eq_comm,decide_eq_false_iff_not];exact HNE.out
     ·cases c3 : (pc == qc)
      ·have hne : ¬ a = b:=by
        intro h;have h1:=HAK.out;rw [h,HBK.out] at h1;cases h1;simp at c3
       have HNE:=hid hne;clear hne;go_wp2_with fail;go_quiet (fail);go_wp2_with fail;go_ret;refine ⟨ret_bool ?_,below_drewN (below_drewN (Below.refl _ _) _) _⟩;rw [eq_comm,decide_eq_false_iff_not];exact HNE.out
      ·cases c4 : (ps == qs)
       ·have hne : ¬ a = b:=by
         intro h;have h1:=HAK.out;rw [h,HBK.out] at h1;cases h1;simp at c4
        have HNE:=hid hne;clear hne;go_wp2_with fail;go_quiet (fail);go_wp2_with fail;go_ret;refine ⟨ret_bool ?_,below_drewN (below_drewN (Below.refl _ _) _) _⟩;rw [eq_comm,decide_eq_false_iff_not];exact HNE.out
       ·have hpq : a.take (k + 1) = b.take (k + 1):=by
         rw [take_next HAK.out,take_next HBK.out,HTK.out];rw [beq_iff_eq] at c1 c2 c3 c4;subst c1 c2 c3 c4;rfl
        have HPQ:=hid hpq;clear hpq;go_wp2_with fail;go_quiet (fail);go_wp2_with fail;go_roundw
        case rel => exact ⟨k + 1,_,by omega,by go_num,rfl,HPQ.out⟩
        case measure => simp [RowKit.intOf]; omega
   ·go_wp2_with fail;go_ret;refine ⟨ret_bool ?_,below_drewN (Below.refl _ _) _⟩;have h:=HTK.out;rw [List.take_of_length_le (by omega),List.take_of_length_le (by have:=HLN.out; omega)] at h;rw [eq_comm,decide_eq_true_iff];exact h
 ·have h0 : ((a.length:Int) != b.length) = true:=by
   rw [bne_iff_ne]; omega
  have HLN:=hid hlen;clear hlen;go_enter Tryz.func67,Tryz.ntmps67;go_wp2_with fail;go_ret;refine ⟨ret_bool ?_,Below.refl _ _⟩;rw [eq_comm,decide_eq_false_iff_not];exact fun h => HLN.out (by rw [h])
end
section
open Go.RowKit Go.Shelf Go.Lib Go.Sort
theorem charQ_flat (rs : List Nat) : (rs.flatMap (charQ 39 ctlB)).length ≤ 4 * rs.length:=by
 induction rs with
 | nil => simp
 | cons r rs ih =>
  rw [List.flatMap_cons,List.length_append,List.length_cons];have:=charQ_len 39 ctlB r;omega
theorem conv_one (x : UInt8) (W : World) : (convert 71 9 (.slice (some ⟨W.heap.size,0,none⟩) 1 1)).run Tryz.prog (W.alloc (.cells #[.int .u8 (x.toNat:Int)] 5)) = .ok (.string ⟨#[x]⟩) (W.alloc (.cells #[.int .u8 (x.toNat:Int)] 5)):=by
 refine run_convert_bytes_back _ 71 9 5 ⟨W.heap.size,0,none⟩ 1 [x] Tryz.underlying71 Tryz.underlying5 Tryz.underlying9 (fun j hj => ?_);have hj0 : j = 0:=by simp at hj; omega
 subst hj0;exact (Blk.new W 5 #[.int .u8 (x.toNat:Int)]).cell 0
def joinT (ps : List Prt) (k:Nat) : List UInt8:=[102,39] ++ (ps.take k).flatMap joinP
theorem joinT_next {ps : List Prt} {k : Nat} {p : Prt} (h : ps[k]? = some p) : joinT ps (k + 1) = joinT ps k ++ joinP p:=by
 obtain ⟨hk,rfl⟩:=List.getElem?_eq_some_iff.1 h;unfold joinT;rw [List.take_succ_eq_append_getElem hk,List.flatMap_append,List.flatMap_singleton,List.append_assoc]
theorem joinT_len (ps : List Prt) (k:Nat) : (joinT ps k).length ≤ (joinL ps).length:=by
 unfold joinT joinL;have h : ((ps.take k).flatMap joinP).length ≤ (ps.flatMap joinP).length:=by
  conv => rhs; rw [← List.take_append_drop k ps,List.flatMap_append]
  simp
 simp only [List.length_append];omega
theorem joinL_T (ps : List Prt) : joinL ps = joinT ps ps.length ++ [39]:=by
 unfold joinT joinL;rw [List.take_length]
def ljoinR (ps : List Prt) : List UInt8 × Int × Int :=
 if 16000 < (joinL ps).length then ([],14,-1) else match partsS (joinL ps) with
 | .error _ => ([],6,-1)
 | .ok m => if ps = m then (joinL ps,0,0) else ([],6,-1)
theorem parts_err {l : List UInt8} {c i : Int} (h : partsS l = .error (c,i)) : c ≠ 0:=by
 unfold partsS at h;split at h
 ·cases h; decide
 ·split at h
  ·cases h; decide
  ·split at h
   ·cases h; decide
   ·split at h
    ·cases h; decide
    ·cases h
def LJPost (w : World) (r : List UInt8 × Int × Int) (e : Ending) (w' : World) : Prop:=e = .returned (.tuple #[.string ⟨r.1.toArray⟩,flt r.2.1 r.2.2])∧Below w.heap.size w w'
def LJRel (ps : List Prt) (w : World) (i : Value) (wr : World) : Prop :=
 ∃ k : Nat,k ≤ ps.length∧i = .int .i64 (k:Int)∧Bld wr (w.heap.size + 1) (joinT ps k)∧Blk wr w.heap.size 29 #[.int .i64 0,.int .i64 0]∧Below w.heap.size w wr
theorem ljoin_any (A : Option Addr) (c:Nat) (ps : List Prt) (w : World) (hl : ps.length ≤ 1000000) (hjl : (joinL ps).length ≤ 50000000) (ht : ∀ p ∈ ps,p.text.length ≤ 2097152∧p.spec.length ≤ 2097152∧(p.field = false → ∀ r ∈ runesL p.text,IrOk r)) (hr : Row w A (ps.flatMap prtc)) (he : LEnv w) :
  Calls Tryz.prog 18 #[.slice A ps.length c] w (LJPost w (ljoinR ps)):=by
 have hb0 : Below w.heap.size w ((w.alloc (.cells #[.int .i64 0,.int .i64 0] 29)).alloc (.cells #[.pointer none,.slice none 0 0] 99)):=((Below.refl _ w).alloc (Nat.le_refl _) _).alloc (by simp) _;have hP:=(Blk.new w 29 #[.int .i64 0,.int .i64 0]).alloc (.cells #[.pointer none,.slice none 0 0] 99);have hB:=Bld.new (w.alloc (.cells #[.int .i64 0,.int .i64 0] 29));rw [show (w.alloc (.cells #[.int .i64 0,.int .i64 0] 29)).heap.size = w.heap.size + 1 from by simp] at hB;go_enter Tryz.func18,Tryz.ntmps18;go_wp2_with fail;refine (bld_str hB (by simp) [102,39] (by simp)).mono ?_;rintro e w1 ⟨⟨n1,rfl⟩,hB1,hbb,ho⟩;have hP1:=hP.below hbb (Nat.lt_succ_self _);have hb1:=hb0.trans (hbb.mono (Nat.le_succ _));clear hP hB hb0 hbb ho;go_wp2_with fail
 go_loopw [6,7,13] (fun _ _ i wr => LJRel ps w i wr) (fun _ _ i _ => ps.length - (RowKit.intOf i).toNat)
 case atStart => exact ⟨0,Nat.zero_le _,rfl,by simpa [joinT] using hB1,hP1,hb1⟩
 case round =>
  obtain ⟨k,hk,rfl,hBr,hPr,hbr⟩:=hrel;clear hB1 hP1 hb1
  by_cases hlt : k < ps.length
  ·obtain ⟨b1,o1,rfl,hbb1,h1⟩:=(hr.keepB hbr).elem (f:=prtc) (s:=4) (fun _ => rfl) (by omega) hlt;obtain ⟨p,hp⟩ : ∃ p,ps[k] = p:=⟨_,rfl⟩;have hpk : ps[k]? = some p:=(by rw [List.getElem?_eq_getElem hlt,hp]);have hpt:=ht p (List.mem_of_getElem? hpk);have HNX:=hid (joinT_next hpk);rw [hp] at h1;have HLN:=hid (joinT_len ps (k + 1));have HLO:=hid (joinT_len ps k);obtain ⟨pf,pt,pc,pz⟩:=p;have e0:=h1 0 (.bool pf) (by omega) rfl;have e1:=h1 1 (.string ⟨pt.toArray⟩) (by omega) rfl;have e2:=h1 2 (.int .i64 pc) (by omega) rfl;have e3:=h1 3 (.string ⟨pz.toArray⟩) (by omega) rfl;rw [Nat.add_zero] at e0;clear h1 hp hpk;have hBa : Bld (wr.alloc (.cells #[.bool pf,.string ⟨pt.toArray⟩,.int .i64 pc,.string ⟨pz.toArray⟩] 91)) (w.heap.size + 1) (joinT ps k):=hBr.belowS ((Below.refl _ wr).alloc (Nat.le_refl _) _);have hPa:=hPr.alloc (.cells #[.bool pf,.string ⟨pt.toArray⟩,.int .i64 pc,.string ⟨pz.toArray⟩] 91);have hTa:=Blk.new wr 91 #[.bool pf,.string ⟨pt.toArray⟩,.int .i64 pc,.string ⟨pz.toArray⟩];have hba:=hbr.alloc hbr.size (.cells #[.bool pf,.string ⟨pt.toArray⟩,.int .i64 pc,.string ⟨pz.toArray⟩] 91);have hne : wr.heap.size ≠ w.heap.size + 1:=Nat.ne_of_gt hBr.lt;obtain ⟨hpt1,hpt2,hpt3⟩:=hpt;have hlo:=HLO.out;dsimp only at hpt1 hpt2 hpt3;obtain ⟨O,hO⟩ : ∃ O,joinT ps k = O:=⟨_,rfl⟩;rw [hO] at hBa hlo HNX;clear hO hBr hPr hbr;cases pf
   ·have hir:=hpt3 rfl;clear hpt3;have HIR:=hid hir;clear hir;have hjq : joinP ⟨false,pt,pc,pz⟩ = repl ((runesL pt).flatMap (charQ 39 ctlB)):=rfl;rw [hjq] at HNX;go_wp2_with fail;refine (quoted39_any pt _ hpt1 HIR.out).mono ?_;rintro e w2 ⟨rfl,hbb⟩;have hB2:=hBa.belowS hbb;have hP2:=hPa.belowS hbb;have hb2:=below_then hba hbb hba.size;clear hBa hPa hTa hba hbb hjq;have HQI:=hid (quoted_in (runesL pt));obtain ⟨q,hq⟩ : ∃ q,quotedS 39 ctlB (runesL pt) = q:=⟨_,rfl⟩;obtain ⟨m,hm⟩ : ∃ m,(runesL pt).flatMap (charQ 39 ctlB) = m:=⟨_,rfl⟩;have hq2 : 2 ≤ q.length:=(by rw [← hq]; unfold quotedS; simp);rw [hq,hm] at HQI;rw [hm] at HNX;rw [hq];have hrl:=runesF_len pt.length pt;have hml : m.length ≤ 1099511627776:=by
     have:=charQ_flat (runesL pt);rw [hm] at this;have h9 : (runesL pt).length ≤ pt.length:=hrl;omega
    have hqm : q.length = m.length + 2:=(by rw [← hq,← hm]; unfold quotedS; simp);obtain ⟨j,hj⟩ : ∃ j : Int,(q.length:Int) - 1 = j:=⟨_,rfl⟩;have hj0 : (0:Int) ≤ j:=(by omega);have hj1 : (1:Int) ≤ j:=(by omega);have hj2 : j ≤ (q.length:Int):=(by omega);have hjw : IntKind.i64.wrap j = j:=IntWalk.i64_in _ (by omega);have HEX : (⟨q.toArray⟩ : ByteArray).extract 1 j.toNat = ⟨m.toArray⟩:=by
     rw [show j.toNat = q.length - 1 by omega,extract_sub,HQI.out]
    have HSL : ∀ W : World,(Instr.slice 9 (.string ⟨q.toArray⟩) (some (.int .i64 1)) (some (.int .i64 j)) none).run Tryz.prog W = .ok (.string ⟨m.toArray⟩) W:=by
     intro W;rw [run_slice_string W 9 ⟨q.toArray⟩ .i64 .i64 1 j Tryz.underlying9 (by decide) (by omega) (by simpa [ByteArray.size] using hj2),show (1:Int).toNat = 1 from rfl,HEX]
    clear hrl hqm;clear hq hm;go_wp2_with fail
    go_cut [7] from 23 to 30 (fun s7 wx => s7 = .string ⟨(repl m).toArray⟩∧Below w2.heap.size w2 wx)
    case first =>
     go_region_with (first
      | (go_at_call 63; refine (newrep_any (by exact Row.new _ #[strV [123],strV [123,123],strV [125],strV [125,125]] 9)).mono ?_; rintro e w3 ⟨r,rq,rc,rfl,hge,hR,c0,c1,c2,c3,hqs,hbN⟩; have hbA:=(Below.refl w2.heap.size w2).drew.alloc (Nat.le_refl _) (.cells #[strV [123],strV [123,123],strV [125],strV [125,125]] 9); have hbW : Below w2.heap.size w2 w3:=below_then hbA hbN hbA.size; replace hge : w2.heap.size ≤ r:=Nat.le_trans hbA.size hge; clear hbN hbA)
      | (go_at_call 64; refine (replace_any hR c0 c1 c2 c3 hqs m (by omega)).mono ?_; rintro e w4 ⟨rfl,hb4⟩))
     all_goals (go_wp2_with fail; go_meet; exact ⟨rfl,hb4 _ _ hge hbW⟩)
    case rest =>
     obtain ⟨rfl,hbc⟩:=hcut;have hB3:=hB2.belowS hbc;have hP3:=hP2.belowS hbc;have hb3:=below_then hb2 hbc hb2.size;have hrl:=repl_len m;have hrn : brN m ≤ 2 * m.length:=by
      unfold brN;have h1:=List.count_le_length (a:=(125 : UInt8)) (l:=m);have h2:=List.count_le_length (a:=(123 : UInt8)) (l:=m);omega
     clear hB2 hP2 hb2 hbc HSL HEX hj hjw hj0 hj1 hj2;go_wp2_with fail;refine (bld_str hB3 (by omega) (repl m) (by omega)).mono ?_;rintro e w4 ⟨⟨n4,rfl⟩,hB4,hbb,ho⟩;have hP4:=hP3.below hbb (Nat.lt_succ_self _);have hb4:=hb3.trans (hbb.mono (Nat.le_succ _));clear hB3 hP3 hb3 hbb ho;go_wp2_with fail;go_roundw
     case rel => exact ⟨k + 1,by omega,by go_num,by rw [HNX.out]; exact hB4,hP4,hb4⟩
     case measure => simp [RowKit.intOf]; omega
   ·clear hpt3;obtain ⟨t1,ht1⟩ : ∃ t,[123] ++ pt = t:=⟨_,rfl⟩;obtain ⟨t2,ht2⟩ : ∃ t,[58] ++ pz = t:=⟨_,rfl⟩;have hadd1 : ∀ W : World,(Op.stringOp .add ⟨#[123]⟩ ⟨pt.toArray⟩).run Tryz.prog W = .ok (.string ⟨t1.toArray⟩) W:=fun W => by rw [← ht1]; exact run_string_add_lists W [123] pt (by simp) (by omega)
    have hadd2 : ∀ W : World,(Op.stringOp .add ⟨#[58]⟩ ⟨pz.toArray⟩).run Tryz.prog W = .ok (.string ⟨t2.toArray⟩) W:=fun W => by rw [← ht2]; exact run_string_add_lists W [58] pz (by simp) (by omega)
    have hl1 : t1.length ≤ 2097153:=(by rw [← ht1]; simp; omega);have hl2 : t2.length ≤ 2097153:=(by rw [← ht2]; simp; omega);have HT1:=hid ht1;have HT2:=hid ht2;clear ht1 ht2;obtain ⟨x,hx⟩ : ∃ x,UInt8.ofNat (pc % 256).toNat = x:=⟨_,rfl⟩;have hxn : (x.toNat:Int) = pc % 256:=(by rw [← hx]; simp [UInt8.toNat_ofNat']; omega);have HCV : ∀ W : World,(convert 71 9 (.slice (some ⟨W.heap.size,0,none⟩) 1 1)).run Tryz.prog (W.alloc (.cells #[.int .u8 (pc % 256)] 5)) = .ok (.string ⟨#[x]⟩) (W.alloc (.cells #[.int .u8 (pc % 256)] 5)):=fun W => by rw [← hxn]; exact conv_one x W
    obtain ⟨t3,ht3⟩ : ∃ t,[33] ++ [x] = t:=⟨_,rfl⟩;have hadd3 : ∀ W : World,(Op.stringOp .add ⟨#[33]⟩ ⟨#[x]⟩).run Tryz.prog W = .ok (.string ⟨t3.toArray⟩) W:=fun W => by rw [← ht3]; exact run_string_add_lists W [33] [x] (by simp) (by simp)
    have hl3 : t3.length ≤ 2:=(by rw [← ht3]; simp);have HT3:=hid ht3;have HX:=hid hx;clear ht3 hx hxn
    by_cases hc : pc = 0
    ·subst hc
     by_cases hz : pz = []
     ·subst hz;go_wp2_with fail;refine (bld_str hBa (by first | omega | (simp only [List.length_append,List.length_cons,List.length_nil]; omega)) (t1) (by first | omega | (simp only [List.length_append,List.length_cons,List.length_nil]; omega))).mono ?_;rintro e w2 ⟨⟨n2,rfl⟩,hB2,hbb,ho⟩;have hP2:=hPa.below hbb (Nat.lt_succ_self _);have hb2:=hba.trans (hbb.mono (Nat.le_succ _));have hT2:=hTa.others ho hne (by decide);obtain ⟨r1,r2,r3⟩:=hT2.rules;clear hBa hPa hTa hba hbb ho;go_wp2_with fail;refine (bld_str hB2 (by first | omega | (simp only [List.length_append,List.length_cons,List.length_nil]; omega)) ([125]) (by first | omega | (simp only [List.length_append,List.length_cons,List.length_nil]; omega))).mono ?_;rintro e w3 ⟨⟨n3,rfl⟩,hB3,hbb,ho⟩;have hP3:=hP2.below hbb (Nat.lt_succ_self _);have hb3:=hb2.trans (hbb.mono (Nat.le_succ _));have hT3:=hT2.others ho hne (by decide);obtain ⟨r1,r2,r3⟩:=hT3.rules;clear hB2 hP2 hT2 hb2 hbb ho;go_wp2_with fail;go_roundw
      case rel => exact ⟨k + 1,by omega,by go_num,by rw [HNX.out]; have h1:=HT1.out; have h2:=HT2.out; have h3:=HT3.out; subst h1 h2 h3; unfold joinP; simpa [joinT_next] using hB3,hP3,hb3⟩
      case measure => simp [RowKit.intOf]; omega
     ·have hzb : (pz == []) = false:=(by simpa using hz);have HZ:=hid hz;clear hz;go_wp2_with fail;refine (bld_str hBa (by first | omega | (simp only [List.length_append,List.length_cons,List.length_nil]; omega)) (t1) (by first | omega | (simp only [List.length_append,List.length_cons,List.length_nil]; omega))).mono ?_;rintro e w2 ⟨⟨n2,rfl⟩,hB2,hbb,ho⟩;have hP2:=hPa.below hbb (Nat.lt_succ_self _);have hb2:=hba.trans (hbb.mono (Nat.le_succ _));have hT2:=hTa.others ho hne (by decide);obtain ⟨r1,r2,r3⟩:=hT2.rules;clear hBa hPa hTa hba hbb ho;go_wp2_with fail;refine (bld_str hB2 (by first | omega | (simp only [List.length_append,List.length_cons,List.length_nil]; omega)) (t2) (by first | omega | (simp only [List.length_append,List.length_cons,List.length_nil]; omega))).mono ?_;rintro e w3 ⟨⟨n3,rfl⟩,hB3,hbb,ho⟩;have hP3:=hP2.below hbb (Nat.lt_succ_self _);have hb3:=hb2.trans (hbb.mono (Nat.le_succ _));have hT3:=hT2.others ho hne (by decide);obtain ⟨r1,r2,r3⟩:=hT3.rules;clear hB2 hP2 hT2 hb2 hbb ho;go_wp2_with fail;refine (bld_str hB3 (by first | omega | (simp only [List.length_append,List.length_cons,List.length_nil]; omega)) ([125]) (by first | omega | (simp only [List.length_append,List.length_cons,List.length_nil]; omega))).mono ?_;rintro e w4 ⟨⟨n4,rfl⟩,hB4,hbb,ho⟩;have hP4:=hP3.below hbb (Nat.lt_succ_self _);have hb4:=hb3.trans (hbb.mono (Nat.le_succ _));have hT4:=hT3.others ho hne (by decide);obtain ⟨r1,r2,r3⟩:=hT4.rules;clear hB3 hP3 hT3 hb3 hbb ho;go_wp2_with fail;go_roundw
      case rel => exact ⟨k + 1,by omega,by go_num,by rw [HNX.out]; have h1:=HT1.out; have h2:=HT2.out; have h3:=HT3.out; subst h1 h2 h3; unfold joinP; simpa [HZ.out] using hB4,hP4,hb4⟩
      case measure => simp [RowKit.intOf]; omega
    ·have hcb : (pc == 0) = false:=(by simpa using hc);have HC:=hid hc;clear hc
     by_cases hz : pz = []
     ·subst hz;go_wp2_with fail;refine (bld_str hBa (by first | omega | (simp only [List.length_append,List.length_cons,List.length_nil]; omega)) (t1) (by first | omega | (simp only [List.length_append,List.length_cons,List.length_nil]; omega))).mono ?_;rintro e w2 ⟨⟨n2,rfl⟩,hB2,hbb,ho⟩;have hP2:=hPa.below hbb (Nat.lt_succ_self _);have hb2:=hba.trans (hbb.mono (Nat.le_succ _));have hT2:=hTa.others ho hne (by decide);obtain ⟨r1,r2,r3⟩:=hT2.rules;clear hBa hPa hTa hba hbb ho;go_wp2_with fail;have hB9 : Bld (w2.alloc (.cells #[.int .u8 (pc % 256)] 5)) (w.heap.size + 1) (O ++ t1):=hB2.belowS ((Below.refl _ w2).alloc (Nat.le_refl _) _);have hP9:=hP2.alloc (.cells #[.int .u8 (pc % 256)] 5);have hT9:=hT2.alloc (.cells #[.int .u8 (pc % 256)] 5);have hb9:=hb2.alloc hb2.size (.cells #[.int .u8 (pc % 256)] 5);clear hB2 hP2 hT2 hb2 r1 r2 r3;refine (bld_str hB9 (by first | omega | (simp only [List.length_append,List.length_cons,List.length_nil]; omega)) (t3) (by first | omega | (simp only [List.length_append,List.length_cons,List.length_nil]; omega))).mono ?_;rintro e w3 ⟨⟨n3,rfl⟩,hB3,hbb,ho⟩;have hP3:=hP9.below hbb (Nat.lt_succ_self _);have hb3:=hb9.trans (hbb.mono (Nat.le_succ _));have hT3:=hT9.others ho hne (by decide);obtain ⟨r1,r2,r3⟩:=hT3.rules;clear hB9 hP9 hT9 hb9 hbb ho;go_wp2_with fail;refine (bld_str hB3 (by first | omega | (simp only [List.length_append,List.length_cons,List.length_nil]; omega)) ([125]) (by first | omega | (simp only [List.length_append,List.length_cons,List.length_nil]; omega))).mono ?_;rintro e w4 ⟨⟨n4,rfl⟩,hB4,hbb,ho⟩;have hP4:=hP3.below hbb (Nat.lt_succ_self _);have hb4:=hb3.trans (hbb.mono (Nat.le_succ _));have hT4:=hT3.others ho hne (by decide);obtain ⟨r1,r2,r3⟩:=hT4.rules;clear hB3 hP3 hT3 hb3 hbb ho;go_wp2_with fail;go_roundw
      case rel => exact ⟨k + 1,by omega,by go_num,by rw [HNX.out]; have h1:=HT1.out; have h2:=HT2.out; have h3:=HT3.out; subst h1 h2 h3; unfold joinP; simpa [HC.out,HX.out] using hB4,hP4,hb4⟩
      case measure => simp [RowKit.intOf]; omega
     ·have hzb : (pz == []) = false:=(by simpa using hz);have HZ:=hid hz;clear hz;go_wp2_with fail;refine (bld_str hBa (by first | omega | (simp only [List.length_append,List.length_cons,List.length_nil]; omega)) (t1) (by first | omega | (simp only [List.length_append,List.length_cons,List.length_nil]; omega))).mono ?_;rintro e w2 ⟨⟨n2,rfl⟩,hB2,hbb,ho⟩;have hP2:=hPa.below hbb (Nat.lt_succ_self _);have hb2:=hba.trans (hbb.mono (Nat.le_succ _));have hT2:=hTa.others ho hne (by decide);obtain ⟨r1,r2,r3⟩:=hT2.rules;clear hBa hPa hTa hba hbb ho;go_wp2_with fail;have hB9 : Bld (w2.alloc (.cells #[.int .u8 (pc % 256)] 5)) (w.heap.size + 1) (O ++ t1):=hB2.belowS ((Below.refl _ w2).alloc (Nat.le_refl _) _);have hP9:=hP2.alloc (.cells #[.int .u8 (pc % 256)] 5);have hT9:=hT2.alloc (.cells #[.int .u8 (pc % 256)] 5);have hb9:=hb2.alloc hb2.size (.cells #[.int .u8 (pc % 256)] 5);clear hB2 hP2 hT2 hb2 r1 r2 r3;refine (bld_str hB9 (by first | omega | (simp only [List.length_append,List.length_cons,List.length_nil]; omega)) (t3) (by first | omega | (simp only [List.length_append,List.length_cons,List.length_nil]; omega))).mono ?_;rintro e w3 ⟨⟨n3,rfl⟩,hB3,hbb,ho⟩;have hP3:=hP9.below hbb (Nat.lt_succ_self _);have hb3:=hb9.trans (hbb.mono (Nat.le_succ _));have hT3:=hT9.others ho hne (by decide);obtain ⟨r1,r2,r3⟩:=hT3.rules;clear hB9 hP9 hT9 hb9 hbb ho;go_wp2_with fail;refine (bld_str hB3 (by first | omega | (simp only [List.length_append,List.length_cons,List.length_nil]; omega)) (t2) (by first | omega | (simp only [List.length_append,List.length_cons,List.length_nil]; omega))).mono ?_;rintro e w4 ⟨⟨n4,rfl⟩,hB4,hbb,ho⟩;have hP4:=hP3.below hbb (Nat.lt_succ_self _);have hb4:=hb3.trans (hbb.mono (Nat.le_succ _));have hT4:=hT3.others ho hne (by decide);obtain ⟨r1,r2,r3⟩:=hT4.rules;clear hB3 hP3 hT3 hb3 hbb ho;go_wp2_with fail;refine (bld_str hB4 (by first | omega | (simp only [List.length_append,List.length_cons,List.length_nil]; omega)) ([125]) (by first | omega | (simp only [List.length_append,List.length_cons,List.length_nil]; omega))).mono ?_;rintro e w5 ⟨⟨n5,rfl⟩,hB5,hbb,ho⟩;have hP5:=hP4.below hbb (Nat.lt_succ_self _);have hb5:=hb4.trans (hbb.mono (Nat.le_succ _));have hT5:=hT4.others ho hne (by decide);obtain ⟨r1,r2,r3⟩:=hT5.rules;clear hB4 hP4 hT4 hb4 hbb ho;go_wp2_with fail;go_roundw
      case rel => exact ⟨k + 1,by omega,by go_num,by rw [HNX.out]; have h1:=HT1.out; have h2:=HT2.out; have h3:=HT3.out; subst h1 h2 h3; unfold joinP; simpa [HC.out,HZ.out,HX.out] using hB5,hP5,hb5⟩
      case measure => simp [RowKit.intOf]; omega
  ·have hk2 : k = ps.length:=(by omega);have hlo:=joinT_len ps k;have HLE:=hid (show joinT ps k ++ [39] = joinL ps from by rw [hk2,joinL_T]);obtain ⟨O,hO⟩ : ∃ O,joinT ps k = O:=⟨_,rfl⟩;rw [hO] at hBr hlo HLE;clear hO hk2;go_wp2_with fail;refine (bld_str hBr (by omega) [39] (by simp)).mono ?_;rintro e w2 ⟨⟨n2,rfl⟩,hB2,hbb,ho⟩;have hP2:=hPr.below hbb (Nat.lt_succ_self _);have hb2:=hbr.trans (hbb.mono (Nat.le_succ _));clear hBr hPr hbr hbb ho;rw [HLE.out] at hB2;obtain ⟨J,hJ⟩ : ∃ J,joinL ps = J:=⟨_,rfl⟩;have HJ:=hid hJ;rw [hJ] at hB2 hjl;clear hJ HLE hlo;go_wp2_with fail;refine (bld_len hB2).mono ?_;rintro e w3 ⟨rfl,rfl⟩;obtain ⟨q1,q2,q3⟩:=hP2.rules
   by_cases hlong : 16000 < J.length
   ·have hjr : ljoinR ps = ([],14,-1):=(by unfold ljoinR; rw [HJ.out,if_pos hlong]);have HF:=hid hjr;have c1 : (16000:Int) < (J.length:Int):=(by omega);clear hjr;go_wp2_with fail;refine (lfault_any (14) (-1) _).mono ?_;rintro e w9 ⟨rfl,hbb9⟩;have hP9:=Blk.belowS hP2 hbb9;have hb9:=below_then hb2 hbb9 (Below.size hb2);obtain ⟨r1,r2,r3⟩:=hP9.rules;go_wp2_with fail;rw [HF.out];have hPz:=(hP9.set_ 0 (.int .i64 (14))).set_ 1 (.int .i64 (-1));exact ret_tmp_blk rfl rfl hPz _ Tryz.underlying29 rfl (by kernel_rfl) rfl _ rfl ⟨rfl,(hb9.setCell (p:=⟨_,0,none⟩) (Nat.le_refl _) _).setCell (p:=⟨_,1,none⟩) (Nat.le_refl _) _⟩
   ·have c1 : ¬ (16000:Int) < (J.length:Int):=(by omega);go_wp2_with fail;refine (bld_string hB2).mono ?_;rintro e w3 ⟨rfl,hB3,hbb⟩;have hP3:=hP2.below hbb (Nat.lt_succ_self _);have hb3:=hb2.trans (hbb.mono (Nat.le_succ _));clear hB2 hP2 hb2 hbb q1 q2 q3 c1;go_wp2_with fail;refine (parts_any J w3 (by omega) (he.keepB hb3)).mono ?_;rintro e w4 ⟨hbb,hpost⟩;have hB4:=hB3.belowS hbb;have hP4:=hP3.belowS hbb;have hb4:=below_then hb3 hbb hb3.size;have hr4:=hr.keepB hb4;clear hB3 hP3;obtain ⟨R,hR⟩ : ∃ R,partsS J = R:=⟨_,rfl⟩;rw [hR] at hpost;have HR:=hid hR;clear hR;have hPlt:=hP4.lt;have hBlt:=hB4.lt;rcases R with ⟨ce,ie⟩ | m
    ·have hce:=parts_err HR.out;have hcb : (ce == 0) = false:=(by simpa using hce);obtain rfl:=hpost;have hjr : ljoinR ps = ([],6,-1):=(by unfold ljoinR; rw [HJ.out,if_neg hlong,HR.out]);have HF:=hid hjr;clear hjr hce;have hP5:=hP4.alloc (.cells #[.int .i64 ce,.int .i64 ie] 29);have hb5:=hb4.alloc hb4.size (.cells #[.int .i64 ce,.int .i64 ie] 29);obtain ⟨q1,q2,q3⟩:=hP4.rules;unfold flt;go_wp2_with fail;refine (lfault_any (6) (-1) _).mono ?_;rintro e w9 ⟨rfl,hbb9⟩;have hP9:=Blk.belowS hP5 hbb9;have hb9:=below_then hb5 hbb9 (Below.size hb5);obtain ⟨r1,r2,r3⟩:=hP9.rules;go_wp2_with fail;rw [HF.out];have hPz:=(hP9.set_ 0 (.int .i64 (6))).set_ 1 (.int .i64 (-1));exact ret_tmp_blk rfl rfl hPz _ Tryz.underlying29 rfl (by kernel_rfl) rfl _ rfl ⟨rfl,(hb9.setCell (p:=⟨_,0,none⟩) (Nat.le_refl _) _).setCell (p:=⟨_,1,none⟩) (Nat.le_refl _) _⟩
    ·obtain ⟨vt,rfl,hown⟩:=hpost;obtain ⟨A2,c2,rfl,hrm,_⟩:=own_form hown;have hml : m.length ≤ 9223372036854775807:=by
      rcases hown.2 with ⟨_,h0⟩ | ⟨_,cap,_,_,_,_,h1,h2,_⟩
      ·omega
      ·unfold maxLen at h2; omega
     have hP5:=hP4.alloc (.cells #[.int .i64 0,.int .i64 0] 29);have hb5:=hb4.alloc hb4.size (.cells #[.int .i64 0,.int .i64 0] 29);have hB5 : Bld (w4.alloc (.cells #[.int .i64 0,.int .i64 0] 29)) (w.heap.size + 1) J:=hB4.belowS ((Below.refl _ w4).alloc (Nat.le_refl _) _);have hr5:=hr4.keepB ((Below.refl _ w4).alloc (Nat.le_refl _) (.cells #[.int .i64 0,.int .i64 0] 29));have hrm5:=hrm.keepB ((Below.refl _ w4).alloc (Nat.le_refl _) (.cells #[.int .i64 0,.int .i64 0] 29));obtain ⟨q1,q2,q3⟩:=hP4.rules;unfold flt;go_wp2_with fail;refine (pequal_any ps m _ _ _ _ (by omega) hml hr5 hrm5).mono ?_;rintro e w5 ⟨rfl,hbb5⟩;have hB6:=hB5.belowS hbb5;have hP6:=hP5.belowS hbb5;have hb6:=below_then hb5 hbb5 hb5.size;clear hB4 hP4 hB5 hP5 hb5 hbb5 hr4 hr5 hrm hrm5 hown hbb q1 q2 q3
     by_cases hq : ps = m
     ·have hqb : decide (ps = m) = true:=(by simpa using hq);have hjr : ljoinR ps = (J,0,0):=(by unfold ljoinR; rw [HJ.out,if_neg hlong,HR.out]; exact if_pos hq);have HF:=hid hjr;rw [hqb];clear hjr hq hqb;go_wp2_with fail;refine (bld_string hB6).mono ?_;rintro e w7 ⟨rfl,hB7,hbb⟩;have hP7:=hP6.below hbb (Nat.lt_succ_self _);have hb7:=hb6.trans (hbb.mono (Nat.le_succ _));clear hP6 hb6 hbb;obtain ⟨q1,q2,q3⟩:=hP7.rules;go_wp2_with fail;rw [HF.out];have hPz:=(hP7.set_ 0 (.int .i64 0)).set_ 1 (.int .i64 0);exact ret_tmp_blk rfl rfl hPz _ Tryz.underlying29 rfl (by kernel_rfl) rfl _ rfl ⟨rfl,(hb7.setCell (p:=⟨w.heap.size,0,none⟩) (Nat.le_refl _) _).setCell (p:=⟨w.heap.size,1,none⟩) (Nat.le_refl _) _⟩
     ·have hqb : decide (ps = m) = false:=(by simpa using hq);have hjr : ljoinR ps = ([],6,-1):=(by unfold ljoinR; rw [HJ.out,if_neg hlong,HR.out]; exact if_neg hq);have HF:=hid hjr;rw [hqb];clear hjr hq hqb;go_wp2_with fail;refine (lfault_any (6) (-1) _).mono ?_;rintro e w9 ⟨rfl,hbb9⟩;have hP9:=Blk.belowS hP6 hbb9;have hb9:=below_then hb6 hbb9 (Below.size hb6);obtain ⟨r1,r2,r3⟩:=hP9.rules;go_wp2_with fail;rw [HF.out];have hPz:=(hP9.set_ 0 (.int .i64 (6))).set_ 1 (.int .i64 (-1));exact ret_tmp_blk rfl rfl hPz _ Tryz.underlying29 rfl (by kernel_rfl) rfl _ rfl ⟨rfl,(hb9.setCell (p:=⟨_,0,none⟩) (Nat.le_refl _) _).setCell (p:=⟨_,1,none⟩) (Nat.le_refl _) _⟩
end
section
open Go.RowKit Go.Lib Go.Sort
structure SoC (w : World) (sb:Nat) (sc : Array Value) (wi : World) : Prop where
 v : Blk wi w.heap.size 26 #[.int .i64 0,.bool false,.slice none 0 0,.bool false,.slice none 0 0,.string ⟨#[]⟩,.int .i64 0]
 p : Blk wi (w.heap.size + 1) 29 #[.int .i64 0,.int .i64 0]
 sh : Blk wi sb 85 sc
 bel : Below w.heap.size w wi
theorem SoC.step {w wi wj : World} {sb : Nat} {sc : Array Value} (h : SoC w sb sc wi) (hb : Below wi.heap.size wi wj) : SoC w sb sc wj:=⟨h.v.belowS hb,h.p.belowS hb,h.sh.belowS hb,below_then h.bel hb h.bel.size⟩
end
end Go.Proofs.YtonehlkiackhcaaGreatDoor