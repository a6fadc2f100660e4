/- The scanner's function indent: the tokens or the fault. Nothing is claimed here. -/
import Derived.Test.YtonehlkiackhcaaGreatDoorScanI
set_option linter.unusedVariables false
set_option linter.unusedSimpArgs false
set_option maxRecDepth 100000
set_option maxHeartbeats 16000000
namespace Go.Proofs.YtonehlkiackhcaaGreatDoor
open Go.RowKit Go.Shelf Go.Lib Go.Maps Go.Sort
attribute [local go_sem] steady
def IxPost (x:Nat) (xs : List Nat) (w : World) (e : Ending) (w' : World) : Prop :=
 w = w'∧((x ∉ xs∧e = .returned (.int .i64 (-1)))∨∃ k : Nat,x ∈ xs∧e = .returned (.int .i64 (k:Int)))
theorem indexI_any {w : World} {A : Option Addr} {c : Nat} {xs : List Nat} (hr : Row w A (intc xs)) (hx : xs.length ≤ 1000000) (x:Nat) (hb : x ≤ 1000000) (hbs : ∀ y ∈ xs,y ≤ 1000000) :
  Calls Tryz.prog 215 #[.slice A xs.length c,.int .i64 (x:Int)] w (IxPost x xs w):=by
 have HR:=hid hr;have HBS:=hid hbs;clear hr hbs;go_enter Tryz.func215,Tryz.ntmps215;go_wp2_with fail
 go_loop [8] (fun i => ∃ k : Nat,k ≤ xs.length∧(∀ j,j < k → ∀ y,xs[j]? = some y → y ≠ x)∧i = .int .i64 (k:Int)) (fun i => xs.length - (RowKit.intOf i).toNat)
 case atStart => exact ⟨0,Nat.zero_le _,fun j hj => by omega,rfl⟩
 case round =>
  obtain ⟨k,hk,hno,rfl⟩:=hrel;have HNO:=hid hno;clear hno
  by_cases hlt : k < xs.length
  ·obtain ⟨b,off,rfl,hb2,hcell⟩:=HR.out.at_ (k:=k) (by simpa [intc] using hlt);obtain ⟨y,hy⟩ : ∃ y,xs[k]? = some y:=⟨_,List.getElem?_eq_getElem hlt⟩;have hcx : w.cell? ⟨b,off + k,none⟩ = some (.int .i64 (y:Int)):=hcell k _ (by simp [intc,hy]);have HX:=hid hy;clear hcell hy
   by_cases he : x = y
   ·subst he;go_wp2_with fail;go_ret;exact ⟨rfl,.inr ⟨k,List.mem_of_getElem? HX.out,rfl⟩⟩
   ·have hq : ((x:Int) == (y:Int)) = false:=(by rw [beq_eq_false_iff_ne]; omega);have HE:=hid he;clear he;go_wp2_with fail
    go_round
    case rel =>
     refine ⟨k + 1,by omega,fun j hj z hz => ?_,by go_num⟩;rcases Nat.lt_or_ge j k with h | h
     ·exact HNO.out j h z hz
     ·obtain rfl : j = k:=(by omega);rw [HX.out] at hz;injection hz with hz;rw [← hz];exact fun e => HE.out e.symm
    case measure => simp [RowKit.intOf]; omega
  ·have HF : Hid (x ∉ xs):=hid (fun hm => by
    obtain ⟨j,hj,e⟩:=List.getElem_of_mem hm;exact HNO.out j (by omega) x (by rw [List.getElem?_eq_getElem hj,e]) rfl)
   go_wp2_with fail;go_ret;exact ⟨rfl,.inl ⟨HF.out,rfl⟩⟩
theorem containsI_any {w : World} {A : Option Addr} {c : Nat} {xs : List Nat} (hr : Row w A (intc xs)) (hx : xs.length ≤ 1000000) (x:Nat) (hb : x ≤ 1000000) (hbs : ∀ y ∈ xs,y ≤ 1000000) :
  Calls Tryz.prog 187 #[.slice A xs.length c,.int .i64 (x:Int)] w fun e w' => e = .returned (.bool (xs.contains x))∧w = w':=by
 have HI:=hid (indexI_any (c:=c) hr hx x hb hbs);clear hr hbs;go_enter Tryz.func187,Tryz.ntmps187;go_wp2_with fail;refine HI.out.mono ?_;rintro e w1 ⟨rfl,⟨hno,rfl⟩ | ⟨k,hm,rfl⟩⟩
 ·have HF : Hid (xs.contains x = false):=hid (by simpa using hno);clear hno;go_wp2_with fail;go_ret;exact ⟨ret_bool (by rw [HF.out]),rfl⟩
 ·have HF : Hid (xs.contains x = true):=hid (by simpa using hm);clear hm;go_wp2_with fail;go_ret;exact ⟨ret_bool (by rw [HF.out]),rfl⟩
section
variable {w : World} {B g : Nat} {l : List UInt8} {at_ : Nat} {ind : List Nat} {op : List UInt8} {ts : List Tok} {vi vo vt : Value} {m : Nat} {vs : Value}
def IndPost (a : World) (B g:Nat) (l : List UInt8) (at_:Nat) (op : List UInt8) (ts : List Tok) (vo : Value) (m:Nat) (vs : Value) (r : Option (List Nat × List Int)) (e : Ending) (w' : World) : Prop :=
 match r with
 | none => e = .panicked [{ v:=probV 17 (at_:Int),recovered:=false }]∧Below B a w'
 | some (ind',ks) => ∃ vi' vt',e = .returned (.tuple #[])∧Sc w' B g l at_ ind' op (ts ++ ks.map fun k => tokAt l k [] at_) vi' vo vt' m vs∧Below B a w'
theorem IndPost.err {a : World} {r : Option (List Nat × List Int)} {e : Ending} {w' : World} (hr : r = none) (he : e = .panicked [{ v:=probV 17 (at_:Int),recovered:=false }]) (hb : Below B a w') : IndPost a B g l at_ op ts vo m vs r e w':=by
 subst hr;exact ⟨he,hb⟩
theorem IndPost.ok {a : World} {r : Option (List Nat × List Int)} {e : Ending} {w' : World} {ind' : List Nat} {ks : List Int} {vi' vt' : Value} (hr : r = some (ind',ks)) (he : e = .returned (.tuple #[]))
  (hs : Sc w' B g l at_ ind' op (ts ++ ks.map fun k => tokAt l k [] at_) vi' vo vt' m vs) (hb : Below B a w') : IndPost a B g l at_ op ts vo m vs r e w':=by
 subst hr;exact ⟨vi',vt',he,hs,hb⟩
theorem intc_rev (c:Nat) (ind : List Nat) : intc (c :: ind).reverse = intc ind.reverse ++ [.int .i64 (c:Int)]:=by simp [intc]
theorem intc_len (ind : List Nat) : (intc ind).length = ind.length:=by simp [intc]
theorem ScR.popI {cs : Array Value} {c : Nat} (h : ScR w B g cs (c :: ind) op ts vi vo vt m vs) : ∃ gg cap,vi = .slice (some ⟨gg,0,none⟩) (ind.length + 1) cap∧ScR w B g cs ind op ts (.slice (some ⟨gg,0,none⟩) ind.length cap) vo vt m vs∧ind.length + 1 ≤ cap∧cap ≤ maxLen:=by
 have h2:=h.oi;rw [intc_rev] at h2;obtain ⟨gg,cap,rfl,h3,h4,h5⟩:=own_pop (n:=ind.length) (by rw [intc_len]; simp) h2;exact ⟨gg,cap,rfl,⟨h.blk,h.ge,h3,h.oo,h.ot,h.om,h.os⟩,h4,h5⟩
def indW (g:Nat) (w : World) : Nat:=match w.cell? ⟨g,4,none⟩ with
 | some (.slice _ n _) => n
 | _ => 0
theorem ScR.indW {cs : Array Value} (h : ScR w B g cs ind op ts vi vo vt m vs) (hc : cs[4]? = some vi) : YtonehlkiackhcaaGreatDoor.indW g w = ind.length:=by
 obtain ⟨A,c,rfl,_,_⟩:=own_form h.oi;unfold YtonehlkiackhcaaGreatDoor.indW;rw [h.blk.cell 4,hc]
def IRel (a : World) (B g:Nat) (l : List UInt8) (at_:Nat) (op : List UInt8) (ts : List Tok) (vo : Value) (m:Nat) (vs : Value) (W:Nat) (D : List Nat × Nat) (w' : World) : Prop :=
 ∃ (indc : List Nat) (j:Nat) (vi vt : Value),Sc w' B g l at_ indc op (ts ++ List.replicate j (tokAt l 3 [] at_)) vi vo vt m vs∧Below B a w'∧W ∈ indc∧(∀ y ∈ indc,y ≤ 100000)∧indc.length + j ≤ 100000∧D = ((dedent W indc).1,(dedent W indc).2 + j)
theorem indent_any {a : World} (h : Sc w B g l at_ ind op ts vi vo vt m vs) (hl : l.length ≤ 16000) (ha : at_ ≤ l.length) (hb : Below B a w) (hts : ts.length ≤ 500000) (hil : ind.length ≤ 100000) (hne : ind ≠ []) (hd : ∀ y ∈ ind,y ≤ 100000) :
  Calls Tryz.prog 151 #[.pointer (some ⟨g,0,none⟩)] w (IndPost a B g l at_ op ts vo m vs (indent (width l at_) ind)):=by
 obtain ⟨x,ind0,rfl⟩ : ∃ x ind0,ind = x :: ind0:=by
  cases ind with
  | nil => exact absurd rfl hne
  | cons x r => exact ⟨x,r,rfl⟩
 obtain ⟨gi,capi,rfl,hpop,hle1,hle2⟩:=ScR.popI h;obtain ⟨b0,o0,e0,hb0,hc0⟩:=(Row.of_own h.oi).at_ (k:=ind0.length) (by rw [intc_rev,List.length_append,intc_len]; simp);injection e0 with e0;injection e0 with e1 e2 e3;subst e1 e2;have hcc : w.cell? ⟨gi,0 + ind0.length,none⟩ = some (.int .i64 (x:Int)):=hc0 ind0.length _ (by rw [intc_rev,List.getElem?_append_right (by rw [intc_len]; simp),intc_len]; simp);rw [Nat.zero_add] at hcc;have hxb : x ≤ 100000:=hd x (by simp);have hil' : ind0.length + 1 ≤ 100000:=by simpa using hil
 have hwi : (at_:Int) - ((bol l at_:Nat):Int) = (width l at_:Int):=by have:=bol_add l at_; omega
 have hwb : width l at_ ≤ 16000:=by have:=width_le l at_; omega
 have HH:=hid h;have HWI:=hid hwi;have hbo:=bol_le l at_;obtain ⟨W,hW⟩ : ∃ W,width l at_ = W:=⟨_,rfl⟩;rw [hW] at hwi hwb;have HW:=hid hW;have hs:=h;unfold Sc scCells at hs;obtain ⟨q1,q2,q3⟩:=hs.blk.rules;obtain ⟨bb,hbb⟩ : ∃ bb,bol l at_ = bb:=⟨_,rfl⟩;rw [hbb] at hwi hbo q1;have w1 : IntKind.i64.wrap ((at_:Int) - (bb:Int)) = (W:Int):=by rw [hwi]; exact IntWalk.i64_in _ (by omega)
 have n1 : IntKind.i64.wrap ((ind0.length:Int) + 1 - 1) = (ind0.length:Int):=by rw [show (ind0.length:Int) + 1 - 1 = (ind0.length:Int) by omega]; exact IntWalk.i64_in _ (by omega)
 have HBB:=hid hbb;have HPOP:=hid hpop;have HD:=hid hd;clear h hs hpop hc0 e3 hd hne hil hW hbb hwi;go_enter Tryz.func151,Tryz.ntmps151;go_wp2_with fail;go_quiet (fail);have HSq : Hid (Sc (w.drewN nq) B g l at_ (x :: ind0) op ts (.slice (some ⟨gi,0,none⟩) (ind0.length + 1) capi) vo vt m vs):=hid (ScR.drewN HH.out nq);have hcq : (w.drewN nq).cell? ⟨gi,ind0.length,none⟩ = some (.int .i64 (x:Int)):=hcc;have hbq:=below_drewN hb nq;generalize w.drewN nq = wq at HSq hbq hcq ⊢;clear q1 q2 q3 hcc HH hb;have hsq:=HSq.out;unfold Sc scCells at hsq;obtain ⟨q1,q2,q3⟩:=hsq.blk.rules;clear hsq;have hge:=HSq.out.ge
 by_cases hx : x < W
 ·have HR:=hid (show indent (width l at_) (x :: ind0) = some (W :: x :: ind0,[2]) by unfold indent; rw [HW.out,List.headD_cons,if_pos hx]);obtain ⟨i0,hi0,hz0,hz1,hz2⟩:=info_parts info_int;have m1 : (x :: ind0).length + 1 ≤ maxLen:=(by unfold maxLen; simp; omega);have m2 : ((x :: ind0).length + 1) * 8 ≤ 140737488355328:=(by simp; omega)
  go_wp2_with (at_builtin --
               refine wpList_append_row _ rfl (.tmp 32) (.tmp 34) 51 rfl B 3 i0 (.int .i64 0) 1 8 Tryz.underlying51 hi0 hz0 hz1 hz2 rfl (by decide) (.slice (some ⟨gi,0,none⟩) (ind0.length + 1) capi) (x :: ind0).length (intc (x :: ind0).reverse) rfl (HSq.out.oi.alloc _) (some ⟨wq.heap.size,0,none⟩) 1 1 [.int .i64 (W:Int)] rfl rfl (Row.new wq #[.int .i64 (W:Int)] 3) (by simp [Value.oneCell']) m1 m2 (by simp; omega) ?_
               intro v3 w3 hown3 hg3 hat3
               have hR3:=(ScR.alloc HSq.out (.cells #[.int .i64 (W:Int)] 3)).growI hg3 (ind':=W :: x :: ind0) (by rw [intc_rev W (x :: ind0)]; exact hown3)
               obtain ⟨A3,c3,rfl,_,_⟩:=own_form hown3
               have hb3:=(hbq.alloc (by omega) (.cells #[.int .i64 (W:Int)] 3)).grown hg3 (by simp; omega) (fun g' e => (HSq.out.oi.lt g' e).1)
               have HS3:=hid hR3
               unfold scCells at hR3
               clear hg3 hown3 hat3 q1 q2 q3
               obtain ⟨q1,q2,q3⟩:=hR3.blk.rules
               clear hR3)
  have hge3:=HS3.out.ge;go_wp2_with fail;have HS4 : Hid (Sc (w3.setCell ⟨g,4,none⟩ (.slice A3 (ind0.length + 1 + 1) c3)) B g l at_ (W :: x :: ind0) op ts (.slice A3 (ind0.length + 1 + 1) c3) vo vt m vs):=hid (by
   unfold Sc scCells;exact HS3.out.set 4 _)
  have hb4:=hb3.setCell (p:=⟨g,4,none⟩) hge3 (.slice A3 (ind0.length + 1 + 1) c3);generalize w3.setCell ⟨g,4,none⟩ (.slice A3 (ind0.length + 1 + 1) c3) = w4 at HS4 hb4 ⊢;refine (add_any HS4.out hl (by omega) hb4 2 [] at_ ha rfl rfl).mono ?_;rintro e w5 ⟨vt5,rfl,hs5,hb5⟩;have HS5:=hid hs5;clear hs5 q1 q2 q3;go_wp2_with fail;go_end0;exact IndPost.ok HR.out rfl HS5.out hb5
 ·have hx' : W ≤ x:=(by omega);have hr:=Row.of_own HSq.out.oi;have hrow : Row wq (some ⟨gi,0,none⟩) (intc (x :: ind0).reverse):=hr;have hcon:=containsI_any (c:=capi) hrow (by simp; omega) W (by omega) (fun y hy => by have:=HD.out y (List.mem_reverse.1 hy); omega);rw [List.length_reverse] at hcon;have HCON:=hid hcon;clear hcon hr hrow;cases hm : (x :: ind0).reverse.contains W
  ·have HM:=hid hm;have HR:=hid (show indent (width l at_) (x :: ind0) = none by
    unfold indent;rw [HW.out,List.headD_cons,if_neg (by omega),if_neg];intro h;have : (x :: ind0).reverse.contains W = true:=(by simpa [or_comm] using h);rw [HM.out] at this;exact absurd this (by decide))
   rw [hm] at HCON;clear hm;go_wp2_with fail;refine HCON.out.mono ?_;rintro e w3 ⟨rfl,rfl⟩;go_wp2_with fail;refine (fail_any _ _ _ _).mono ?_;rintro e w3 ⟨rfl,rfl⟩;go_wp2_with fail;exact ⟨rfl,IndPost.err HR.out rfl hbq⟩
  ·have hmem : W ∈ x :: ind0:=by
    have : W ∈ (x :: ind0).reverse:=(by simpa using hm);exact List.mem_reverse.1 this
   have HMEM:=hid hmem;have HR:=hid (show indent (width l at_) (x :: ind0) = some ((dedent W (x :: ind0)).1,List.replicate (dedent W (x :: ind0)).2 3) by
    unfold indent;rw [HW.out,List.headD_cons,if_neg (by omega),if_pos];have : W ∈ x :: ind0:=hmem;simpa using this)
   rw [hm] at HCON;obtain ⟨D,hD⟩ : ∃ D,dedent W (x :: ind0) = D:=⟨_,rfl⟩;have HDD:=hid hD;clear hm hmem hD;go_wp2_with fail;refine HCON.out.mono ?_;rintro e w3 ⟨rfl,rfl⟩;clear HCON;go_wp2_with fail
   go_loopw [] (fun wr => IRel a B g l at_ op ts vo m vs W D wr) (fun wr => indW g wr)
   case atStart => exact ⟨x :: ind0,0,_,vt,by simpa using HSq.out,hbq,HMEM.out,HD.out,by simp; omega,by rw [HDD.out]; rfl⟩
   case round =>
    clear q1 q2 q3 hcq HSq hbq hle1 hle2 hb0 hxb hil' w1 n1 hx hx' HPOP HMEM;obtain ⟨indc,j,vi,vtc,hs,hbr,hmem,hdc,hlc,hDc⟩:=hrel;cases indc with
    | nil => exact absurd hmem (by simp)
    | cons y rest =>
     obtain ⟨gi,capi,rfl,hpop,hle1,hle2⟩:=ScR.popI hs;obtain ⟨b0,o0,e0,hb0,hc0⟩:=(Row.of_own hs.oi).at_ (k:=rest.length) (by rw [intc_rev,List.length_append,intc_len]; simp);injection e0 with e0;injection e0 with e1 e2 e3;subst e1 e2;have hcc : wr.cell? ⟨gi,0 + rest.length,none⟩ = some (.int .i64 (y:Int)):=hc0 rest.length _ (by rw [intc_rev,List.getElem?_append_right (by rw [intc_len]; simp),intc_len]; simp);rw [Nat.zero_add] at hcc;have hyb : y ≤ 100000:=hdc y (by simp);have hlr : rest.length + 1 + j ≤ 100000:=(by simpa using hlc);have n1 : IntKind.i64.wrap ((rest.length:Int) + 1 - 1) = (rest.length:Int):=(by rw [show (rest.length:Int) + 1 - 1 = (rest.length:Int) by omega]; exact IntWalk.i64_in _ (by omega));have n2 : IntKind.i64.wrap (rest.length:Int) = (rest.length:Int):=IntWalk.i64_in _ (by omega);have HS:=hid hs;have HPOP:=hid hpop;have HM:=hid hmem;have HDC:=hid hdc;have HDR:=hid hDc;obtain ⟨L,hL⟩ : ∃ L,lineAt l at_ = L:=⟨_,rfl⟩;have HL:=hid hL;unfold Sc scCells at hs;rw [hL,HBB.out] at hs;obtain ⟨q1,q2,q3⟩:=hs.blk.rules;clear hs hpop hmem hdc hDc hc0 e3 hlc hL
     by_cases hy : W < y
     ·have hyd : decide ((W:Int) < (y:Int)) = true:=decide_eq_true (by omega);have HY:=hid hy;clear hy;go_wp2_with fail;go_quiet (fail);have HPq : Hid (ScR (wr.drewN nq) B g (scCells l at_ (.slice (some ⟨gi,0,none⟩) (rest.length + 1) capi) vo vtc m vs) rest op (ts ++ List.replicate j (tokAt l 3 [] at_)) (.slice (some ⟨gi,0,none⟩) rest.length capi) vo vtc m vs):=hid (HPOP.out.drewN nq);have hbq:=below_drewN hbr nq;generalize wr.drewN nq = wq at HPq hbq ⊢;have hX:=HPq.out;unfold scCells at hX;rw [HL.out,HBB.out] at hX;have HX:=hid hX;clear q1 q2 q3 hcc hX;go_wp2_with fail;have hcap1 : (rest.length:Int) ≤ (capi:Int):=(by omega);have hcap0 : (0:Int) ≤ (rest.length:Int):=(by omega);have G1 : ∀ (p : Held fun w' => Blk w' g 180 #[.string ⟨l.toArray⟩,.int .i64 (at_:Int),.int .i64 L,.int .i64 (bb:Int),.slice (some ⟨gi,0,none⟩) (rest.length + 1) capi,vo,vtc,.map (some m),vs]) (i:Nat),p.w.cell? ⟨g,i,none⟩ = #[.string ⟨l.toArray⟩,.int .i64 (at_:Int),.int .i64 L,.int .i64 (bb:Int),.slice (some ⟨gi,0,none⟩) (rest.length + 1) capi,vo,vtc,.map (some m),vs][i]?:=fun p i => p.h.cell i;refine wp_region_steady_tail 12 12 (by kernel_rfl) (by kernel_rfl) (fun w' => ∃ p : Held fun w' => Blk w' g 180 #[.string ⟨l.toArray⟩,.int .i64 (at_:Int),.int .i64 L,.int .i64 (bb:Int),.slice (some ⟨gi,0,none⟩) (rest.length + 1) capi,vo,vtc,.map (some m),vs],w' = p.w) (isHeld_mk HX.out.blk.drew) (fun c a d v w h => by cases d <;> exact h) ?_;simp only [List.take_succ_cons,List.take_zero,List.drop_succ_cons,List.drop_zero]
      repeat (refine wpSteady_step (fun K hK => ?_) --
              go_simp
              first
                | (refine ⟨_,fun _ => rfl,hK _ ?_⟩; clear hK K)
                | (refine hK _ ?_; clear hK K))
      refine wpSteady_nil ?_;refine tailM_zero ?_;have HXd : Hid (ScR wq.drew B g #[.string ⟨l.toArray⟩,.int .i64 (at_:Int),.int .i64 L,.int .i64 (bb:Int),.slice (some ⟨gi,0,none⟩) (rest.length + 1) capi,vo,vtc,.map (some m),vs] rest op (ts ++ List.replicate j (tokAt l 3 [] at_)) (.slice (some ⟨gi,0,none⟩) rest.length capi) vo vtc m vs):=hid (HX.out.drewN 1);have hbd:=hbq.drew;generalize wq.drew = wd at HXd hbd ⊢;have hged:=HXd.out.ge;clear G1;obtain ⟨q1,q2,q3⟩:=HXd.out.blk.rules;go_wp2_with fail;have HS6 : Hid (Sc (wd.setCell ⟨g,4,none⟩ (.slice (some ⟨gi,0,none⟩) rest.length capi)) B g l at_ rest op (ts ++ List.replicate j (tokAt l 3 [] at_)) (.slice (some ⟨gi,0,none⟩) rest.length capi) vo vtc m vs):=hid (by
       unfold Sc scCells;rw [HL.out,HBB.out];exact HXd.out.set 4 _)
      have hb6:=hbd.setCell (p:=⟨g,4,none⟩) hged (.slice (some ⟨gi,0,none⟩) rest.length capi);generalize wd.setCell ⟨g,4,none⟩ (.slice (some ⟨gi,0,none⟩) rest.length capi) = w6 at HS6 hb6 ⊢;clear q1 q2 q3;refine (add_any HS6.out hl (by rw [List.length_append,List.length_replicate]; omega) hb6 3 [] at_ ha rfl rfl).mono ?_;rintro e w7 ⟨vt7,rfl,hs7,hb7⟩;have HS7:=hid hs7;clear hs7;go_wp2_with fail;go_roundw
      case rel =>
       refine ⟨rest,j + 1,.slice (some ⟨gi,0,none⟩) rest.length capi,vt7,?_,hb7,?_,fun z hz => HDC.out z (by simp [hz]),by omega,?_⟩
       ·rw [List.replicate_succ',← List.append_assoc];exact HS7.out
       ·have:=HM.out;rcases List.mem_cons.1 this with h | h
        ·have:=HY.out; omega
        ·exact h
       ·rw [HDR.out];have:=HY.out;simp only [dedent];rw [if_pos this];simp only [Prod.mk.injEq,true_and];omega
      case measure =>
       rw [ScR.indW HS.out rfl,ScR.indW HS7.out rfl];simp
     ·have hyd : decide ((W:Int) < (y:Int)) = false:=decide_eq_false (by omega);have HY:=hid hy;clear hy;go_wp2_with fail;go_quiet (fail);go_wp2_with fail;go_end0;have hd0 : dedent W (y :: rest) = (y :: rest,0):=(by simp only [dedent]; rw [if_neg HY.out]);have hDD : D = (y :: rest,j):=(by rw [HDR.out,hd0]; simp);refine IndPost.ok (vi':=.slice (some ⟨gi,0,none⟩) (rest.length + 1) capi) (vt':=vtc) (by rw [HR.out,HDD.out,hDD]) rfl ?_ (below_drewN hbr nq);rw [List.map_replicate];exact ScR.drewN HS.out nq
end
end Go.Proofs.YtonehlkiackhcaaGreatDoor
