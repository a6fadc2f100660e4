/- The reference's brackets: what it computes of them. Nothing is claimed here. -/
import Derived.Test.YtonehlkiackhcaaGreatDoorLitEa
set_option linter.unusedVariables false
set_option linter.unusedSimpArgs false
set_option maxRecDepth 100000
set_option maxHeartbeats 16000000
namespace Go.Proofs.YtonehlkiackhcaaGreatDoor
section
open Go.RowKit Go.Lib Go.Sort
def shtC (x : Sht) : Array Value:=#[.int .u8 (x.pre.toNat:Int),.int .u8 (x.quo.toNat:Int),.int .i64 (x.frm:Int),.int .i64 (x.lim:Int)]
def chO (R : Except Nat (Nat × Nat)) : Option (Nat × Nat):=match R with
 | .ok r => some r
 | .error _ => none
theorem EscPost.keep {w w1 : World} {R : Option (Nat × Nat)} {e : Ending} {w' : World} (hb : Below w.heap.size w w1) (h : EscPost w1 R e w') : EscPost w R e w' :=
 ⟨below_then hb h.1 hb.size,h.2⟩
theorem rletter_any {l : List UInt8} {i : Nat} (w : World) (hs : Strg l) (hgd : Gd l i) (hi : i < (shtOf l).lim) (hl : l.length ≤ 16000) (he : CEnv w) :
  Calls Tryz.prog 55 #[.string ⟨l.toArray⟩,.int .i64 (i:Int),.agg (shtC (shtOf l))] w (EscPost w (chO (charS l (shtOf l) i))):=by
 have hlim:=lim_lt hs;have hE:=hgd.esc hs hi;have hne : l.drop i ≠ []:=by
  intro h;have:=congrArg List.length h;rw [List.length_drop] at this;simp at this;omega
 have hd92:=head92 (l:=l) (i:=i) (by omega);have hDC:=fun W hW => decode_any (l.drop i) hne W hW;have hES:=fun h1 => escR_escS (l:=l) (x:=shtOf l) (i:=i) h1 (by omega);have hidx:=run_idx l i (by omega) (i:Int) rfl;have htl:=run_tail l i (by omega) (i:Int) rfl;have hdw:=decodeL_head (l.drop i) hne;have hlt : (decodeL (l.drop i)).2 ≤ l.length - i∧(decodeL (l.drop i)).2 ≤ 4:=by
  rw [List.length_drop] at hdw;have : (l.drop i).length = l.length - i:=List.length_drop;rcases hdw with ⟨_,h⟩ | ⟨_,_,h,h4,_⟩
  ·rw [h]; simp only; omega
  ·exact ⟨h,h4⟩
 have hdlt:=decodeL_lt (l.drop i);obtain ⟨x,hx⟩ : ∃ x,shtOf l = x:=⟨_,rfl⟩;rw [hx] at hlim hE hES hi ⊢;have hcs : charS l x i = if x.pre = 98∧128 ≤ (decodeL (l.drop i)).1 then .error i
  else if at0 l i ≠ 92∨x.pre = 114 then .ok ((decodeL (l.drop i)).1,i + (decodeL (l.drop i)).2)
  else match escS l x i with
  | none => .error i
  | some r => .ok r:=rfl
 obtain ⟨c,hc⟩ : ∃ c,(decodeL (l.drop i)).1 = c:=⟨_,rfl⟩;obtain ⟨n,hn⟩ : ∃ n,(decodeL (l.drop i)).2 = n:=⟨_,rfl⟩;rw [hc,hn] at hcs hDC;rw [hc] at hd92 hdlt;rw [hn] at hlt;clear hdw;obtain ⟨R,hR⟩ : ∃ R,charS l x i = R:=⟨_,rfl⟩;rw [hR] at hcs ⊢;have hup:=run_upto l x.lim (by omega) (x.lim:Int) rfl;have HE:=hid hE;have HES:=hid hES;have HDC:=hid hDC;clear hE hES hDC hR hx hne hs hgd hc hn;unfold shtC
 by_cases h92 : at0 l i = 92
 ·have hc92:=hd92.2 h92
  by_cases h114 : x.pre = 114
  ·have b92 : (((at0 l i).toNat:Int) == 92) = true:=(by rw [h92]; rfl);have b114 : ((x.pre.toNat:Int) == 114) = true:=(by rw [h114]; rfl);rw [if_pos (show at0 l i ≠ 92∨x.pre = 114 from .inr h114)] at hcs;obtain ⟨cb,hcb⟩ : ∃ cb,at0 l i = cb:=⟨_,rfl⟩;rw [hcb] at hidx b92;have hi2 : (i:Int) + (n:Int) ≤ 20000:=(by omega);have h98 : x.pre ≠ 98:=(by rw [h114]; decide);clear hcb h92 hd92 hc92 h114 HE HES;have b98' : ((x.pre.toNat:Int) == 98) = false:=u8_ne (d:=98) h98;have b98 : ((x.pre.toNat:Int) != 98) = true:=(by rw [bne,b98']; rfl);have HRR : Hid (chO R = some (c,i + n)):=hid (by rw [hcs,if_neg (fun h => h98 h.1)]; rfl);clear hcs h98;go_enter Tryz.func55,Tryz.ntmps55;go_wp2_with fail;have hba : Below w.heap.size w (w.alloc (.cells (shtC x) 85)):=(Below.refl _ w).alloc (Nat.le_refl _) _;refine (HDC.out _ (he.keepB hba).l.rd.tabs).mono ?_;rintro e w2 ⟨rfl,hb2⟩;have hb3:=below_then hba hb2 hba.size;have hB2:=(Blk.new w 85 (shtC x)).belowS hb2;obtain ⟨q1,q2,q3⟩:=hB2.rules;unfold shtC at q1;clear HDC hba hb2 hB2;go_wp2_with fail
   go_ret3
   rw [HRR.out];exact ⟨hb3,rfl⟩
  ·have HRR : Hid (chO R = escS l x i):=hid (by
    rw [hcs,if_neg (by omega),if_neg (by rintro (h | h); exact h h92; exact h114 h)];cases escS l x i <;> rfl)
   have h1:=(HE.out h92 h114).1;have HES2:=hid (HES.out h1);have b92 : (((at0 l i).toNat:Int) == 92) = true:=(by rw [h92]; rfl);have b114 : ((x.pre.toNat:Int) == 114) = false:=u8_ne (d:=114) h114;have b98 : ((x.pre.toNat:Int) == 98) = (x.pre == 98):=by
    by_cases h : x.pre = 98
    ·rw [h]; rfl
    ·have h2 : ((x.pre.toNat:Int) == 98) = false:=u8_ne (d:=98) h;rw [h2];simpa using h
   have htl2 : (l.take x.lim).length = x.lim:=(by rw [List.length_take]; omega);have HEA:=hid (fun W hW => escape_any (l.take x.lim) i (x.pre == 98) W (by omega) (by omega) hW);obtain ⟨T,hT⟩ : ∃ T,l.take x.lim = T:=⟨_,rfl⟩;rw [hT] at HEA HES2 hup;obtain ⟨cb,hcb⟩ : ∃ cb,at0 l i = cb:=⟨_,rfl⟩;rw [hcb] at hidx b92;obtain ⟨bb,hbb⟩ : ∃ bb,(x.pre == 98) = bb:=⟨_,rfl⟩;rw [hbb] at HEA HES2 b98;rw [← HES2.out] at HRR;rw [HRR.out];clear hT hcb hbb hcs hd92 h92 hc92 htl2 HRR HES2 HES;go_enter Tryz.func55,Tryz.ntmps55;go_wp2_with fail;have hB:=Blk.new w 85 (shtC x);have hba0 : Below w.heap.size w (w.alloc (.cells (shtC x) 85)):=(Below.refl _ w).alloc (Nat.le_refl _) _;obtain ⟨g,hg⟩ : ∃ g,w.heap.size = g:=⟨_,rfl⟩;have HG:=hid hg;rw [hg] at hB;unfold shtC at hB hba0;generalize w.alloc (.cells #[.int .u8 (x.pre.toNat:Int),.int .u8 (x.quo.toNat:Int),.int .i64 (x.frm:Int),.int .i64 (x.lim:Int)] 85) = w1 at hB hba0 ⊢;rw [hg];clear hg;obtain ⟨q1,q2,q3⟩:=hB.rules;have G : ∀ (d:Nat) (os : Array Obj) (i:Nat),(grow (redrawn w1 d) os).cell? ⟨g,i,none⟩ = (shtC x)[i]?:=hB.growsL;unfold shtC at G;have HEQ:=hid (fun d os => Calls.regrown_of (HEA.out (grow (redrawn w1 d) os) ((he.keepB hba0).keepB (below_regrown w1 d os))));refine wp_region_quiet_below (by kernel_rfl) (by kernel_rfl) ?_
   repeat (first | go_big_quiet_step (exact HEQ.out _ _) | quiet_step (exact HEQ.out _ _))
   refine wpQuiet_nil ?_;intro _ hwq;obtain ⟨⟨dq,osq⟩,hwq'⟩:=hwq;subst hwq';have hbq:=below_then hba0 (below_regrown w1 dq osq) hba0.size;generalize grow (redrawn w1 dq) osq = w3 at hbq ⊢;clear q1 q2 q3 G HEA HEQ hB hba0;obtain ⟨V,hV⟩ : ∃ V,escV T i bb = V:=⟨_,rfl⟩;have hVR:=escV_R T i bb;rw [hV] at hVR ⊢;obtain ⟨c2,j2,o2⟩:=V;obtain ⟨Q,hQ⟩ : ∃ Q,escR T i bb = Q:=⟨_,rfl⟩;have HQ:=hid hQ;have HVR:=hid hVR;clear hQ hV hVR;go_wp2_with fail
   go_ret3
   refine ⟨hbq,?_⟩;have h:=HVR.out;rw [HQ.out] at h ⊢;rcases Q with _ | ⟨n2,j2'⟩
   ·obtain rfl : o2 = false:=h;exact ⟨c2,j2,rfl⟩
   ·injection h with h1 h2;injection h2 with h2 h3;subst h1 h2 h3;rfl
 ·have b92 : (((at0 l i).toNat:Int) == 92) = false:=u8_ne (d:=92) h92;rw [if_pos (show at0 l i ≠ 92∨x.pre = 114 from .inl h92)] at hcs;obtain ⟨cb,hcb⟩ : ∃ cb,at0 l i = cb:=⟨_,rfl⟩;rw [hcb] at hidx b92;clear hcb h92 hd92 HE HES;have hi2 : (i:Int) + (n:Int) ≤ 20000:=by omega
  by_cases h98 : x.pre = 98
  ·have b98 : ((x.pre.toNat:Int) != 98) = false:=by rw [h98]; rfl
   by_cases h128 : 128 ≤ c
   ·have d128 : decide ((c:Int) < 128) = false:=decide_eq_false (by omega);have HRR : Hid (chO R = none):=hid (by rw [hcs,if_pos ⟨h98,h128⟩]; rfl);clear hcs h98 h128;go_enter Tryz.func55,Tryz.ntmps55;go_wp2_with fail;have hba : Below w.heap.size w (w.alloc (.cells (shtC x) 85)):=(Below.refl _ w).alloc (Nat.le_refl _) _;refine (HDC.out _ (he.keepB hba).l.rd.tabs).mono ?_;rintro e w2 ⟨rfl,hb2⟩;have hb3:=below_then hba hb2 hba.size;have hB2:=(Blk.new w 85 (shtC x)).belowS hb2;obtain ⟨q1,q2,q3⟩:=hB2.rules;unfold shtC at q1;clear HDC hba hb2 hB2;go_wp2_with fail
    go_ret3
    rw [HRR.out];exact ⟨hb3,_,_,rfl⟩
   ·have d128 : decide ((c:Int) < 128) = true:=decide_eq_true (by omega);have HRR : Hid (chO R = some (c,i + n)):=hid (by rw [hcs,if_neg (fun h => h128 h.2)]; rfl);clear hcs h98 h128;go_enter Tryz.func55,Tryz.ntmps55;go_wp2_with fail;have hba : Below w.heap.size w (w.alloc (.cells (shtC x) 85)):=(Below.refl _ w).alloc (Nat.le_refl _) _;refine (HDC.out _ (he.keepB hba).l.rd.tabs).mono ?_;rintro e w2 ⟨rfl,hb2⟩;have hb3:=below_then hba hb2 hba.size;have hB2:=(Blk.new w 85 (shtC x)).belowS hb2;obtain ⟨q1,q2,q3⟩:=hB2.rules;unfold shtC at q1;clear HDC hba hb2 hB2;go_wp2_with fail
    go_ret3
    rw [HRR.out];exact ⟨hb3,rfl⟩
  ·have b98' : ((x.pre.toNat:Int) == 98) = false:=u8_ne (d:=98) h98;have b98 : ((x.pre.toNat:Int) != 98) = true:=(by rw [bne,b98']; rfl);have HRR : Hid (chO R = some (c,i + n)):=hid (by rw [hcs,if_neg (fun h => h98 h.1)]; rfl);clear hcs h98;go_enter Tryz.func55,Tryz.ntmps55;go_wp2_with fail;have hba : Below w.heap.size w (w.alloc (.cells (shtC x) 85)):=(Below.refl _ w).alloc (Nat.le_refl _) _;refine (HDC.out _ (he.keepB hba).l.rd.tabs).mono ?_;rintro e w2 ⟨rfl,hb2⟩;have hb3:=below_then hba hb2 hba.size;have hB2:=(Blk.new w 85 (shtC x)).belowS hb2;obtain ⟨q1,q2,q3⟩:=hB2.rules;unfold shtC at q1;clear HDC hba hb2 hB2;go_wp2_with fail
   go_ret3
   rw [HRR.out];exact ⟨hb3,rfl⟩
end
section
open Go.Maps Go.RowKit
end
section
open Go.RowKit Go.Shelf Go.Lib Go.Maps
def opStr (op : List UInt8) : Value:=.string ⟨op.reverse.toArray⟩
theorem cat_any (a b : List UInt8) : (⟨a.toArray⟩ : ByteArray) ++ (⟨b.toArray⟩ : ByteArray) = ⟨(a ++ b).toArray⟩:=by
 apply ByteArray.ext;rw [ByteArray.data_append];simp
theorem bracket_open (c : UInt8) (hc : c = 40∨c = 91∨c = 123) (op : List UInt8) (hop : op.length ≤ 16000) (w : World) :
  Calls Tryz.prog 129 #[.string ⟨op.reverse.toArray⟩,.string ⟨#[c]⟩] w fun e w' => e = .returned (.tuple #[.string ⟨((c :: op).reverse).toArray⟩,.bool true])∧w = w':=by
 rcases hc with rfl | rfl | rfl
 all_goals
  go_enter Tryz.func129,Tryz.ntmps129;go_wp2_with fail;rw [cat_any,List.reverse_cons];go_ret2;exact ⟨rfl,rfl⟩
theorem bracket_other (t : List UInt8) (h1 : t ≠ [40]) (h2 : t ≠ [91]) (h3 : t ≠ [123]) (h4 : t ≠ [41]) (h5 : t ≠ [93]) (h6 : t ≠ [125]) (x : ByteArray) (w : World) :
  Calls Tryz.prog 129 #[.string x,.string ⟨t.toArray⟩] w fun e w' => e = .returned (.tuple #[.string x,.bool true])∧w = w':=by
 have e1 : (t == [40]) = false:=by rw [beq_eq_false_iff_ne]; exact h1
 have e2 : (t == [91]) = false:=by rw [beq_eq_false_iff_ne]; exact h2
 have e3 : (t == [123]) = false:=by rw [beq_eq_false_iff_ne]; exact h3
 have e4 : (t == [41]) = false:=by rw [beq_eq_false_iff_ne]; exact h4
 have e5 : (t == [93]) = false:=by rw [beq_eq_false_iff_ne]; exact h5
 have e6 : (t == [125]) = false:=by rw [beq_eq_false_iff_ne]; exact h6
 clear h1 h2 h3 h4 h5 h6;go_enter Tryz.func129,Tryz.ntmps129;go_wp2_with fail;go_ret2;exact ⟨rfl,rfl⟩
def pairsD : DataW Unit:=((((((DataW.map []).put (.string [40]) (.lit (.int .i64 1))).put (.string [41]) (.lit (.int .i64 1))).put (.string [91]) (.lit (.int .i64 2))).put (.string [93]) (.lit (.int .i64 2))).put (.string [123]) (.lit (.int .i64 3))).put (.string [125]) (.lit (.int .i64 3))
theorem pair_look {W : World} {m : Nat} (h : W.ownsMap Tryz.prog 9 (plainElem (H:=Unit) Tryz.prog 3) m 6 pairsD) (c : UInt8) (n:Int) (hn : pairsD.atKey (.string [c]) (.lit (.int .i64 0)) = .lit (.int .i64 n)) :
  ∀ d,(Instr.lookup 75 (.map (some m)) (.string ⟨#[c]⟩) false).run Tryz.prog (W.drewN d) = .ok (.int .i64 n) (W.drewN d):=by
 intro d;obtain ⟨x,hrun,hat,hwf⟩:=(show (W.drewN d).ownsMap Tryz.prog 9 (plainElem (H:=Unit) Tryz.prog 3) m 6 pairsD from h).lookup_int law Tryz.underlying75 Tryz.underlying3 (zeroInt _) (key:=.string ⟨#[c]⟩) (kl:=.string [c]) (by kernel_rfl);have e : DataW.lit (H:=Unit) (Lit.int .i64 n) = .lit (.int .i64 x):=hn.symm.trans hat;clear hn hat hwf h;simp only [DataW.lit.injEq,Lit.int.injEq,true_and] at e;rw [e];exact hrun
theorem plain_int (n:Int) (hw : (Lit.int .i64 n).wf = true) : plainElem (H:=Unit) Tryz.prog 3 (.int .i64 n) = some (.lit (.int .i64 n),[]):=plainElem_int Tryz.underlying3 hw
theorem pairs_laid (w : World) : ∃ w1 w2 w3 w4 w5 w6,((Instr.mapUpdate 75 (.map (some w.heap.size)) (.string ⟨#[40]⟩) (.int .i64 1)).run Tryz.prog (w.alloc (.map #[] 0)) = .ok () w1 ∧
  (Instr.mapUpdate 75 (.map (some w.heap.size)) (.string ⟨#[41]⟩) (.int .i64 1)).run Tryz.prog w1 = .ok () w2 ∧
  (Instr.mapUpdate 75 (.map (some w.heap.size)) (.string ⟨#[91]⟩) (.int .i64 2)).run Tryz.prog w2 = .ok () w3 ∧
  (Instr.mapUpdate 75 (.map (some w.heap.size)) (.string ⟨#[93]⟩) (.int .i64 2)).run Tryz.prog w3 = .ok () w4 ∧
  (Instr.mapUpdate 75 (.map (some w.heap.size)) (.string ⟨#[123]⟩) (.int .i64 3)).run Tryz.prog w4 = .ok () w5 ∧
  (Instr.mapUpdate 75 (.map (some w.heap.size)) (.string ⟨#[125]⟩) (.int .i64 3)).run Tryz.prog w5 = .ok () w6) ∧
  w6.ownsMap Tryz.prog 9 (plainElem (H:=Unit) Tryz.prog 3) w.heap.size 6 pairsD∧Below w.heap.size w w6:=by
 have hM:=World.ownsMap_made w Tryz.prog 9 (plainElem (H:=Unit) Tryz.prog 3);have hb:=(Below.refl w.heap.size w).alloc (Nat.le_refl _) (.map #[] 0);obtain ⟨w1,r1,o1,g1⟩:=hM.update law Tryz.underlying75 (by decide) (key:=.string ⟨#[40]⟩) (val:=.int .i64 1) (kl:=.string [40]) (by kernel_rfl) (plain_int 1 (by decide));obtain ⟨w2,r2,o2,g2⟩:=o1.update law Tryz.underlying75 (by decide) (key:=.string ⟨#[41]⟩) (val:=.int .i64 1) (kl:=.string [41]) (by kernel_rfl) (plain_int 1 (by decide));obtain ⟨w3,r3,o3,g3⟩:=o2.update law Tryz.underlying75 (by decide) (key:=.string ⟨#[91]⟩) (val:=.int .i64 2) (kl:=.string [91]) (by kernel_rfl) (plain_int 2 (by decide));obtain ⟨w4,r4,o4,g4⟩:=o3.update law Tryz.underlying75 (by decide) (key:=.string ⟨#[93]⟩) (val:=.int .i64 2) (kl:=.string [93]) (by kernel_rfl) (plain_int 2 (by decide));obtain ⟨w5,r5,o5,g5⟩:=o4.update law Tryz.underlying75 (by decide) (key:=.string ⟨#[123]⟩) (val:=.int .i64 3) (kl:=.string [123]) (by kernel_rfl) (plain_int 3 (by decide));obtain ⟨w6,r6,o6,g6⟩:=o5.update law Tryz.underlying75 (by decide) (key:=.string ⟨#[125]⟩) (val:=.int .i64 3) (kl:=.string [125]) (by kernel_rfl) (plain_int 3 (by decide));have b1:=hb.grown g1 hb.size (fun g e => by injection e with e; omega);have b2:=b1.grown g2 b1.size (fun g e => by injection e with e; omega);have b3:=b2.grown g3 b2.size (fun g e => by injection e with e; omega);have b4:=b3.grown g4 b3.size (fun g e => by injection e with e; omega);have b5:=b4.grown g5 b4.size (fun g e => by injection e with e; omega);have b6:=b5.grown g6 b5.size (fun g e => by injection e with e; omega);exact ⟨w1,w2,w3,w4,w5,w6,⟨r1,r2,r3,r4,r5,r6⟩,o6,b6⟩
theorem bracket_none (c : UInt8) (hc : c = 41∨c = 93∨c = 125) (w : World) :
  Calls Tryz.prog 129 #[.string ⟨#[]⟩,.string ⟨#[c]⟩] w fun e w' => e = .returned (.tuple #[.string ⟨#[]⟩,.bool false])∧Below w.heap.size w w':=by
 have hmm:=@run_makeMap Tryz.prog;obtain ⟨w1,w2,w3,w4,w5,w6,⟨r1,r2,r3,r4,r5,r6⟩,hown,hb⟩:=pairs_laid w;rcases hc with rfl | rfl | rfl
 all_goals
  go_enter Tryz.func129,Tryz.ntmps129;go_wp2_with fail;go_quiet (fail);go_wp2_with fail;go_ret2;exact ⟨rfl,below_drewN hb _⟩
theorem run_to (l : List UInt8) (i:Nat) (h2 : i ≤ l.length) (x:Int) (hx : x = (i:Int)) (W : World) :
  (Instr.slice 9 (.string ⟨l.toArray⟩) none (some (.int .i64 x)) none).run Tryz.prog W = .ok (.string ⟨(l.take i).toArray⟩) W:=by
 subst hx;rw [run_slice_string_to_if W 9 ⟨l.toArray⟩ .i64 _ Tryz.underlying9,if_pos ⟨by omega,by simp [ByteArray.size]; omega⟩,Int.toNat_natCast,extract_sub];simp
def clB (x c : UInt8) : Bool:=(x == 40 && c == 41) || (x == 91 && c == 93) || (x == 123 && c == 125)
theorem bracket_close (q r : List UInt8) (x c : UInt8) (hc : c = 41∨c = 93∨c = 125) (hx : x = 40∨x = 91∨x = 123) (hq : q = r ++ [x]) (hr : r.length ≤ 16000) (w : World) :
  Calls Tryz.prog 129 #[.string ⟨q.toArray⟩,.string ⟨#[c]⟩] w fun e w' => e = .returned (if clB x c then .tuple #[.string ⟨r.toArray⟩,.bool true] else .tuple #[.string ⟨q.toArray⟩,.bool false])∧Below w.heap.size w w':=by
 have hmm:=@run_makeMap Tryz.prog;obtain ⟨w1,w2,w3,w4,w5,w6,⟨r1,r2,r3,r4,r5,r6⟩,hown,hb⟩:=pairs_laid w;have t1:=run_tail q r.length (by rw [hq]; simp) (r.length:Int) rfl;have t2:=run_to q r.length (by rw [hq]; simp) (r.length:Int) rfl;rw [show q.drop r.length = [x] by rw [hq]; simp] at t1;rw [show q.take r.length = r by rw [hq]; simp] at t2;have e0 : (q == []) = false:=by rw [hq]; simp
 have e1 : IntKind.i64.wrap ((q.length:Int) - 1) = (r.length:Int):=by
  rw [show (q.length:Int) - 1 = (r.length:Int) by rw [hq]; simp];exact IntWalk.i64_in _ (by omega)
 have l1:=pair_look hown 40 1 (by kernel_rfl);have l2:=pair_look hown 41 1 (by kernel_rfl);have l3:=pair_look hown 91 2 (by kernel_rfl);have l4:=pair_look hown 93 2 (by kernel_rfl);have l5:=pair_look hown 123 3 (by kernel_rfl);have l6:=pair_look hown 125 3 (by kernel_rfl);clear hq hr hown;rcases hx with rfl | rfl | rfl
 all_goals rcases hc with rfl | rfl | rfl
 all_goals
  go_enter Tryz.func129,Tryz.ntmps129;go_wp2_with fail;go_quiet (fail);go_wp2_with fail;go_ret2;exact ⟨rfl,below_drewN hb _⟩
def OpOk (op : List UInt8) : Prop:=∀ x ∈ op,x = 40∨x = 91∨x = 123
theorem OpOk.step {op op' t : List UInt8} (h : OpOk op) (hb : bracket op t = some op') : OpOk op':=by
 have ht : ∀ x ∈ op.tail,x = 40∨x = 91∨x = 123:=fun x hx => h x (List.mem_of_mem_tail hx);unfold bracket at hb;split at hb
 ·rename_i h1;injection hb with hb;subst hb;intro x hx;rcases List.mem_cons.1 hx with e | e
  ·rcases h1 with rfl | rfl | rfl
   ·exact .inl e
   ·exact .inr (.inl e)
   ·exact .inr (.inr e)
  ·exact h x e
 ·split at hb
  ·split at hb
   ·injection hb with hb;subst hb;exact ht
   ·simp at hb
  ·split at hb
   ·split at hb
    ·injection hb with hb;subst hb;exact ht
    ·simp at hb
   ·split at hb
    ·split at hb
     ·injection hb with hb;subst hb;exact ht
     ·simp at hb
    ·injection hb with hb;subst hb;exact h
def brV (op : List UInt8) : Option (List UInt8) → Value
 | some op' => .tuple #[opStr op',.bool true]
 | none => .tuple #[opStr op,.bool false]
theorem bracket_any (op t : List UInt8) (hop : OpOk op) (hl : op.length ≤ 16000) (w : World) :
  Calls Tryz.prog 129 #[opStr op,.string ⟨t.toArray⟩] w fun e w' => e = .returned (brV op (bracket op t))∧Below w.heap.size w w':=by
 have hopen : ∀ c : UInt8,(c = 40∨c = 91∨c = 123) → t = [c] → Calls Tryz.prog 129 #[opStr op,.string ⟨t.toArray⟩] w fun e w' => e = .returned (brV op (bracket op t))∧Below w.heap.size w w':=by
  intro c hc ht;have e : bracket op t = some (c :: op):=by
   subst ht;rcases hc with rfl | rfl | rfl <;> simp [bracket,at0]
  rw [e,ht];refine (bracket_open c hc op hl w).mono ?_;rintro e w' ⟨rfl,rfl⟩;exact ⟨rfl,Below.refl _ _⟩
 have hclose : ∀ c : UInt8,(c = 41∨c = 93∨c = 125) → t = [c] → Calls Tryz.prog 129 #[opStr op,.string ⟨t.toArray⟩] w fun e w' => e = .returned (brV op (bracket op t))∧Below w.heap.size w w':=by
  intro c hc ht;cases op with
  | nil =>
   have e : bracket [] t = none:=by
    subst ht;rcases hc with rfl | rfl | rfl <;> decide
   rw [e,ht];refine (bracket_none c hc w).mono ?_;rintro e w' ⟨rfl,hb⟩;exact ⟨rfl,hb⟩
  | cons x r =>
   have hx:=hop x (by simp);have hq : (x :: r).reverse = r.reverse ++ [x]:=(by simp);have e : bracket (x :: r) t = if clB x c then some r else none:=by
    subst ht;rcases hc with rfl | rfl | rfl <;> rcases hx with rfl | rfl | rfl <;> simp [bracket,clB]
   rw [e,ht];refine (bracket_close (x :: r).reverse r.reverse x c hc hx hq (by simp at hl ⊢; omega) w).mono ?_;rintro e w' ⟨rfl,hb⟩;refine ⟨?_,hb⟩;cases clB x c <;> rfl
 by_cases h1 : t = [40]
 ·exact hopen 40 (.inl rfl) h1
 by_cases h2 : t = [91]
 ·exact hopen 91 (.inr (.inl rfl)) h2
 by_cases h3 : t = [123]
 ·exact hopen 123 (.inr (.inr rfl)) h3
 by_cases h4 : t = [41]
 ·exact hclose 41 (.inl rfl) h4
 by_cases h5 : t = [93]
 ·exact hclose 93 (.inr (.inl rfl)) h5
 by_cases h6 : t = [125]
 ·exact hclose 125 (.inr (.inr rfl)) h6
 have e : bracket op t = some op:=by
  unfold bracket;rw [if_neg (fun h => h.elim h1 (fun h => h.elim h2 h3)),if_neg h4,if_neg h5,if_neg h6]
 rw [e];refine (bracket_other t h1 h2 h3 h4 h5 h6 _ w).mono ?_;rintro e w' ⟨rfl,rfl⟩;exact ⟨rfl,Below.refl _ _⟩
end
end Go.Proofs.YtonehlkiackhcaaGreatDoor