/- The literals: a character of a reader. Nothing is claimed here. -/
import Derived.Test.YtonehlkiackhcaaGreatDoorLitG
set_option linter.unusedVariables false
set_option linter.unusedSimpArgs false
set_option maxRecDepth 100000
set_option maxHeartbeats 16000000
namespace Go.Proofs.YtonehlkiackhcaaGreatDoor
open Go.RowKit Go.Lib Go.Sort
theorem Blk.growsL {w : World} {g t : Nat} {cs : Array Value} (h : Blk w g t cs) : ∀ (d:Nat) (os : Array Obj) (i:Nat),(grow (redrawn w d) os).cell? ⟨g,i,none⟩ = cs[i]?:=fun d os i => (h.belowS (below_regrown w d os)).cell i
theorem head92 {l : List UInt8} {i : Nat} (h : i < l.length) : (decodeL (l.drop i)).1 = 92 ↔ at0 l i = 92:=by
 have hne : l.drop i ≠ []:=fun e => by
  have:=congrArg List.length e;rw [List.length_drop] at this;simp at this;omega
 have hb : bAt (l.drop i) 0 = (at0 l i).toNat:=by rw [bAt_drop,Nat.add_zero]
 have key : (at0 l i).toNat = 92 ↔ at0 l i = 92:=⟨fun e => UInt8.toNat_inj.1 e,fun e => by rw [e]; rfl⟩;rw [← key,← hb];rcases decodeL_head (l.drop i) hne with ⟨h1,h2⟩ | ⟨h1,h2,_,_,h3⟩
 ·rw [h2]
 ·have:=h3 0 h2;omega
theorem cell_same {w w' : World} {b : Nat} (h : w'.heap[b]? = w.heap[b]?) (o:Nat) : w'.cell? ⟨b,o,none⟩ = w.cell? ⟨b,o,none⟩:=by
 simp only [World.cell?,h]
def NoVar (g:Nat) : Prop:=g ≠ 0∧g ≠ 1∧g ≠ 6∧g ≠ 7
theorem noVar {w : World} {g t : Nat} {cs : Array Value} {b : ByteArray} (he : EnvR w) (h : Blk w g t cs) (h0 : cs[0]? = some (.string b)) : NoVar g:=by
 have hc:=h.cell 0;rw [h0] at hc;refine ⟨?_,?_,?_,?_⟩
 ·rintro rfl;have:=he.tabs.1 0 (by omega);rw [hc] at this;simp at this
 ·rintro rfl;have:=(he.tabs.2 0 (by omega)).1;rw [hc] at this;simp at this
 ·rintro rfl;obtain ⟨ev,h1,h2⟩:=he.syn;rw [hc] at h1;injection h1 with h1;subst h1;rcases h2 with h2 | ⟨_,_,h2⟩ <;> cases h2
 ·rintro rfl;obtain ⟨ev,h1,h2⟩:=he.rng;rw [hc] at h1;injection h1 with h1;subst h1;rcases h2 with h2 | ⟨_,_,h2⟩ <;> cases h2
theorem ErrC.keepX {w w' : World} {g gl : Nat} (h : ErrC w gl) (hx : BX g w w') (hne : g ≠ gl) : ErrC w' gl:=by
 obtain ⟨ev,h1,h2⟩:=h;exact ⟨ev,(cell_same (hx.block gl (lt_of_cell h1) hne.symm) 0).trans h1,h2⟩
theorem EnvR.keepX {w w' : World} {g : Nat} (h : EnvR w) (hn : NoVar g) (hx : BX g w w') : EnvR w':=by
 have l1:=lt_of_cell (h.tabs.1 0 (by omega));have l2:=lt_of_cell (h.tabs.2 0 (by omega)).1;have e1:=cell_same (hx.block _ l1 hn.1.symm);have e2:=cell_same (hx.block _ l2 hn.2.1.symm);exact ⟨⟨fun k hk => (e1 _).trans (h.tabs.1 k hk),fun k hk => ⟨(e2 _).trans (h.tabs.2 k hk).1,(e2 _).trans (h.tabs.2 k hk).2⟩⟩,h.syn.keepX hx hn.2.2.1,h.rng.keepX hx hn.2.2.2⟩
theorem ib_brc : ∀ t : List UInt8,Lib.indexByte (t ++ [125]) 125 = ((span (· != 125) t:Nat):Int)
 | [] => rfl
 | c :: t => by
  rw [List.cons_append,Lib.indexByte,span_cons,ib_brc t]
  by_cases h : c = 125
  ·subst h;rfl
  ·rw [if_neg (by simpa using h),if_neg (by rw [beq_iff_eq]; omega),if_pos (by simpa using h)];omega
theorem ibT (t : List UInt8) (c : UInt8) (k:Int) (h : Lib.indexByte t c = k) (W : World) : Calls Tryz.prog 87 #[.string ⟨t.toArray⟩,.int .u8 (c.toNat:Int)] W fun e w' => e = .returned (.int .i64 k)∧W = w' :=
 (Tryz.strings_IndexByte ⟨t.toArray⟩ (c.toNat:Int) W).mono fun _ _ h' => ⟨by rw [h'.1,Int.toNat_natCast,show c.toNat.toUInt8 = c from by simp,← h],h'.2.symm⟩
theorem validR_eq (n:Nat) : Lib.validRune (n:Int) = validR n:=by
 unfold Lib.validRune validR;rw [Bool.eq_iff_iff,decide_eq_true_eq,Bool.and_eq_true,decide_eq_true_eq,Bool.not_eq_true',Bool.and_eq_false_iff,decide_eq_false_iff_not,decide_eq_false_iff_not];constructor
 ·intro h; omega
 ·intro h; omega
theorem validR_any (n:Nat) (W : World) : Calls Tryz.prog 88 #[.int .i32 (n:Int)] W fun e w' => e = .returned (.bool (validR n))∧W = w' :=
 (Tryz.utf8_ValidRune (n:Int) W).mono fun _ _ h => ⟨by rw [h.1,validR_eq],h.2.symm⟩
def RdOk {α : Type} (w : World) (g:Nat) (l : List UInt8) (x : Sht) (R : Except Nat (α × Nat)) : Prop:=∀ r,R = .ok r → Blk w g 70 (rdC l r.2 x)
theorem RdOk.ok {α : Type} {w : World} {g : Nat} {l : List UInt8} {x : Sht} {R : Except Nat (α × Nat)} {c : α} {j : Nat} (h : R = .ok (c,j)) (hb : Blk w g 70 (rdC l j x)) : RdOk w g l x R:=fun r hr => by
 rw [h] at hr;injection hr with hr;subst hr;exact hb
theorem RdOk.err {α : Type} {w : World} {g : Nat} {l : List UInt8} {x : Sht} {R : Except Nat (α × Nat)} {k : Nat} (h : R = .error k) : RdOk w g l x R:=fun r hr => by
 rw [h] at hr;cases hr
theorem lastb (c : UInt8) (k:Int) (h : Lib.lastIndexByte ⟨#[10,110,9,116,92,92,34,34,39,39]⟩ (c.toNat:Int) = k) (W : World) :
  Calls Tryz.prog 85 #[.string ⟨#[10,110,9,116,92,92,34,34,39,39]⟩,.int .u8 (c.toNat:Int)] W fun e w' => e = .returned (.int .i64 k)∧W = w' :=
 (Tryz.strings_LastIndexByte ⟨#[10,110,9,116,92,92,34,34,39,39]⟩ (c.toNat:Int) (by decide) W).mono fun _ _ h' => ⟨by rw [h'.1,← h],h'.2.symm⟩
theorem lastb_no (c : UInt8) (h1 : c ≠ 110) (h2 : c ≠ 116) (h3 : c ≠ 92) (h4 : c ≠ 34) (h5 : c ≠ 39) : ∃ k : Int,Lib.lastIndexByte ⟨#[10,110,9,116,92,92,34,34,39,39]⟩ (c.toNat:Int) = k∧((Int.tmod k 2) == 1) = false:=by
 have:=byteAll (fun c => decide (c = 110) || decide (c = 116) || decide (c = 92) || decide (c = 34) || decide (c = 39) || !(Int.tmod (Lib.lastIndexByte ⟨#[10,110,9,116,92,92,34,34,39,39]⟩ (c.toNat:Int)) 2 == 1)) (by decide +kernel) c;simp only [h1,h2,h3,h4,h5,decide_false,Bool.false_or,Bool.not_eq_true'] at this;exact ⟨_,rfl,this⟩
theorem character_any {w : World} {g : Nat} {l : List UInt8} {i : Nat} (hs : Strg l) (hgd : Gd l i) (hi : i < (shtOf l).lim) (h : Blk w g 70 (rdC l i (shtOf l))) (hl : l.length ≤ 16000) (he : EnvR w) :
  Calls Tryz.prog 45 #[.pointer (some ⟨g,0,none⟩)] w fun e w' => Thr (charS l (shtOf l) i) (fun r => .int .i32 (r.1:Int)) e∧RdOk w' g l (shtOf l) (charS l (shtOf l) i)∧BX g w w':=by
 have hll:=(lim_lt hs).1;have hil : i < l.length:=by omega
 have hne : l.drop i ≠ []:=fun e => by
  have:=congrArg List.length e;rw [List.length_drop] at this;simp at this;omega
 have hE:=fun hc hr => hgd.esc hs hi hc hr;have hB:=fun hc hr => hgd.brc hs hi hc hr;obtain ⟨x,hx⟩ : ∃ x,shtOf l = x:=⟨_,rfl⟩;rw [hx] at hi h hll hE hB ⊢;have hcs : charS l x i = if x.pre = 98∧128 ≤ (decodeL (l.drop i)).1 then .error i
  else if at0 l i ≠ 92∨x.pre = 114 then .ok ((decodeL (l.drop i)).1,i + (decodeL (l.drop i)).2)
  else match escS l x i with
  | none => .error i
  | some r => .ok r:=rfl
 have hd92:=head92 hil;have hdw:=width_pos (l.drop i) hne;have hdr : (decodeL (l.drop i)).2 ≤ l.length - i:=by
  have:=decodeL_head (l.drop i) hne;rw [List.length_drop] at this;rcases this with ⟨_,h⟩ | ⟨_,_,h,_⟩
  ·rw [h]; simp only; omega
  ·exact h
 have hdlt:=decodeL_lt (l.drop i);have hDC:=fun W hW => decode_any (l.drop i) hne W hW;obtain ⟨c,hc⟩ : ∃ c,(decodeL (l.drop i)).1 = c:=⟨_,rfl⟩;obtain ⟨n,hn⟩ : ∃ n,(decodeL (l.drop i)).2 = n:=⟨_,rfl⟩;rw [hc,hn] at hcs;rw [hc] at hd92 hdlt;rw [hn] at hdw hdr;rw [hc,hn] at hDC;obtain ⟨R,hR⟩ : ∃ R,charS l x i = R:=⟨_,rfl⟩;rw [hR] at hcs ⊢;have HR:=hid hcs;have hdc : ∀ d os,Calls Tryz.prog 84 #[.string ⟨(l.drop i).toArray⟩] (grow (redrawn w d) os) (fun e w'' => e = .returned (.tuple #[.int .i32 (c:Int),.int .i64 (n:Int)])∧∃ p : Regrown,w'' = grow (redrawn w p.d) p.os):=fun d os => Calls.regrown_of (hDC _ (he.tabs.keepB (below_regrown w d os)));have HDC:=hid hdc;have HE:=hid hE;have HBR:=hid hB;have hsub:=run_tail l i (by omega) (i:Int) rfl;clear hcs hdc hDC hc hn hR hx hne hE hB hs hgd;obtain ⟨q1,q2,q3⟩:=h.rules;have G:=h.growsL;unfold rdC at q1 G;go_enter Tryz.func45,Tryz.ntmps45;go_wp2_with fail;refine wp_region_quiet_below (by kernel_rfl) (by kernel_rfl) ?_
 repeat (first | go_big_quiet_step (exact HDC.out _ _) | quiet_step (exact HDC.out _ _))
 refine wpQuiet_nil ?_;intro _ hwq;obtain ⟨⟨dq,osq⟩,hwq'⟩:=hwq;subst hwq';have hbq:=below_regrown w dq osq;have h1:=h.belowS hbq;have hx1:=BX.of g hbq;have he1:=he.keepB hbq;generalize grow (redrawn w dq) osq = w1 at hbq h1 hx1 he1 ⊢;clear q1 q2 q3 G HDC hsub hbq h he;obtain ⟨q1,q2,q3⟩:=h1.rules;unfold rdC at q1
 by_cases hA : x.pre = 98∧128 ≤ c
 ·have HRR:=hid (show R = .error i from by rw [HR.out,if_pos hA]);have b98 : ((x.pre.toNat:Int) == 98) = true:=(by rw [hA.1]; rfl);have b128 : decide ((c:Int) ≥ 128) = true:=decide_eq_true (by have:=hA.2; omega);go_wp2_with fail;refine (lfail_any _ _ _).mono ?_;rintro e w3 ⟨rfl,hb3⟩;have hx3:=(hx1).below hb3;go_wp2_with fail;exact ⟨rfl,by rw [HRR.out]; rfl,.err HRR.out,hx3⟩
 ·have HR1:=hid (HR.out.trans (if_neg hA))
  by_cases h98 : x.pre = 98
  ·have b98 : ((x.pre.toNat:Int) == 98) = true:=(by rw [h98]; rfl);have b128 : decide ((c:Int) ≥ 128) = false:=decide_eq_false (by have : ¬ 128 ≤ c:=fun h => hA ⟨h98,h⟩; omega)
   -- behind the first test
   by_cases hbs : at0 l i ≠ 92∨x.pre = 114
   ·have HRR:=hid (show R = .ok (c,i + n) from by rw [HR1.out,if_pos hbs]);have hg2 : Blk (w1.setCell ⟨g,1,none⟩ (.int .i64 ((i:Int) + (n:Int)))) g 70 (rdC l (i + n) x):=h1.set_ 1 (.int .i64 ((i:Int) + (n:Int)));have hx2:=hx1.set (p:=⟨g,1,none⟩) rfl (.int .i64 ((i:Int) + (n:Int)));have c32 : (c:Int) < 1114112:=(by omega);rcases hbs with hbs | hbs
    ·have b92 : ((c:Int) != 92) = true:=(by rw [bne,show ((c:Int) == 92) = false from by rw [beq_eq_false_iff_ne]; intro e; exact hbs (hd92.1 (by omega))]; rfl);clear hbs;go_wp2_with fail;go_ret;exact ⟨by rw [HRR.out]; rfl,.ok HRR.out hg2,hx2⟩
    ·exact absurd (h98.symm.trans hbs) (by decide)
   ·have HR2:=hid (show R = match escS l x i with
     | none => .error i
     | some r => .ok r from by rw [HR1.out,if_neg hbs])
    simp only [not_or,Decidable.not_not] at hbs;obtain ⟨h92,h114⟩:=hbs;obtain rfl : c = 92:=hd92.2 h92;have b114 : ((x.pre.toNat:Int) == 114) = false:=u8_ne (d:=114) h114;obtain ⟨hi1,_⟩:=HE.out h92 h114;have hbrc:=HBR.out h92 h114;have HBRC:=hid hbrc;have hg2 : Blk (w1.setCell ⟨g,1,none⟩ (.int .i64 ((i:Int) + 2))) g 70 (rdC l (i + 2) x):=h1.set_ 1 (.int .i64 ((i:Int) + 2));have hx2:=hx1.set (p:=⟨g,1,none⟩) rfl (.int .i64 ((i:Int) + 2));have he2:=he1.keepX (noVar he1 h1 rfl) ((BX.refl g w1).set (p:=⟨g,1,none⟩) rfl (.int .i64 ((i:Int) + 2)));have hix:=run_idx l (i + 1) (by omega) ((i:Int) + 1) rfl;have hi0 : (i:Int) < 16000:=(by omega);clear HR1 HR hbrc
    by_cases hc1 : at0 l (i + 1) = 110
    ·have hnx : at0 l (i + 1) = 110:=hc1;rw [hnx] at hix;have hIX2 : ∀ W : World,(Instr.index 9 (.string ⟨#[10,110,9,116,92,92,34,34,39,39]⟩) (.int .i64 0)).run Tryz.prog W = .ok (.int .u8 10) W:=fun W => by kernel_rfl
     have hCV : ∀ W : World,(convert 5 21 (.int .u8 10)).run Tryz.prog W = .ok (.int .i32 10) W:=fun W => by kernel_rfl
     have HRR:=hid (show R = .ok (10,i + 2) from by rw [HR2.out]; unfold escS; simp [hnx]);clear hnx hc1;go_wp2_with fail;refine (lastb 110 1 rfl _).mono ?_;rintro e w2 ⟨rfl,rfl⟩;go_wp2_with fail;go_ret;exact ⟨by rw [HRR.out]; rfl,.ok HRR.out hg2,hx2⟩
    by_cases hc2 : at0 l (i + 1) = 116
    ·have hnx : at0 l (i + 1) = 116:=hc2;rw [hnx] at hix;have hIX2 : ∀ W : World,(Instr.index 9 (.string ⟨#[10,110,9,116,92,92,34,34,39,39]⟩) (.int .i64 2)).run Tryz.prog W = .ok (.int .u8 9) W:=fun W => by kernel_rfl
     have hCV : ∀ W : World,(convert 5 21 (.int .u8 9)).run Tryz.prog W = .ok (.int .i32 9) W:=fun W => by kernel_rfl
     have HRR:=hid (show R = .ok (9,i + 2) from by rw [HR2.out]; unfold escS; simp [hnx]);clear hnx hc2;go_wp2_with fail;refine (lastb 116 3 rfl _).mono ?_;rintro e w2 ⟨rfl,rfl⟩;go_wp2_with fail;go_ret;exact ⟨by rw [HRR.out]; rfl,.ok HRR.out hg2,hx2⟩
    by_cases hc3 : at0 l (i + 1) = 92
    ·have hnx : at0 l (i + 1) = 92:=hc3;rw [hnx] at hix;have hIX2 : ∀ W : World,(Instr.index 9 (.string ⟨#[10,110,9,116,92,92,34,34,39,39]⟩) (.int .i64 4)).run Tryz.prog W = .ok (.int .u8 92) W:=fun W => by kernel_rfl
     have hCV : ∀ W : World,(convert 5 21 (.int .u8 92)).run Tryz.prog W = .ok (.int .i32 92) W:=fun W => by kernel_rfl
     have HRR:=hid (show R = .ok (92,i + 2) from by rw [HR2.out]; unfold escS; simp [hnx]);clear hnx hc3;go_wp2_with fail;refine (lastb 92 5 rfl _).mono ?_;rintro e w2 ⟨rfl,rfl⟩;go_wp2_with fail;go_ret;exact ⟨by rw [HRR.out]; rfl,.ok HRR.out hg2,hx2⟩
    by_cases hc4 : at0 l (i + 1) = 34
    ·have hnx : at0 l (i + 1) = 34:=hc4;rw [hnx] at hix;have hIX2 : ∀ W : World,(Instr.index 9 (.string ⟨#[10,110,9,116,92,92,34,34,39,39]⟩) (.int .i64 6)).run Tryz.prog W = .ok (.int .u8 34) W:=fun W => by kernel_rfl
     have hCV : ∀ W : World,(convert 5 21 (.int .u8 34)).run Tryz.prog W = .ok (.int .i32 34) W:=fun W => by kernel_rfl
     have HRR:=hid (show R = .ok (34,i + 2) from by rw [HR2.out]; unfold escS; simp [hnx]);clear hnx hc4;go_wp2_with fail;refine (lastb 34 7 rfl _).mono ?_;rintro e w2 ⟨rfl,rfl⟩;go_wp2_with fail;go_ret;exact ⟨by rw [HRR.out]; rfl,.ok HRR.out hg2,hx2⟩
    by_cases hc5 : at0 l (i + 1) = 39
    ·have hnx : at0 l (i + 1) = 39:=hc5;rw [hnx] at hix;have hIX2 : ∀ W : World,(Instr.index 9 (.string ⟨#[10,110,9,116,92,92,34,34,39,39]⟩) (.int .i64 8)).run Tryz.prog W = .ok (.int .u8 39) W:=fun W => by kernel_rfl
     have hCV : ∀ W : World,(convert 5 21 (.int .u8 39)).run Tryz.prog W = .ok (.int .i32 39) W:=fun W => by kernel_rfl
     have HRR:=hid (show R = .ok (39,i + 2) from by rw [HR2.out]; unfold escS; simp [hnx]);clear hnx hc5;go_wp2_with fail;refine (lastb 39 9 rfl _).mono ?_;rintro e w2 ⟨rfl,rfl⟩;go_wp2_with fail;go_ret;exact ⟨by rw [HRR.out]; rfl,.ok HRR.out hg2,hx2⟩
    have hesc:=HR2.out;rw [escS,if_neg hc1,if_neg hc2,if_neg hc3,if_neg hc4,if_neg hc5] at hesc;obtain ⟨k,hk,hkr⟩:=lastb_no _ hc1 hc2 hc3 hc4 hc5;have HLB:=hid (fun W => lastb (at0 l (i + 1)) k hk W);obtain ⟨nx,hnx⟩ : ∃ nx,at0 l (i + 1) = nx:=⟨_,rfl⟩;rw [hnx] at hesc HLB hix;have HBR2:=hid (show at0 l (i + 2) = 123 → nx ≠ 10 → i + 2 < x.lim from fun h1 h2 => HBRC.out h1 (by rw [hnx]; exact h2));have HI1:=hid hi1;clear hc1 hc2 hc3 hc4 hc5 hk hnx HBRC HE HBR HR2 hd92 hdlt hA h92 h114 hdr hdw;have t1 : ∀ k,(w1.setCell ⟨g,1,none⟩ (.int .i64 ((i:Int) + 2))).cell? ⟨g,k,none⟩ = #[.string ⟨l.toArray⟩,.int .i64 ((i:Int) + 2),.int .i64 (x.lim:Int),.int .u8 (x.pre.toNat:Int),.int .u8 (x.quo.toNat:Int)][k]?:=fun k => hg2.cell k
    by_cases h120 : nx = 120
    ·subst h120
     by_cases hx4 : i + 4 ≤ x.lim
     ·have d4 : decide ((i:Int) + 2 + 2 ≤ (x.lim:Int)) = true:=decide_eq_true (by omega);have HR3:=hid (show R = match (hexS (cutL l (i + 2) (i + 4))).map fun n => (n,i + 4) with
       | none => .error i
       | some r => .ok r from by rw [hesc,if_pos rfl,if_pos hx4])
      have hcl:=cutL_len (l:=l) (a:=i + 2) (b:=i + 4) (by omega);clear hesc;go_wp2_with fail;refine (HLB.out _).mono ?_;rintro e w2 ⟨rfl,rfl⟩;go_wp2_with fail;go_quiet (fail);go_wp2_with fail;generalize hW : World.drewN (w1.setCell ⟨g,1,none⟩ (.int .i64 ((i:Int) + 2))) _ = w4;have hbw : Below (w1.setCell ⟨g,1,none⟩ (.int .i64 ((i:Int) + 2))).heap.size (w1.setCell ⟨g,1,none⟩ (.int .i64 ((i:Int) + 2))) w4:=(by rw [← hW]; exact below_drewN (Below.refl _ _) _);have hg4:=hg2.belowS hbw;have hx4':=hx2.below hbw;have he4 : EnvR w4:=he2.keepB hbw;clear hW hbw t1 q1 q2 q3;have hhx:=fun (d:Nat) (os : Array Obj) => Calls.regrown_of (hex_any (hg4.belowS (below_regrown w4 d os)) (i + 2) (i + 4) (by omega) (by omega) hl (he4.keepB (below_regrown w4 d os)));unfold hexP at hhx;have GG:=hg4.growsL;unfold rdC at GG;cases hS : hexS (cutL l (i + 2) (i + 4)) with
      | none =>
       have HRR:=hid (show R = .error i from by rw [HR3.out,hS]; rfl);simp only [hS] at hhx;have HHX:=hid hhx;clear hhx hS;refine wp_region_quiet_below (by kernel_rfl) (by kernel_rfl) ?_
       repeat (first | go_big_quiet_step (exact HHX.out _ _) | quiet_step (exact HHX.out _ _))
       refine wpQuiet_nil ?_;intro _ hwq;obtain ⟨⟨dq,osq⟩,hwq'⟩:=hwq;subst hwq';have hbq:=below_regrown w4 dq osq;have hg5:=hg4.belowS hbq;have hx5:=hx4'.below hbq;have he5:=he4.keepB hbq;generalize grow (redrawn w4 dq) osq = w5 at hbq hg5 hx5 he5 ⊢;clear hbq GG HHX;go_wp2_with fail;refine (lfail_any _ _ _).mono ?_;rintro e w3 ⟨rfl,hb3⟩;have hx3:=(hx5).below hb3;go_wp2_with fail;exact ⟨rfl,by rw [HRR.out]; rfl,.err HRR.out,hx3⟩
      | some n =>
       have HRR:=hid (show R = .ok (n,i + 4) from by rw [HR3.out,hS]; rfl);have hp:=hexS_pow hS;rw [hcl,show i + 4 - (i + 2) = 2 by omega] at hp;have n0 : IntKind.i32.wrap (n:Int) = (n:Int):=IntWalk.i32_in _ (by omega);simp only [hS] at hhx;have HHX:=hid hhx;clear hhx hS;refine wp_region_quiet_below (by kernel_rfl) (by kernel_rfl) ?_
       repeat (first | go_big_quiet_step (exact HHX.out _ _) | quiet_step (exact HHX.out _ _))
       refine wpQuiet_nil ?_;intro _ hwq;obtain ⟨⟨dq,osq⟩,hwq'⟩:=hwq;subst hwq';have hbq:=below_regrown w4 dq osq;have hg5:=hg4.belowS hbq;have hx5:=hx4'.below hbq;have he5:=he4.keepB hbq;generalize grow (redrawn w4 dq) osq = w5 at hbq hg5 hx5 he5 ⊢;clear hbq GG HHX;have hg6 : Blk (w5.setCell ⟨g,1,none⟩ (.int .i64 ((i:Int) + 2 + 2))) g 70 (rdC l (i + 4) x):=hg5.set_ 1 (.int .i64 ((i:Int) + 2 + 2));have hx6:=hx5.set (p:=⟨g,1,none⟩) rfl (.int .i64 ((i:Int) + 2 + 2));obtain ⟨r1,r2,r3⟩:=hg5.rules;unfold rdC at r1;go_wp2_with fail;go_ret;exact ⟨by rw [HRR.out]; rfl,.ok HRR.out hg6,hx6⟩
     ·have d4 : decide ((i:Int) + 2 + 2 ≤ (x.lim:Int)) = false:=decide_eq_false (by omega);have HRR:=hid (show R = .error i from by rw [hesc,if_pos rfl,if_neg hx4]);clear hesc;go_wp2_with fail;refine (HLB.out _).mono ?_;rintro e w2 ⟨rfl,rfl⟩;go_wp2_with fail;go_quiet (fail);go_wp2_with fail;go_quiet (fail);go_wp2_with fail;refine (lfail_any _ _ _).mono ?_;rintro e w3 ⟨rfl,hb3⟩;have hx3:=(hx2).below (below_drew_then hb3);go_wp2_with fail;exact ⟨rfl,by rw [HRR.out]; rfl,.err HRR.out,hx3⟩
    have b120 : ((nx.toNat:Int) == 120) = false:=u8_ne (d:=120) h120
    by_cases h117 : nx = 117
    ·subst h117;have hesc1:=hesc.trans (by rw [if_neg h120]);have hbrl:=HBR2.out
     -- the escape that names a number between braces
     by_cases hp98 : x.pre = 98
     ·have p98 : ((x.pre.toNat:Int) != 98) = false:=(by rw [bne,hp98]; rfl);have HRR:=hid (show R = .error i from by rw [hesc1,if_neg (fun e => e.2.1 hp98)]);clear hesc hesc1 hp98 hbrl;go_wp2_with fail;refine (HLB.out _).mono ?_;rintro e w2 ⟨rfl,rfl⟩;go_wp2_with fail;go_quiet (fail);go_wp2_with fail;go_quiet (fail);go_wp2_with fail;refine (lfail_any _ _ _).mono ?_;rintro e w3 ⟨rfl,hb3⟩;have hx3:=(hx2).below (below_drew_then hb3);go_wp2_with fail;exact ⟨rfl,by rw [HRR.out]; rfl,.err HRR.out,hx3⟩
     exact absurd h98 hp98
    have b117 : ((nx.toNat:Int) == 117) = false:=u8_ne (d:=117) h117;have HRR:=hid (show R = .error i from by rw [hesc,if_neg h120,if_neg (fun e => h117 e.1)]);clear h117 h120 hesc;go_wp2_with fail;refine (HLB.out _).mono ?_;rintro e w2 ⟨rfl,rfl⟩;go_wp2_with fail;go_quiet (fail);go_wp2_with fail;go_quiet (fail);go_wp2_with fail;refine (lfail_any _ _ _).mono ?_;rintro e w3 ⟨rfl,hb3⟩;have hx3:=(hx2).below (below_drew_then hb3);go_wp2_with fail;exact ⟨rfl,by rw [HRR.out]; rfl,.err HRR.out,hx3⟩
  ·have b98 : ((x.pre.toNat:Int) == 98) = false:=u8_ne (d:=98) h98
   -- behind the first test
   by_cases hbs : at0 l i ≠ 92∨x.pre = 114
   ·have HRR:=hid (show R = .ok (c,i + n) from by rw [HR1.out,if_pos hbs]);have hg2 : Blk (w1.setCell ⟨g,1,none⟩ (.int .i64 ((i:Int) + (n:Int)))) g 70 (rdC l (i + n) x):=h1.set_ 1 (.int .i64 ((i:Int) + (n:Int)));have hx2:=hx1.set (p:=⟨g,1,none⟩) rfl (.int .i64 ((i:Int) + (n:Int)));have c32 : (c:Int) < 1114112:=(by omega);rcases hbs with hbs | hbs
    ·have b92 : ((c:Int) != 92) = true:=(by rw [bne,show ((c:Int) == 92) = false from by rw [beq_eq_false_iff_ne]; intro e; exact hbs (hd92.1 (by omega))]; rfl);clear hbs;go_wp2_with fail;go_ret;exact ⟨by rw [HRR.out]; rfl,.ok HRR.out hg2,hx2⟩
    ·have b114 : ((x.pre.toNat:Int) == 114) = true:=(by rw [hbs]; rfl);clear hbs
     by_cases h92 : c = 92
     ·subst h92;go_wp2_with fail;go_ret;exact ⟨by rw [HRR.out]; rfl,.ok HRR.out hg2,hx2⟩
     ·have b92 : ((c:Int) != 92) = true:=(by rw [bne,show ((c:Int) == 92) = false from by rw [beq_eq_false_iff_ne]; omega]; rfl);go_wp2_with fail;go_ret;exact ⟨by rw [HRR.out]; rfl,.ok HRR.out hg2,hx2⟩
   ·have HR2:=hid (show R = match escS l x i with
     | none => .error i
     | some r => .ok r from by rw [HR1.out,if_neg hbs])
    simp only [not_or,Decidable.not_not] at hbs;obtain ⟨h92,h114⟩:=hbs;obtain rfl : c = 92:=hd92.2 h92;have b114 : ((x.pre.toNat:Int) == 114) = false:=u8_ne (d:=114) h114;obtain ⟨hi1,_⟩:=HE.out h92 h114;have hbrc:=HBR.out h92 h114;have HBRC:=hid hbrc;have hg2 : Blk (w1.setCell ⟨g,1,none⟩ (.int .i64 ((i:Int) + 2))) g 70 (rdC l (i + 2) x):=h1.set_ 1 (.int .i64 ((i:Int) + 2));have hx2:=hx1.set (p:=⟨g,1,none⟩) rfl (.int .i64 ((i:Int) + 2));have he2:=he1.keepX (noVar he1 h1 rfl) ((BX.refl g w1).set (p:=⟨g,1,none⟩) rfl (.int .i64 ((i:Int) + 2)));have hix:=run_idx l (i + 1) (by omega) ((i:Int) + 1) rfl;have hi0 : (i:Int) < 16000:=(by omega);clear HR1 HR hbrc
    by_cases hc1 : at0 l (i + 1) = 110
    ·have hnx : at0 l (i + 1) = 110:=hc1;rw [hnx] at hix;have hIX2 : ∀ W : World,(Instr.index 9 (.string ⟨#[10,110,9,116,92,92,34,34,39,39]⟩) (.int .i64 0)).run Tryz.prog W = .ok (.int .u8 10) W:=fun W => by kernel_rfl
     have hCV : ∀ W : World,(convert 5 21 (.int .u8 10)).run Tryz.prog W = .ok (.int .i32 10) W:=fun W => by kernel_rfl
     have HRR:=hid (show R = .ok (10,i + 2) from by rw [HR2.out]; unfold escS; simp [hnx]);clear hnx hc1;go_wp2_with fail;refine (lastb 110 1 rfl _).mono ?_;rintro e w2 ⟨rfl,rfl⟩;go_wp2_with fail;go_ret;exact ⟨by rw [HRR.out]; rfl,.ok HRR.out hg2,hx2⟩
    by_cases hc2 : at0 l (i + 1) = 116
    ·have hnx : at0 l (i + 1) = 116:=hc2;rw [hnx] at hix;have hIX2 : ∀ W : World,(Instr.index 9 (.string ⟨#[10,110,9,116,92,92,34,34,39,39]⟩) (.int .i64 2)).run Tryz.prog W = .ok (.int .u8 9) W:=fun W => by kernel_rfl
     have hCV : ∀ W : World,(convert 5 21 (.int .u8 9)).run Tryz.prog W = .ok (.int .i32 9) W:=fun W => by kernel_rfl
     have HRR:=hid (show R = .ok (9,i + 2) from by rw [HR2.out]; unfold escS; simp [hnx]);clear hnx hc2;go_wp2_with fail;refine (lastb 116 3 rfl _).mono ?_;rintro e w2 ⟨rfl,rfl⟩;go_wp2_with fail;go_ret;exact ⟨by rw [HRR.out]; rfl,.ok HRR.out hg2,hx2⟩
    by_cases hc3 : at0 l (i + 1) = 92
    ·have hnx : at0 l (i + 1) = 92:=hc3;rw [hnx] at hix;have hIX2 : ∀ W : World,(Instr.index 9 (.string ⟨#[10,110,9,116,92,92,34,34,39,39]⟩) (.int .i64 4)).run Tryz.prog W = .ok (.int .u8 92) W:=fun W => by kernel_rfl
     have hCV : ∀ W : World,(convert 5 21 (.int .u8 92)).run Tryz.prog W = .ok (.int .i32 92) W:=fun W => by kernel_rfl
     have HRR:=hid (show R = .ok (92,i + 2) from by rw [HR2.out]; unfold escS; simp [hnx]);clear hnx hc3;go_wp2_with fail;refine (lastb 92 5 rfl _).mono ?_;rintro e w2 ⟨rfl,rfl⟩;go_wp2_with fail;go_ret;exact ⟨by rw [HRR.out]; rfl,.ok HRR.out hg2,hx2⟩
    by_cases hc4 : at0 l (i + 1) = 34
    ·have hnx : at0 l (i + 1) = 34:=hc4;rw [hnx] at hix;have hIX2 : ∀ W : World,(Instr.index 9 (.string ⟨#[10,110,9,116,92,92,34,34,39,39]⟩) (.int .i64 6)).run Tryz.prog W = .ok (.int .u8 34) W:=fun W => by kernel_rfl
     have hCV : ∀ W : World,(convert 5 21 (.int .u8 34)).run Tryz.prog W = .ok (.int .i32 34) W:=fun W => by kernel_rfl
     have HRR:=hid (show R = .ok (34,i + 2) from by rw [HR2.out]; unfold escS; simp [hnx]);clear hnx hc4;go_wp2_with fail;refine (lastb 34 7 rfl _).mono ?_;rintro e w2 ⟨rfl,rfl⟩;go_wp2_with fail;go_ret;exact ⟨by rw [HRR.out]; rfl,.ok HRR.out hg2,hx2⟩
    by_cases hc5 : at0 l (i + 1) = 39
    ·have hnx : at0 l (i + 1) = 39:=hc5;rw [hnx] at hix;have hIX2 : ∀ W : World,(Instr.index 9 (.string ⟨#[10,110,9,116,92,92,34,34,39,39]⟩) (.int .i64 8)).run Tryz.prog W = .ok (.int .u8 39) W:=fun W => by kernel_rfl
     have hCV : ∀ W : World,(convert 5 21 (.int .u8 39)).run Tryz.prog W = .ok (.int .i32 39) W:=fun W => by kernel_rfl
     have HRR:=hid (show R = .ok (39,i + 2) from by rw [HR2.out]; unfold escS; simp [hnx]);clear hnx hc5;go_wp2_with fail;refine (lastb 39 9 rfl _).mono ?_;rintro e w2 ⟨rfl,rfl⟩;go_wp2_with fail;go_ret;exact ⟨by rw [HRR.out]; rfl,.ok HRR.out hg2,hx2⟩
    have hesc:=HR2.out;rw [escS,if_neg hc1,if_neg hc2,if_neg hc3,if_neg hc4,if_neg hc5] at hesc;obtain ⟨k,hk,hkr⟩:=lastb_no _ hc1 hc2 hc3 hc4 hc5;have HLB:=hid (fun W => lastb (at0 l (i + 1)) k hk W);obtain ⟨nx,hnx⟩ : ∃ nx,at0 l (i + 1) = nx:=⟨_,rfl⟩;rw [hnx] at hesc HLB hix;have HBR2:=hid (show at0 l (i + 2) = 123 → nx ≠ 10 → i + 2 < x.lim from fun h1 h2 => HBRC.out h1 (by rw [hnx]; exact h2));have HI1:=hid hi1;clear hc1 hc2 hc3 hc4 hc5 hk hnx HBRC HE HBR HR2 hd92 hdlt hA h92 h114 hdr hdw;have t1 : ∀ k,(w1.setCell ⟨g,1,none⟩ (.int .i64 ((i:Int) + 2))).cell? ⟨g,k,none⟩ = #[.string ⟨l.toArray⟩,.int .i64 ((i:Int) + 2),.int .i64 (x.lim:Int),.int .u8 (x.pre.toNat:Int),.int .u8 (x.quo.toNat:Int)][k]?:=fun k => hg2.cell k
    by_cases h120 : nx = 120
    ·subst h120
     by_cases hx4 : i + 4 ≤ x.lim
     ·have d4 : decide ((i:Int) + 2 + 2 ≤ (x.lim:Int)) = true:=decide_eq_true (by omega);have HR3:=hid (show R = match (hexS (cutL l (i + 2) (i + 4))).map fun n => (n,i + 4) with
       | none => .error i
       | some r => .ok r from by rw [hesc,if_pos rfl,if_pos hx4])
      have hcl:=cutL_len (l:=l) (a:=i + 2) (b:=i + 4) (by omega);clear hesc;go_wp2_with fail;refine (HLB.out _).mono ?_;rintro e w2 ⟨rfl,rfl⟩;go_wp2_with fail;go_quiet (fail);go_wp2_with fail;generalize hW : World.drewN (w1.setCell ⟨g,1,none⟩ (.int .i64 ((i:Int) + 2))) _ = w4;have hbw : Below (w1.setCell ⟨g,1,none⟩ (.int .i64 ((i:Int) + 2))).heap.size (w1.setCell ⟨g,1,none⟩ (.int .i64 ((i:Int) + 2))) w4:=(by rw [← hW]; exact below_drewN (Below.refl _ _) _);have hg4:=hg2.belowS hbw;have hx4':=hx2.below hbw;have he4 : EnvR w4:=he2.keepB hbw;clear hW hbw t1 q1 q2 q3;have hhx:=fun (d:Nat) (os : Array Obj) => Calls.regrown_of (hex_any (hg4.belowS (below_regrown w4 d os)) (i + 2) (i + 4) (by omega) (by omega) hl (he4.keepB (below_regrown w4 d os)));unfold hexP at hhx;have GG:=hg4.growsL;unfold rdC at GG;cases hS : hexS (cutL l (i + 2) (i + 4)) with
      | none =>
       have HRR:=hid (show R = .error i from by rw [HR3.out,hS]; rfl);simp only [hS] at hhx;have HHX:=hid hhx;clear hhx hS;refine wp_region_quiet_below (by kernel_rfl) (by kernel_rfl) ?_
       repeat (first | go_big_quiet_step (exact HHX.out _ _) | quiet_step (exact HHX.out _ _))
       refine wpQuiet_nil ?_;intro _ hwq;obtain ⟨⟨dq,osq⟩,hwq'⟩:=hwq;subst hwq';have hbq:=below_regrown w4 dq osq;have hg5:=hg4.belowS hbq;have hx5:=hx4'.below hbq;have he5:=he4.keepB hbq;generalize grow (redrawn w4 dq) osq = w5 at hbq hg5 hx5 he5 ⊢;clear hbq GG HHX;go_wp2_with fail;refine (lfail_any _ _ _).mono ?_;rintro e w3 ⟨rfl,hb3⟩;have hx3:=(hx5).below hb3;go_wp2_with fail;exact ⟨rfl,by rw [HRR.out]; rfl,.err HRR.out,hx3⟩
      | some n =>
       have HRR:=hid (show R = .ok (n,i + 4) from by rw [HR3.out,hS]; rfl);have hp:=hexS_pow hS;rw [hcl,show i + 4 - (i + 2) = 2 by omega] at hp;have n0 : IntKind.i32.wrap (n:Int) = (n:Int):=IntWalk.i32_in _ (by omega);simp only [hS] at hhx;have HHX:=hid hhx;clear hhx hS;refine wp_region_quiet_below (by kernel_rfl) (by kernel_rfl) ?_
       repeat (first | go_big_quiet_step (exact HHX.out _ _) | quiet_step (exact HHX.out _ _))
       refine wpQuiet_nil ?_;intro _ hwq;obtain ⟨⟨dq,osq⟩,hwq'⟩:=hwq;subst hwq';have hbq:=below_regrown w4 dq osq;have hg5:=hg4.belowS hbq;have hx5:=hx4'.below hbq;have he5:=he4.keepB hbq;generalize grow (redrawn w4 dq) osq = w5 at hbq hg5 hx5 he5 ⊢;clear hbq GG HHX;have hg6 : Blk (w5.setCell ⟨g,1,none⟩ (.int .i64 ((i:Int) + 2 + 2))) g 70 (rdC l (i + 4) x):=hg5.set_ 1 (.int .i64 ((i:Int) + 2 + 2));have hx6:=hx5.set (p:=⟨g,1,none⟩) rfl (.int .i64 ((i:Int) + 2 + 2));obtain ⟨r1,r2,r3⟩:=hg5.rules;unfold rdC at r1;go_wp2_with fail;go_ret;exact ⟨by rw [HRR.out]; rfl,.ok HRR.out hg6,hx6⟩
     ·have d4 : decide ((i:Int) + 2 + 2 ≤ (x.lim:Int)) = false:=decide_eq_false (by omega);have HRR:=hid (show R = .error i from by rw [hesc,if_pos rfl,if_neg hx4]);clear hesc;go_wp2_with fail;refine (HLB.out _).mono ?_;rintro e w2 ⟨rfl,rfl⟩;go_wp2_with fail;go_quiet (fail);go_wp2_with fail;go_quiet (fail);go_wp2_with fail;refine (lfail_any _ _ _).mono ?_;rintro e w3 ⟨rfl,hb3⟩;have hx3:=(hx2).below (below_drew_then hb3);go_wp2_with fail;exact ⟨rfl,by rw [HRR.out]; rfl,.err HRR.out,hx3⟩
    have b120 : ((nx.toNat:Int) == 120) = false:=u8_ne (d:=120) h120
    by_cases h117 : nx = 117
    ·subst h117;have hesc1:=hesc.trans (by rw [if_neg h120]);have hbrl:=HBR2.out
     -- the escape that names a number between braces
     by_cases hp98 : x.pre = 98
     ·have p98 : ((x.pre.toNat:Int) != 98) = false:=(by rw [bne,hp98]; rfl);have HRR:=hid (show R = .error i from by rw [hesc1,if_neg (fun e => e.2.1 hp98)]);clear hesc hesc1 hp98 hbrl;go_wp2_with fail;refine (HLB.out _).mono ?_;rintro e w2 ⟨rfl,rfl⟩;go_wp2_with fail;go_quiet (fail);go_wp2_with fail;go_quiet (fail);go_wp2_with fail;refine (lfail_any _ _ _).mono ?_;rintro e w3 ⟨rfl,hb3⟩;have hx3:=(hx2).below (below_drew_then hb3);go_wp2_with fail;exact ⟨rfl,by rw [HRR.out]; rfl,.err HRR.out,hx3⟩
     have p98' : ((x.pre.toNat:Int) == 98) = false:=u8_ne (d:=98) hp98;have p98 : ((x.pre.toNat:Int) != 98) = true:=(by rw [bne,p98']; rfl);have hix2:=run_idx l (i + 2) (by omega) ((i:Int) + 2) rfl
     by_cases h123 : at0 l (i + 2) ≠ 123
     ·have c123 : (((at0 l (i + 2)).toNat:Int) == 123) = false:=u8_ne (d:=123) h123;have HRR:=hid (show R = .error i from by rw [hesc1,if_neg (fun e => h123 e.2.2)]);clear hesc hesc1 hp98 hbrl;go_wp2_with fail;refine (HLB.out _).mono ?_;rintro e w2 ⟨rfl,rfl⟩;go_wp2_with fail;go_quiet (fail);go_wp2_with fail;go_quiet (fail);go_wp2_with fail;refine (lfail_any _ _ _).mono ?_;rintro e w3 ⟨rfl,hb3⟩;have hx3:=(hx2).below (below_drew_then hb3);go_wp2_with fail;exact ⟨rfl,by rw [HRR.out]; rfl,.err HRR.out,hx3⟩
     simp only [Decidable.not_not,ne_eq] at h123;have hi2:=hbrl h123 (by decide);rw [h123] at hix2;have hesc2:=hesc1.trans (by rw [if_pos ⟨rfl,hp98,h123⟩]);have hk1 : 1 ≤ brcL l x i:=by
      unfold brcL;have h0 : cutL l (i + 2) x.lim = 123 :: (cutL l (i + 2) x.lim).drop 1:=by
       have h1:=drop_at (cutL l (i + 2) x.lim) 0 (by rw [cutL_len (by omega)]; omega);rw [List.drop_zero,cutL_at (by omega),Nat.add_zero,h123] at h1;exact h1
      rw [h0,span_cons];simp
     have hk2 : brcL l x i ≤ x.lim - (i + 2):=by
      have:=span_le (· != 125) (cutL l (i + 2) x.lim);rw [cutL_len (by omega)] at this;exact this
     have hib:=ib_brc (cutL l (i + 2) x.lim);rw [show span (· != 125) (cutL l (i + 2) x.lim) = brcL l x i from rfl] at hib;have hsub:=run_sub l (i + 2) x.lim (by omega) (by omega) ((i:Int) + 2) (x.lim:Int) rfl rfl;have hclb:=cutL_len (l:=l) (a:=i + 2) (b:=x.lim) (by omega);obtain ⟨T,hT⟩ : ∃ T,cutL l (i + 2) x.lim = T:=⟨_,rfl⟩;obtain ⟨K,hK⟩ : ∃ K,brcL l x i = K:=⟨_,rfl⟩;rw [show (l.drop (i + 2)).take (x.lim - (i + 2)) = T from hT] at hsub;rw [hT,hK] at hib;rw [hT] at hclb;rw [hK] at hk1 hk2 hesc2;have HIB:=hid (fun W => ibT (T ++ [125]) 125 (K:Int) hib W);have hadd : ∀ W : World,(Op.stringOp .add ⟨T.toArray⟩ ⟨#[125]⟩).run Tryz.prog W = .ok (.string ⟨(T ++ [125]).toArray⟩) W:=fun W => run_string_add_lists W T [125] (by omega) (by decide);have hclt:=cutL_len (l:=l) (a:=i + 3) (b:=i + 2 + K) (by omega);obtain ⟨S,hSX⟩ : ∃ S,cutL l (i + 3) (i + 2 + K) = S:=⟨_,rfl⟩;rw [hSX] at hesc2 hclt;have hk0 : (K:Int) ≤ 16000:=(by omega);have HES:=hid hesc2;clear hesc hesc1 hesc2 hT hK hib hbrl hclb;go_wp2_with fail;refine (HLB.out _).mono ?_;rintro e w2 ⟨rfl,rfl⟩;go_wp2_with fail;go_quiet (fail);go_wp2_with fail;go_quiet (fail);go_wp2_with fail;generalize hW : World.drewN (World.drewN (w1.setCell ⟨g,1,none⟩ (.int .i64 ((i:Int) + 2))) _) _ = w4;have hbw : Below (w1.setCell ⟨g,1,none⟩ (.int .i64 ((i:Int) + 2))).heap.size (w1.setCell ⟨g,1,none⟩ (.int .i64 ((i:Int) + 2))) w4:=(by rw [← hW]; exact below_drewN (below_drewN (Below.refl _ _) _) _);have hg4:=hg2.belowS hbw;have hx4':=hx2.below hbw;have he4 : EnvR w4:=he2.keepB hbw;clear hW hbw t1 q1 q2 q3;obtain ⟨u1,u2,u3⟩:=hg4.rules;unfold rdC at u1;go_quiet ((go_at_call 87; exact quiet_left (HIB.out _)));go_wp2_with fail;generalize hW : World.drewN w4 _ = w7;have hbw : Below w4.heap.size w4 w7:=by rw [← hW]; exact below_drewN (Below.refl _ _) _
     replace hg4:=hg4.belowS hbw
     replace hx4':=hx4'.below hbw
     replace he4 : EnvR w7:=he4.keepB hbw
     clear hW hbw u1 u2 u3;have hhx:=hex_any hg4 (i + 3) (i + 2 + K) (by omega) (by omega) hl he4;unfold hexP at hhx;rw [hSX] at hhx;obtain ⟨u1,u2,u3⟩:=hg4.rules;unfold rdC at u1;cases hS : hexS S with
     | none =>
      have HRR:=hid (show R = .error i from by rw [HES.out,hS]);simp only [hS] at hhx;clear hS;refine hhx.mono ?_;rintro e w5 ⟨rfl,hb5⟩;have hx5:=hx4'.below hb5;have hg5:=hg4.belowS hb5;clear hhx u1 u2 u3;go_wp2_with fail;refine (lfail_any _ _ _).mono ?_;rintro e w3 ⟨rfl,hb3⟩;have hx3:=(hx5).below hb3;go_wp2_with fail;exact ⟨rfl,by rw [HRR.out]; rfl,.err HRR.out,hx3⟩
     | some n =>
      have hpow:=hexS_pow hS;have HE3:=hid (show R = match (if i + 2 + K < x.lim∧K ≤ 7∧validR n = true then some (n,i + 3 + K) else none) with
       | none => .error i
       | some r => .ok r from by rw [HES.out,hS])
      simp only [hS] at hhx;clear hS;have hsk : wrap64 ((i:Int) + 2 + (K:Int) - ((i:Int) + 2)) = (K:Int):=by rw [show (i:Int) + 2 + (K:Int) - ((i:Int) + 2) = (K:Int) by omega]; exact IntWalk.wrap64_in _ (by omega)
      by_cases c1 : i + 2 + K < x.lim
      ·have d1 : decide ((i:Int) + 2 + (K:Int) < (x.lim:Int)) = true:=decide_eq_true (by omega)
       by_cases c2 : K ≤ 7
       ·have d2 : decide ((K:Int) ≤ 7) = true:=decide_eq_true (by omega);have hp16 : 16 ^ S.length ≤ 16 ^ 6:=Nat.pow_le_pow_right (by omega) (by omega);have n0 : IntKind.i32.wrap (n:Int) = (n:Int):=IntWalk.i32_in _ (by omega);have HV:=hid (fun W => validR_any n W);cases hv : validR n with
        | true =>
         have HRR:=hid (show R = .ok (n,i + 2 + K + 1) from by rw [HE3.out,if_pos ⟨c1,c2,hv⟩,show i + 3 + K = i + 2 + K + 1 by omega]);rw [hv] at HV;clear hpow hp16 hv;refine hhx.mono ?_;rintro e w5 ⟨rfl,hb5⟩;have hx5:=hx4'.below hb5;have hg5:=hg4.belowS hb5;clear hhx u1 u2 u3;have hg6 : Blk (w5.setCell ⟨g,1,none⟩ (.int .i64 ((i:Int) + 2 + (K:Int) + 1))) g 70 (rdC l (i + 2 + K + 1) x):=hg5.set_ 1 (.int .i64 ((i:Int) + 2 + (K:Int) + 1));have hx6:=hx5.set (p:=⟨g,1,none⟩) rfl (.int .i64 ((i:Int) + 2 + (K:Int) + 1));obtain ⟨u1,u2,u3⟩:=hg5.rules;unfold rdC at u1;go_wp2_with fail;refine (HV.out _).mono ?_;rintro e w6 ⟨rfl,rfl⟩;go_wp2_with fail;go_ret;exact ⟨by rw [HRR.out]; rfl,.ok HRR.out hg6,hx6⟩
        | false =>
         have HRR:=hid (show R = .error i from by rw [HE3.out,if_neg (fun e => by rw [hv] at e; exact absurd e.2.2 (by decide))]);rw [hv] at HV;clear hpow hp16 hv;refine hhx.mono ?_;rintro e w5 ⟨rfl,hb5⟩;have hx5:=hx4'.below hb5;have hg5:=hg4.belowS hb5;clear hhx u1 u2 u3;obtain ⟨u1,u2,u3⟩:=hg5.rules;unfold rdC at u1;go_wp2_with fail;refine (HV.out _).mono ?_;rintro e w6 ⟨rfl,rfl⟩;go_wp2_with fail;refine (lfail_any _ _ _).mono ?_;rintro e w3 ⟨rfl,hb3⟩;have hx3:=(hx5).below hb3;go_wp2_with fail;exact ⟨rfl,by rw [HRR.out]; rfl,.err HRR.out,hx3⟩
       ·have d2 : decide ((K:Int) ≤ 7) = false:=decide_eq_false (by omega);have HRR:=hid (show R = .error i from by rw [HE3.out,if_neg (fun e => c2 e.2.1)]);clear hpow;refine hhx.mono ?_;rintro e w5 ⟨rfl,hb5⟩;have hx5:=hx4'.below hb5;have hg5:=hg4.belowS hb5;clear hhx u1 u2 u3;obtain ⟨u1,u2,u3⟩:=hg5.rules;unfold rdC at u1;go_wp2_with fail;refine (lfail_any _ _ _).mono ?_;rintro e w3 ⟨rfl,hb3⟩;have hx3:=(hx5).below hb3;go_wp2_with fail;exact ⟨rfl,by rw [HRR.out]; rfl,.err HRR.out,hx3⟩
      ·have d1 : decide ((i:Int) + 2 + (K:Int) < (x.lim:Int)) = false:=decide_eq_false (by omega);have HRR:=hid (show R = .error i from by rw [HE3.out,if_neg (fun e => c1 e.1)]);clear hpow;refine hhx.mono ?_;rintro e w5 ⟨rfl,hb5⟩;have hx5:=hx4'.below hb5;have hg5:=hg4.belowS hb5;clear hhx u1 u2 u3;obtain ⟨u1,u2,u3⟩:=hg5.rules;unfold rdC at u1;go_wp2_with fail;refine (lfail_any _ _ _).mono ?_;rintro e w3 ⟨rfl,hb3⟩;have hx3:=(hx5).below hb3;go_wp2_with fail;exact ⟨rfl,by rw [HRR.out]; rfl,.err HRR.out,hx3⟩
    have b117 : ((nx.toNat:Int) == 117) = false:=u8_ne (d:=117) h117;have HRR:=hid (show R = .error i from by rw [hesc,if_neg h120,if_neg (fun e => h117 e.1)]);clear h117 h120 hesc;go_wp2_with fail;refine (HLB.out _).mono ?_;rintro e w2 ⟨rfl,rfl⟩;go_wp2_with fail;go_quiet (fail);go_wp2_with fail;go_quiet (fail);go_wp2_with fail;refine (lfail_any _ _ _).mono ?_;rintro e w3 ⟨rfl,hb3⟩;have hx3:=(hx2).below (below_drew_then hb3);go_wp2_with fail;exact ⟨rfl,by rw [HRR.out]; rfl,.err HRR.out,hx3⟩
end Go.Proofs.YtonehlkiackhcaaGreatDoor
