/- The scanner's function while at its five conditions: how far it goes. Nothing is claimed here. -/
import Derived.Shelf.Strings.BuilderK
import Derived.Shelf.Strings.BuilderRune
import Derived.Test.YtonehlkiackhcaaGreatDoorLitShelf3
import Derived.Deep.DeepMust
import Derived.Test.YtonehlkiackhcaaGreatDoorQTail
set_option linter.unusedVariables false
set_option maxRecDepth 100000
set_option maxHeartbeats 16000000
namespace Go.Proofs
open Go.Shelf
def Tryz.laysB_ren : Go.Shelf.Ren:=⟨fun | 166 => 62 | 167 => 77 | 168 => 79 | 169 => 66 | 170 => 65 | 240 => 99 | 242 => 46 | 276 => 133 | 278 => 89 | n => n,fun | 0 => 0 | 3 => 3 | 4 => 4 | 5 => 5 | 9 => 9 | 20 => 20 | 21 => 21 | 37 => 71 | 46 => 121 | 51 => 63 | 70 => 97 | 72 => 99 | 75 => 101 | 80 => 54 | 127 => 158 | 164 => 193 | n => n,fun | n => n⟩
theorem Tryz.laysB166 : Go.Proofs.Lays.n166 Tryz.prog Tryz.laysB_ren:={
 mixed:=by kernel_rfl
 f166:=Tryz.func62.trans (congrArg some (by kernel_rfl))
 f240:=Tryz.func99.trans (congrArg some (by kernel_rfl))
 f276:=Tryz.func133.trans (congrArg some (by kernel_rfl))
 t0:=Tryz.underlying0
 a0:=Tryz.isAgg0
 z0:=Tryz.sizeOf0
 v0:=Tryz.zeroValue0
 t3:=Tryz.underlying3
 a3:=Tryz.isAgg3
 z3:=Tryz.sizeOf3
 v3:=Tryz.zeroValue3
 t4:=Tryz.underlying4
 a4:=Tryz.isAgg4
 z4:=Tryz.sizeOf4
 v4:=Tryz.zeroValue4
 t9:=Tryz.underlying9
 a9:=Tryz.isAgg9
 z9:=Tryz.sizeOf9
 v9:=Tryz.zeroValue9
 t20:=Tryz.underlying20
 a20:=Tryz.isAgg20
 z20:=Tryz.sizeOf20
 v20:=Tryz.zeroValue20
 t37:=Tryz.underlying71
 a37:=Tryz.isAgg71
 z37:=Tryz.sizeOf71
 v37:=Tryz.zeroValue71
 t70:=Tryz.underlying97
 a70:=Tryz.isAgg97
 z70:=Tryz.sizeOf97
 v70:=Tryz.zeroValue97
 t72:=Tryz.underlying99
 a72:=Tryz.isAgg99
 z72:=Tryz.sizeOf99
 v72:=Tryz.zeroValue99
 t75:=Tryz.underlying101
 a75:=Tryz.isAgg101
 z75:=Tryz.sizeOf101
 v75:=Tryz.zeroValue101
 t164:=Tryz.underlying193
 a164:=Tryz.isAgg193
 z164:=Tryz.sizeOf193
 v164:=Tryz.zeroValue193
}
theorem Tryz.laysB167 : Go.Proofs.Lays.n167 Tryz.prog Tryz.laysB_ren:={
 mixed:=by kernel_rfl
 f167:=Tryz.func77.trans (congrArg some (by kernel_rfl))
 f240:=Tryz.func99.trans (congrArg some (by kernel_rfl))
 f276:=Tryz.func133.trans (congrArg some (by kernel_rfl))
 t0:=Tryz.underlying0
 a0:=Tryz.isAgg0
 z0:=Tryz.sizeOf0
 v0:=Tryz.zeroValue0
 t4:=Tryz.underlying4
 a4:=Tryz.isAgg4
 z4:=Tryz.sizeOf4
 v4:=Tryz.zeroValue4
 t5:=Tryz.underlying5
 a5:=Tryz.isAgg5
 z5:=Tryz.sizeOf5
 v5:=Tryz.zeroValue5
 t9:=Tryz.underlying9
 a9:=Tryz.isAgg9
 z9:=Tryz.sizeOf9
 v9:=Tryz.zeroValue9
 t20:=Tryz.underlying20
 a20:=Tryz.isAgg20
 z20:=Tryz.sizeOf20
 v20:=Tryz.zeroValue20
 t37:=Tryz.underlying71
 a37:=Tryz.isAgg71
 z37:=Tryz.sizeOf71
 v37:=Tryz.zeroValue71
 t70:=Tryz.underlying97
 a70:=Tryz.isAgg97
 z70:=Tryz.sizeOf97
 v70:=Tryz.zeroValue97
 t72:=Tryz.underlying99
 a72:=Tryz.isAgg99
 z72:=Tryz.sizeOf99
 v72:=Tryz.zeroValue99
 t75:=Tryz.underlying101
 a75:=Tryz.isAgg101
 z75:=Tryz.sizeOf101
 v75:=Tryz.zeroValue101
 t164:=Tryz.underlying193
 a164:=Tryz.isAgg193
 z164:=Tryz.sizeOf193
 v164:=Tryz.zeroValue193
}
theorem Tryz.laysB168 : Go.Proofs.Lays.n168 Tryz.prog Tryz.laysB_ren:={
 mixed:=by kernel_rfl
 f168:=Tryz.func79.trans (congrArg some (by kernel_rfl))
 f240:=Tryz.func99.trans (congrArg some (by kernel_rfl))
 f242:=Tryz.func46.trans (congrArg some (by kernel_rfl))
 f276:=Tryz.func133.trans (congrArg some (by kernel_rfl))
 f278:=Tryz.func89.trans (congrArg some (by kernel_rfl))
 t0:=Tryz.underlying0
 a0:=Tryz.isAgg0
 z0:=Tryz.sizeOf0
 v0:=Tryz.zeroValue0
 t3:=Tryz.underlying3
 a3:=Tryz.isAgg3
 z3:=Tryz.sizeOf3
 v3:=Tryz.zeroValue3
 t4:=Tryz.underlying4
 a4:=Tryz.isAgg4
 z4:=Tryz.sizeOf4
 v4:=Tryz.zeroValue4
 t5:=Tryz.underlying5
 a5:=Tryz.isAgg5
 z5:=Tryz.sizeOf5
 v5:=Tryz.zeroValue5
 t9:=Tryz.underlying9
 a9:=Tryz.isAgg9
 z9:=Tryz.sizeOf9
 v9:=Tryz.zeroValue9
 t20:=Tryz.underlying20
 a20:=Tryz.isAgg20
 z20:=Tryz.sizeOf20
 v20:=Tryz.zeroValue20
 t21:=Tryz.underlying21
 a21:=Tryz.isAgg21
 z21:=Tryz.sizeOf21
 v21:=Tryz.zeroValue21
 t37:=Tryz.underlying71
 a37:=Tryz.isAgg71
 z37:=Tryz.sizeOf71
 v37:=Tryz.zeroValue71
 t46:=Tryz.underlying121
 a46:=Tryz.isAgg121
 z46:=Tryz.sizeOf121
 v46:=Tryz.zeroValue121
 t51:=Tryz.underlying63
 a51:=Tryz.isAgg63
 z51:=Tryz.sizeOf63
 v51:=Tryz.zeroValue63
 t70:=Tryz.underlying97
 a70:=Tryz.isAgg97
 z70:=Tryz.sizeOf97
 v70:=Tryz.zeroValue97
 t72:=Tryz.underlying99
 a72:=Tryz.isAgg99
 z72:=Tryz.sizeOf99
 v72:=Tryz.zeroValue99
 t75:=Tryz.underlying101
 a75:=Tryz.isAgg101
 z75:=Tryz.sizeOf101
 v75:=Tryz.zeroValue101
 t164:=Tryz.underlying193
 a164:=Tryz.isAgg193
 z164:=Tryz.sizeOf193
 v164:=Tryz.zeroValue193
}
theorem Tryz.laysB169 : Go.Proofs.Lays.n169 Tryz.prog Tryz.laysB_ren:={
 mixed:=by kernel_rfl
 f169:=Tryz.func66.trans (congrArg some (by kernel_rfl))
 t0:=Tryz.underlying0
 a0:=Tryz.isAgg0
 z0:=Tryz.sizeOf0
 v0:=Tryz.zeroValue0
 t3:=Tryz.underlying3
 a3:=Tryz.isAgg3
 z3:=Tryz.sizeOf3
 v3:=Tryz.zeroValue3
 t9:=Tryz.underlying9
 a9:=Tryz.isAgg9
 z9:=Tryz.sizeOf9
 v9:=Tryz.zeroValue9
 t37:=Tryz.underlying71
 a37:=Tryz.isAgg71
 z37:=Tryz.sizeOf71
 v37:=Tryz.zeroValue71
 t70:=Tryz.underlying97
 a70:=Tryz.isAgg97
 z70:=Tryz.sizeOf97
 v70:=Tryz.zeroValue97
 t72:=Tryz.underlying99
 a72:=Tryz.isAgg99
 z72:=Tryz.sizeOf99
 v72:=Tryz.zeroValue99
 t127:=Tryz.underlying158
 a127:=Tryz.isAgg158
 z127:=Tryz.sizeOf158
 v127:=Tryz.zeroValue158
}
theorem Tryz.Builder_ExtraB : Builder.Extra Tryz.prog Tryz.laysB_ren:={
 sizeBuilder:=by kernel_rfl
 liesBuilder:=by kernel_rfl
 t5:=Tryz.underlying5
 a5:=Tryz.isAgg5
 z5:=Tryz.sizeOf5
 v5:=Tryz.zeroValue5
 infoByte:=by kernel_rfl
 cellsByte:=by kernel_rfl
 sizeByte:=by kernel_rfl
 neB5:=by decide }
end Go.Proofs

namespace Go.Proofs.YtonehlkiackhcaaGreatDoor
open Go.RowKit Go.Shelf Go.Lib Go.Maps Go.Sort
attribute [local go_sem] steady
theorem Row.new (w : World) (cs : Array Value) (t : TypeId) : Row (w.alloc (.cells cs t)) (some ⟨w.heap.size,0,none⟩) cs.toList:=by
 refine .inr ⟨w.heap.size,0,rfl,by simp,fun j u hu => ?_⟩;rw [Nat.zero_add,(Blk.new w t cs).cell j];simpa using hu
theorem below_iter (w : World) (s : ByteArray) (pos : Nat) : Below w.heap.size w (w.iter s pos):=by
 unfold World.iter;exact (Below.refl _ _).alloc (Nat.le_refl _) _
theorem rcount_any (t : List UInt8) (w : World) (ht : t.length ≤ 16000) : Calls Tryz.prog 186 #[.string ⟨t.toArray⟩] w fun e w' => e = .returned (.int .i64 ((runeCountL t : Nat) : Int)) ∧ Below w.heap.size w w':=by
 refine (Tryz.utf8_RuneCountInString ⟨t.toArray⟩ w (by simp [ByteArray.size]; omega)).mono ?_;rintro e w' ⟨rfl,pos,rfl⟩;exact ⟨rfl,below_iter w _ _⟩
theorem next_any {a w : World} {B g : Nat} {l : List UInt8} {at_ : Nat} {ind : List Nat} {op : List UInt8} {ts : List Tok} {vi vo vt : Value} {m : Nat} {vs : Value} (h : Sc w B g l at_ ind op ts vi vo vt m vs) (hl : l.length ≤ 16000) (ha : at_ < l.length) (hc : at0 l at_ = 10) (hb : Below B a w) :
  Calls Tryz.prog 150 #[.pointer (some ⟨g,0,none⟩)] w fun e w' => e = .returned (.tuple #[]) ∧ Sc w' B g l (at_ + 1) ind op ts vi vo vt m vs ∧ Below B a w':=by
 have e1:=line_nl l at_ ha hc;have e2:=bol_nl l at_ ha hc;have hb1:=line_bound l at_;have HE1:=Lib.hid e1;have HE2:=Lib.hid e2;obtain ⟨L,hL⟩ : ∃ L,lineAt l at_ = L:=⟨_,rfl⟩;obtain ⟨bb,hbb⟩ : ∃ bb,bol l at_ = bb:=⟨_,rfl⟩;have HL:=Lib.hid hL;have HBB:=Lib.hid hbb;unfold Sc scCells at h;rw [hL,hbb] at h;rw [hL] at hb1;clear e1 e2 hL hbb hc;obtain ⟨q1,q2,q3⟩:=h.blk.rules;go_enter Tryz.func150,Tryz.ntmps150;go_wp2;go_end0;refine ⟨rfl,?_,((hb.setCell (p:=⟨g,1,none⟩) h.ge _).setCell (p:=⟨g,2,none⟩) h.ge _).setCell (p:=⟨g,3,none⟩) h.ge _⟩;unfold Sc scCells;rw [HE1.out,HE2.out,HL.out];exact ((h.set 1 (.int .i64 ((at_ : Int) + 1))).set 2 (.int .i64 (L + 1))).set 3 (.int .i64 ((at_ : Int) + 1))
theorem Blk.grows {w : World} {g t : Nat} {cs : Array Value} (h : Blk w g t cs) : ∀ (d : Nat) (os : Array Obj) (i : Nat),(grow (redrawn w d) os).cell? ⟨g,i,none⟩ = cs[i]?:=fun d os i => (h.belowS (below_regrown w d os)).cell i
def AddPost (a : World) (B g : Nat) (l : List UInt8) (at_ : Nat) (ind : List Nat) (op : List UInt8) (ts : List Tok) (vi vo : Value) (m : Nat) (vs : Value) (e : Ending) (w' : World) : Prop :=
 ∃ vt',e = .returned (.tuple #[]) ∧ Sc w' B g l at_ ind op ts vi vo vt' m vs ∧ Below B a w'
theorem add_any {a w : World} {B g : Nat} {l : List UInt8} {at_ : Nat} {ind : List Nat} {op : List UInt8} {ts : List Tok} {vi vo vt : Value} {m : Nat} {vs : Value} (h : Sc w B g l at_ ind op ts vi vo vt m vs) (hl : l.length ≤ 16000) (hts : ts.length ≤ 1000000) (hb : Below B a w)
  (k : Int) (t : List UInt8) (i : Nat) (hi : i ≤ l.length) (h1 : lineAt l at_ = lineAt l i) (h2 : bol l at_ = bol l i) :
  Calls Tryz.prog 149 #[.pointer (some ⟨g,0,none⟩),.int .i64 k,.string ⟨t.toArray⟩,.int .i64 (i : Int)] w (AddPost a B g l at_ ind op (ts ++ [tokAt l k t i]) vi vo m vs):=by
 obtain ⟨i0,hi0,hz0,hz1,hz2⟩:=info_parts info_tok;have hcb:=col_bound l i;have hln:=line_text l i hi;have hble:=bol_le l i;have hcol : colAt l i = ((runeCountL (tailNl (l.take i)) : Nat) : Int) + 1:=rfl;obtain ⟨L,hL⟩ : ∃ L,lineAt l i = L:=⟨_,rfl⟩;obtain ⟨bb,hbb⟩ : ∃ bb,bol l i = bb:=⟨_,rfl⟩;obtain ⟨rc,hrc⟩ : ∃ rc,runeCountL (tailNl (l.take i)) = rc:=⟨_,rfl⟩;rw [hrc] at hcol;rw [hcol] at hcb;have HT:=Lib.hid (show tokc (tokAt l k t i) = [.int .i64 k,.string ⟨t.toArray⟩,.int .i64 L,.int .i64 ((rc : Int) + 1)] by unfold tokAt tokc; rw [hcol,hL]);have HH:=Lib.hid h;unfold Sc scCells at h;rw [h1,h2,hL,hbb] at h;rw [hbb] at hln hble;have hsb:=run_sub l bb i hble hi (bb : Int) (i : Int) rfl rfl;rw [hln] at hsb;have hrcc : ∀ W : World,Calls Tryz.prog 186 #[.string ⟨(tailNl (l.take i)).toArray⟩] W fun e w' => e = .returned (.int .i64 (rc : Int)) ∧ Below W.heap.size W w':=fun W => by
  have:=rcount_any (tailNl (l.take i)) W (by rw [← hln,List.length_take,List.length_drop]; omega)
  rwa [hrc] at this
 have HRC:=Lib.hid hrcc;generalize tailNl (l.take i) = tl at *
 have e1 : IntKind.i64.wrap ((rc : Int) + 1) = (rc : Int) + 1:=IntWalk.i64_in _ (by omega);have hlen : ((ts ++ [tokAt l k t i]).flatMap tokc) = ts.flatMap tokc ++ [.int .i64 k,.string ⟨t.toArray⟩,.int .i64 L,.int .i64 ((rc : Int) + 1)]:=by rw [List.flatMap_append,List.flatMap_singleton,HT.out]
 have HLEN:=Lib.hid hlen;have HH1:=Lib.hid h1;have HH2:=Lib.hid h2;have HLL:=Lib.hid hL;have HBB:=Lib.hid hbb;have HX:=Lib.hid h;have hlt:=h.blk.lt;clear hln hcol hrc hL hbb h1 h2 hrcc hlen hcb hble;obtain ⟨q1,q2,q3⟩:=h.blk.rules;clear h;have m1 : ts.length + 1 ≤ maxLen:=by unfold maxLen; omega
 have m2 : (ts.length + 1) * 40 ≤ 140737488355328:=by omega
 go_enter Tryz.func149,Tryz.ntmps149;go_wp2_with fail;have G : ∀ (p : Held fun w' => Blk w' g 180 #[.string ⟨l.toArray⟩,.int .i64 (at_ : Int),.int .i64 L,.int .i64 (bb : Int),vi,vo,vt,.map (some m),vs]) (i : Nat),p.w.cell? ⟨g,i,none⟩ = #[.string ⟨l.toArray⟩,.int .i64 (at_ : Int),.int .i64 L,.int .i64 (bb : Int),vi,vo,vt,.map (some m),vs][i]?:=fun p i => p.h.cell i;refine wp_region_steady_tail 21 26 (by kernel_rfl) (by kernel_rfl) (fun w' => ∃ p : Held fun w' => Blk w' g 180 #[.string ⟨l.toArray⟩,.int .i64 (at_ : Int),.int .i64 L,.int .i64 (bb : Int),vi,vo,vt,.map (some m),vs],w' = p.w) (isHeld_mk HX.out.blk.drew) (fun c a d v w h => by cases d <;> exact h) ?_;simp only [List.take_succ_cons,List.take_zero,List.drop_succ_cons,List.drop_zero]
 repeat (refine wpSteady_step (fun K hK => ?_) --
         go_simp
         first
           | (refine ⟨_,fun _ => rfl,hK _ ?_⟩; clear hK K)
           | (refine hK _ ?_; clear hK K))
 refine wpSteady_nil ?_;refine tailM_one ?_;go_wp2_with fail;refine (HRC.out _).mono ?_;rintro e w1 ⟨rfl,hb1⟩;have hR1:=(HX.out.drewN 1).belowS hb1;have hb2 : RowKit.Below B a w1:=below_then hb.drew hb1 (Nat.le_trans HX.out.ge (Nat.le_of_lt hlt));have hs1:=hR1.blk.lt;have hge:=hR1.ge;clear hb1 q1 q2 q3;go_wp2_with fail;refine thenC_mk (isHeld_mk hR1.blk) ?_;refine tailM_one ?_;go_wp2_with fail;refine thenC_mk (isHeld_mk hR1.blk) ?_;refine tailM_one ?_;go_wp2_with fail;refine thenC_mk (isHeld_mk hR1.blk) ?_;refine tailM_one ?_;go_wp2_with fail;refine thenC_mk (isHeld_mk (hR1.alloc _).blk) ?_;refine tailM_one ?_
 go_wp2_with (at_builtin --
              refine wpList_append_row _ rfl (.tmp 12) (.tmp 32) 126 rfl B 130 i0 (.agg #[.int .i64 0,.string ByteArray.empty,.int .i64 0,.int .i64 0]) 4 40 Tryz.underlying126 hi0 hz0 hz1 hz2 rfl (by decide) vt ts.length (ts.flatMap tokc) rfl (hR1.ot.alloc _) (some ⟨w1.heap.size,0,none⟩) 1 1 [.int .i64 k,.string ⟨t.toArray⟩,.int .i64 L,.int .i64 ((rc : Int) + 1)] rfl rfl (Row.new w1 #[.int .i64 k,.string ⟨t.toArray⟩,.int .i64 L,.int .i64 ((rc : Int) + 1)] 130) (by simp [Value.oneCell']) m1 m2 (by simp; omega) ?_
              intro v3 w3 hown3 hg3 hat3
              have hR3:=(hR1.alloc (.cells #[.int .i64 k,.string ⟨t.toArray⟩,.int .i64 L,.int .i64 ((rc : Int) + 1)] 130)).growT hg3 (ts':=ts ++ [tokAt l k t i]) (by rw [HLEN.out]; simpa using hown3)
              obtain ⟨A3,c3,rfl,_,_⟩:=own_form hown3)
 refine thenC_mk (isHeld_mk hR3.blk) ?_;refine tailM_zero ?_;have hb3:=(hb2.alloc (by omega) (.cells #[.int .i64 k,.string ⟨t.toArray⟩,.int .i64 L,.int .i64 ((rc : Int) + 1)] 130)).grown hg3 (by simp; omega) (fun g' e => (HX.out.ot.lt g' e).1);clear hg3 hown3 hat3 G;obtain ⟨q1,q2,q3⟩:=hR3.blk.rules;go_wp2_with fail;go_end0;refine ⟨.slice A3 (ts.length + 1) c3,rfl,?_,hb3.setCell (p:=⟨g,6,none⟩) hge _⟩;unfold Sc scCells;rw [HH1.out,HH2.out,HLL.out,HBB.out];have hlen3 : (ts ++ [tokAt l k t i]).length = ts.length + 1:=by simp
 exact hR3.set 6 _
end Go.Proofs.YtonehlkiackhcaaGreatDoor

namespace Go.Proofs.YtonehlkiackhcaaGreatDoor
open Go.RowKit Go.Shelf Go.Lib Go.Maps
theorem quiet_left {P : Program} {f : FuncId} {args : Array Value} {w : World} {n : Nat} {v : Value}
  (h : Calls P f args (w.drewN n) fun e w' => e = .returned v ∧ w.drewN n = w') : Calls P f args (w.drewN n) fun e w'' => e = .returned v ∧ ∃ m,w'' = w.drewN m :=
 h.mono fun _ _ ⟨he,hm⟩ => ⟨he,n,hm.symm⟩
def atW (g : Nat) (w : World) : Nat:=match w.cell? ⟨g,1,none⟩ with
 | some (.int _ n) => n.toNat
 | _ => 0
theorem ScR.atW {w : World} {B g : Nat} {cs : Array Value} {ind : List Nat} {op : List UInt8} {ts : List Tok} {vi vo vt : Value} {m : Nat} {vs : Value} {n : Nat} (h : ScR w B g cs ind op ts vi vo vt m vs) (hc : cs[1]? = some (.int .i64 (n : Int))) : YtonehlkiackhcaaGreatDoor.atW g w = n:=by
 unfold YtonehlkiackhcaaGreatDoor.atW;rw [h.blk.cell 1,hc];simp
theorem while_wrd_con (c : UInt8) (W : World) : Calls Tryz.prog 188 #[.int .u8 (c.toNat : Int)] W fun e w' => e = .returned (.bool (isWrd c)) ∧ W = w':=name1_any c W
theorem while_hex_con (c : UInt8) (W : World) : Calls Tryz.prog 190 #[.int .u8 (c.toNat : Int)] W fun e w' => e = .returned (.bool (isHex c)) ∧ W = w':=number2_any c W
theorem while_bin_con (c : UInt8) (W : World) : Calls Tryz.prog 189 #[.int .u8 (c.toNat : Int)] W fun e w' => e = .returned (.bool (isBin c)) ∧ W = w':=number1_any c W
theorem while_dig_con (c : UInt8) (W : World) : Calls Tryz.prog 155 #[.int .u8 (c.toNat : Int)] W fun e w' => e = .returned (.bool (isDig c)) ∧ W = w':=digit_any c W
theorem while_dig {a w : World} {B g : Nat} {l : List UInt8} {at_ : Nat} {ind : List Nat} {op : List UInt8} {ts : List Tok} {vi vo vt : Value} {m : Nat} {vs : Value} (h : Sc w B g l at_ ind op ts vi vo vt m vs) (hl : l.length ≤ 16000) (ha : at_ ≤ l.length) (hb : Below B a w) :
  Calls Tryz.prog 184 #[.pointer (some ⟨g,0,none⟩),.func (.func 155) #[] #[]] w fun e w' => e = .returned (.tuple #[]) ∧ Sc w' B g l (at_ + span isDig (l.drop at_)) ind op ts vi vo vt m vs ∧ Below B a w':=by
 have HC : Hid (∀ (c : UInt8) (W : World),Calls Tryz.prog 155 #[.int .u8 (c.toNat : Int)] W fun e w' => e = .returned (.bool (isDig c)) ∧ W = w'):=Lib.hid (fun c W => while_dig_con c W);go_enter Tryz.func184,Tryz.ntmps184;go_wp2_with fail
 go_loopw [26] (fun _ wr => ∃ k,at_ ≤ k ∧ k ≤ l.length ∧ k + span isDig (l.drop k) = at_ + span isDig (l.drop at_) ∧ Sc wr B g l k ind op ts vi vo vt m vs ∧ Below B a wr) (fun _ wr => l.length - atW g wr)
 case atStart => exact ⟨at_,Nat.le_refl _,ha,rfl,h,hb⟩
 case round =>
  obtain ⟨k,hk1,hk2,hk3,hs,hbr⟩:=hrel;have HK3:=Lib.hid hk3;clear hk3 h hb;have hs':=hs;unfold Sc scCells at hs';obtain ⟨q1,q2,q3⟩:=hs'.blk.rules
  by_cases hlt : k < l.length
  ·have hsp:=span_at isDig l k hlt;have hix:=run_idx l k hlt (k : Int) rfl;have d1 : decide ((k : Int) < (l.length : Int)) = true:=decide_eq_true (by omega);have d2 : decide (k < l.length) = true:=decide_eq_true hlt
   by_cases hp : isDig (at0 l k) = true
   ·have hc10 : at0 l k ≠ 10:=(by intro e; rw [e] at hp; exact absurd hp (by decide));have HL:=Lib.hid (line_same l k hlt hc10);have HB:=Lib.hid (bol_same l k hlt hc10);rw [if_pos hp] at hsp;have HSP:=Lib.hid hsp;have HCC : Hid (∀ W : World,Calls Tryz.prog 155 #[.int .u8 ((at0 l k).toNat : Int)] W fun e w' => e = .returned (.bool true) ∧ W = w'):=Lib.hid (fun W => by have:=HC.out (at0 l k) W; rwa [hp] at this);have HS:=Lib.hid hs;clear hsp hp hc10 hs;go_wp2_with fail;go_quiet ((go_at_call 155; exact quiet_left (HCC.out _)));go_wp2_with fail;go_roundw
    case rel =>
     refine ⟨k + 1,by omega,by omega,?_,?_,(below_drewN hbr _).setCell (p:=⟨g,1,none⟩) hs'.ge _⟩
     ·rw [← HK3.out,HSP.out]; omega
     ·unfold Sc scCells;rw [HL.out,HB.out];exact (hs'.drewN _).set 1 (.int .i64 ((k : Int) + 1))
    case measure =>
     rw [ScR.atW hs' rfl,ScR.atW ((hs'.drewN _).set 1 (.int .i64 ((k : Int) + 1))) (n:=k + 1) rfl];omega
   ·have hp' : isDig (at0 l k) = false:=(by simpa using hp);rw [if_neg hp] at hsp;have HSP:=Lib.hid hsp;have HCC : Hid (∀ W : World,Calls Tryz.prog 155 #[.int .u8 ((at0 l k).toNat : Int)] W fun e w' => e = .returned (.bool false) ∧ W = w'):=Lib.hid (fun W => by have:=HC.out (at0 l k) W; rwa [hp'] at this);have HS:=Lib.hid hs;clear hsp hp hp' hs;go_wp2_with fail;go_quiet ((go_at_call 155; exact quiet_left (HCC.out _)));go_wp2_with fail;go_end0;refine ⟨rfl,?_,below_drewN hbr _⟩;rw [← HK3.out,HSP.out,Nat.add_zero];exact ScR.drewN HS.out _
  ·have hend:=span_end isDig l k (by omega);have HE:=Lib.hid hend;have d1 : decide ((k : Int) < (l.length : Int)) = false:=decide_eq_false (by omega);have d2 : decide (k < l.length) = false:=decide_eq_false hlt;have HS:=Lib.hid hs;clear hend hs;go_wp2_with fail;go_quiet (fail);go_wp2_with fail;go_end0;refine ⟨rfl,?_,below_drewN hbr _⟩;rw [← HK3.out,HE.out,Nat.add_zero];exact ScR.drewN HS.out _
theorem while_wrd {a w : World} {B g : Nat} {l : List UInt8} {at_ : Nat} {ind : List Nat} {op : List UInt8} {ts : List Tok} {vi vo vt : Value} {m : Nat} {vs : Value} (h : Sc w B g l at_ ind op ts vi vo vt m vs) (hl : l.length ≤ 16000) (ha : at_ ≤ l.length) (hb : Below B a w) :
  Calls Tryz.prog 184 #[.pointer (some ⟨g,0,none⟩),.func (.func 188) #[] #[]] w fun e w' => e = .returned (.tuple #[]) ∧ Sc w' B g l (at_ + span isWrd (l.drop at_)) ind op ts vi vo vt m vs ∧ Below B a w':=by
 have HC : Hid (∀ (c : UInt8) (W : World),Calls Tryz.prog 188 #[.int .u8 (c.toNat : Int)] W fun e w' => e = .returned (.bool (isWrd c)) ∧ W = w'):=Lib.hid (fun c W => while_wrd_con c W);go_enter Tryz.func184,Tryz.ntmps184;go_wp2_with fail
 go_loopw [26] (fun _ wr => ∃ k,at_ ≤ k ∧ k ≤ l.length ∧ k + span isWrd (l.drop k) = at_ + span isWrd (l.drop at_) ∧ Sc wr B g l k ind op ts vi vo vt m vs ∧ Below B a wr) (fun _ wr => l.length - atW g wr)
 case atStart => exact ⟨at_,Nat.le_refl _,ha,rfl,h,hb⟩
 case round =>
  obtain ⟨k,hk1,hk2,hk3,hs,hbr⟩:=hrel;have HK3:=Lib.hid hk3;clear hk3 h hb;have hs':=hs;unfold Sc scCells at hs';obtain ⟨q1,q2,q3⟩:=hs'.blk.rules
  by_cases hlt : k < l.length
  ·have hsp:=span_at isWrd l k hlt;have hix:=run_idx l k hlt (k : Int) rfl;have d1 : decide ((k : Int) < (l.length : Int)) = true:=decide_eq_true (by omega);have d2 : decide (k < l.length) = true:=decide_eq_true hlt
   by_cases hp : isWrd (at0 l k) = true
   ·have hc10 : at0 l k ≠ 10:=(by intro e; rw [e] at hp; exact absurd hp (by decide));have HL:=Lib.hid (line_same l k hlt hc10);have HB:=Lib.hid (bol_same l k hlt hc10);rw [if_pos hp] at hsp;have HSP:=Lib.hid hsp;have HCC : Hid (∀ W : World,Calls Tryz.prog 188 #[.int .u8 ((at0 l k).toNat : Int)] W fun e w' => e = .returned (.bool true) ∧ W = w'):=Lib.hid (fun W => by have:=HC.out (at0 l k) W; rwa [hp] at this);have HS:=Lib.hid hs;clear hsp hp hc10 hs;go_wp2_with fail;go_quiet ((go_at_call 188; exact quiet_left (HCC.out _)));go_wp2_with fail;go_roundw
    case rel =>
     refine ⟨k + 1,by omega,by omega,?_,?_,(below_drewN hbr _).setCell (p:=⟨g,1,none⟩) hs'.ge _⟩
     ·rw [← HK3.out,HSP.out]; omega
     ·unfold Sc scCells;rw [HL.out,HB.out];exact (hs'.drewN _).set 1 (.int .i64 ((k : Int) + 1))
    case measure =>
     rw [ScR.atW hs' rfl,ScR.atW ((hs'.drewN _).set 1 (.int .i64 ((k : Int) + 1))) (n:=k + 1) rfl];omega
   ·have hp' : isWrd (at0 l k) = false:=(by simpa using hp);rw [if_neg hp] at hsp;have HSP:=Lib.hid hsp;have HCC : Hid (∀ W : World,Calls Tryz.prog 188 #[.int .u8 ((at0 l k).toNat : Int)] W fun e w' => e = .returned (.bool false) ∧ W = w'):=Lib.hid (fun W => by have:=HC.out (at0 l k) W; rwa [hp'] at this);have HS:=Lib.hid hs;clear hsp hp hp' hs;go_wp2_with fail;go_quiet ((go_at_call 188; exact quiet_left (HCC.out _)));go_wp2_with fail;go_end0;refine ⟨rfl,?_,below_drewN hbr _⟩;rw [← HK3.out,HSP.out,Nat.add_zero];exact ScR.drewN HS.out _
  ·have hend:=span_end isWrd l k (by omega);have HE:=Lib.hid hend;have d1 : decide ((k : Int) < (l.length : Int)) = false:=decide_eq_false (by omega);have d2 : decide (k < l.length) = false:=decide_eq_false hlt;have HS:=Lib.hid hs;clear hend hs;go_wp2_with fail;go_quiet (fail);go_wp2_with fail;go_end0;refine ⟨rfl,?_,below_drewN hbr _⟩;rw [← HK3.out,HE.out,Nat.add_zero];exact ScR.drewN HS.out _
theorem while_hex {a w : World} {B g : Nat} {l : List UInt8} {at_ : Nat} {ind : List Nat} {op : List UInt8} {ts : List Tok} {vi vo vt : Value} {m : Nat} {vs : Value} (h : Sc w B g l at_ ind op ts vi vo vt m vs) (hl : l.length ≤ 16000) (ha : at_ ≤ l.length) (hb : Below B a w) :
  Calls Tryz.prog 184 #[.pointer (some ⟨g,0,none⟩),.func (.func 190) #[] #[]] w fun e w' => e = .returned (.tuple #[]) ∧ Sc w' B g l (at_ + span isHex (l.drop at_)) ind op ts vi vo vt m vs ∧ Below B a w':=by
 have HC : Hid (∀ (c : UInt8) (W : World),Calls Tryz.prog 190 #[.int .u8 (c.toNat : Int)] W fun e w' => e = .returned (.bool (isHex c)) ∧ W = w'):=Lib.hid (fun c W => while_hex_con c W);go_enter Tryz.func184,Tryz.ntmps184;go_wp2_with fail
 go_loopw [26] (fun _ wr => ∃ k,at_ ≤ k ∧ k ≤ l.length ∧ k + span isHex (l.drop k) = at_ + span isHex (l.drop at_) ∧ Sc wr B g l k ind op ts vi vo vt m vs ∧ Below B a wr) (fun _ wr => l.length - atW g wr)
 case atStart => exact ⟨at_,Nat.le_refl _,ha,rfl,h,hb⟩
 case round =>
  obtain ⟨k,hk1,hk2,hk3,hs,hbr⟩:=hrel;have HK3:=Lib.hid hk3;clear hk3 h hb;have hs':=hs;unfold Sc scCells at hs';obtain ⟨q1,q2,q3⟩:=hs'.blk.rules
  by_cases hlt : k < l.length
  ·have hsp:=span_at isHex l k hlt;have hix:=run_idx l k hlt (k : Int) rfl;have d1 : decide ((k : Int) < (l.length : Int)) = true:=decide_eq_true (by omega);have d2 : decide (k < l.length) = true:=decide_eq_true hlt
   by_cases hp : isHex (at0 l k) = true
   ·have hc10 : at0 l k ≠ 10:=(by intro e; rw [e] at hp; exact absurd hp (by decide));have HL:=Lib.hid (line_same l k hlt hc10);have HB:=Lib.hid (bol_same l k hlt hc10);rw [if_pos hp] at hsp;have HSP:=Lib.hid hsp;have HCC : Hid (∀ W : World,Calls Tryz.prog 190 #[.int .u8 ((at0 l k).toNat : Int)] W fun e w' => e = .returned (.bool true) ∧ W = w'):=Lib.hid (fun W => by have:=HC.out (at0 l k) W; rwa [hp] at this);have HS:=Lib.hid hs;clear hsp hp hc10 hs;go_wp2_with fail;go_quiet ((go_at_call 190; exact quiet_left (HCC.out _)));go_wp2_with fail;go_roundw
    case rel =>
     refine ⟨k + 1,by omega,by omega,?_,?_,(below_drewN hbr _).setCell (p:=⟨g,1,none⟩) hs'.ge _⟩
     ·rw [← HK3.out,HSP.out]; omega
     ·unfold Sc scCells;rw [HL.out,HB.out];exact (hs'.drewN _).set 1 (.int .i64 ((k : Int) + 1))
    case measure =>
     rw [ScR.atW hs' rfl,ScR.atW ((hs'.drewN _).set 1 (.int .i64 ((k : Int) + 1))) (n:=k + 1) rfl];omega
   ·have hp' : isHex (at0 l k) = false:=(by simpa using hp);rw [if_neg hp] at hsp;have HSP:=Lib.hid hsp;have HCC : Hid (∀ W : World,Calls Tryz.prog 190 #[.int .u8 ((at0 l k).toNat : Int)] W fun e w' => e = .returned (.bool false) ∧ W = w'):=Lib.hid (fun W => by have:=HC.out (at0 l k) W; rwa [hp'] at this);have HS:=Lib.hid hs;clear hsp hp hp' hs;go_wp2_with fail;go_quiet ((go_at_call 190; exact quiet_left (HCC.out _)));go_wp2_with fail;go_end0;refine ⟨rfl,?_,below_drewN hbr _⟩;rw [← HK3.out,HSP.out,Nat.add_zero];exact ScR.drewN HS.out _
  ·have hend:=span_end isHex l k (by omega);have HE:=Lib.hid hend;have d1 : decide ((k : Int) < (l.length : Int)) = false:=decide_eq_false (by omega);have d2 : decide (k < l.length) = false:=decide_eq_false hlt;have HS:=Lib.hid hs;clear hend hs;go_wp2_with fail;go_quiet (fail);go_wp2_with fail;go_end0;refine ⟨rfl,?_,below_drewN hbr _⟩;rw [← HK3.out,HE.out,Nat.add_zero];exact ScR.drewN HS.out _
theorem while_bin {a w : World} {B g : Nat} {l : List UInt8} {at_ : Nat} {ind : List Nat} {op : List UInt8} {ts : List Tok} {vi vo vt : Value} {m : Nat} {vs : Value} (h : Sc w B g l at_ ind op ts vi vo vt m vs) (hl : l.length ≤ 16000) (ha : at_ ≤ l.length) (hb : Below B a w) :
  Calls Tryz.prog 184 #[.pointer (some ⟨g,0,none⟩),.func (.func 189) #[] #[]] w fun e w' => e = .returned (.tuple #[]) ∧ Sc w' B g l (at_ + span isBin (l.drop at_)) ind op ts vi vo vt m vs ∧ Below B a w':=by
 have HC : Hid (∀ (c : UInt8) (W : World),Calls Tryz.prog 189 #[.int .u8 (c.toNat : Int)] W fun e w' => e = .returned (.bool (isBin c)) ∧ W = w'):=Lib.hid (fun c W => while_bin_con c W);go_enter Tryz.func184,Tryz.ntmps184;go_wp2_with fail
 go_loopw [26] (fun _ wr => ∃ k,at_ ≤ k ∧ k ≤ l.length ∧ k + span isBin (l.drop k) = at_ + span isBin (l.drop at_) ∧ Sc wr B g l k ind op ts vi vo vt m vs ∧ Below B a wr) (fun _ wr => l.length - atW g wr)
 case atStart => exact ⟨at_,Nat.le_refl _,ha,rfl,h,hb⟩
 case round =>
  obtain ⟨k,hk1,hk2,hk3,hs,hbr⟩:=hrel;have HK3:=Lib.hid hk3;clear hk3 h hb;have hs':=hs;unfold Sc scCells at hs';obtain ⟨q1,q2,q3⟩:=hs'.blk.rules
  by_cases hlt : k < l.length
  ·have hsp:=span_at isBin l k hlt;have hix:=run_idx l k hlt (k : Int) rfl;have d1 : decide ((k : Int) < (l.length : Int)) = true:=decide_eq_true (by omega);have d2 : decide (k < l.length) = true:=decide_eq_true hlt
   by_cases hp : isBin (at0 l k) = true
   ·have hc10 : at0 l k ≠ 10:=(by intro e; rw [e] at hp; exact absurd hp (by decide));have HL:=Lib.hid (line_same l k hlt hc10);have HB:=Lib.hid (bol_same l k hlt hc10);rw [if_pos hp] at hsp;have HSP:=Lib.hid hsp;have HCC : Hid (∀ W : World,Calls Tryz.prog 189 #[.int .u8 ((at0 l k).toNat : Int)] W fun e w' => e = .returned (.bool true) ∧ W = w'):=Lib.hid (fun W => by have:=HC.out (at0 l k) W; rwa [hp] at this);have HS:=Lib.hid hs;clear hsp hp hc10 hs;go_wp2_with fail;go_quiet ((go_at_call 189; exact quiet_left (HCC.out _)));go_wp2_with fail;go_roundw
    case rel =>
     refine ⟨k + 1,by omega,by omega,?_,?_,(below_drewN hbr _).setCell (p:=⟨g,1,none⟩) hs'.ge _⟩
     ·rw [← HK3.out,HSP.out]; omega
     ·unfold Sc scCells;rw [HL.out,HB.out];exact (hs'.drewN _).set 1 (.int .i64 ((k : Int) + 1))
    case measure =>
     rw [ScR.atW hs' rfl,ScR.atW ((hs'.drewN _).set 1 (.int .i64 ((k : Int) + 1))) (n:=k + 1) rfl];omega
   ·have hp' : isBin (at0 l k) = false:=(by simpa using hp);rw [if_neg hp] at hsp;have HSP:=Lib.hid hsp;have HCC : Hid (∀ W : World,Calls Tryz.prog 189 #[.int .u8 ((at0 l k).toNat : Int)] W fun e w' => e = .returned (.bool false) ∧ W = w'):=Lib.hid (fun W => by have:=HC.out (at0 l k) W; rwa [hp'] at this);have HS:=Lib.hid hs;clear hsp hp hp' hs;go_wp2_with fail;go_quiet ((go_at_call 189; exact quiet_left (HCC.out _)));go_wp2_with fail;go_end0;refine ⟨rfl,?_,below_drewN hbr _⟩;rw [← HK3.out,HSP.out,Nat.add_zero];exact ScR.drewN HS.out _
  ·have hend:=span_end isBin l k (by omega);have HE:=Lib.hid hend;have d1 : decide ((k : Int) < (l.length : Int)) = false:=decide_eq_false (by omega);have d2 : decide (k < l.length) = false:=decide_eq_false hlt;have HS:=Lib.hid hs;clear hend hs;go_wp2_with fail;go_quiet (fail);go_wp2_with fail;go_end0;refine ⟨rfl,?_,below_drewN hbr _⟩;rw [← HK3.out,HE.out,Nat.add_zero];exact ScR.drewN HS.out _
end Go.Proofs.YtonehlkiackhcaaGreatDoor
