/- The reference's Tokens: the tokens of a source, or its fault: the faults of the text. Nothing is claimed here. -/
import Derived.Test.YtonehlkiackhcaaGreatDoorTokH
set_option linter.unusedVariables false
set_option linter.unusedSimpArgs false
set_option maxRecDepth 100000
set_option maxHeartbeats 16000000
namespace Go.Proofs.YtonehlkiackhcaaGreatDoor
section
open Go.RowKit Go.Shelf Go.Lib Go.Maps
structure TkR (w : World) (B r:Nat) (ind : List Nat) (ts : List Tok) (vi vt : Value) : Prop where
 blk : Blk w r 29 #[.int .i64 0,.int .i64 0]
 ge : B ≤ r
 oi : w.ownsRow B 3 1 vi ind.length (intc ind.reverse)
 ot : w.ownsRow B 130 4 vt ts.length (ts.flatMap tokc)
section
variable {w w' : World} {B r : Nat} {ind : List Nat} {ts : List Tok} {vi vt : Value}
theorem TkR.belowS (h : TkR w B r ind ts vi vt) (hb : Below w.heap.size w w') : TkR w' B r ind ts vi vt:=⟨h.blk.belowS hb,h.ge,own_belowS h.oi hb,own_belowS h.ot hb⟩
theorem TkR.drewN (h : TkR w B r ind ts vi vt) (n:Nat) : TkR (w.drewN n) B r ind ts vi vt:=h.belowS (below_drewN (Below.refl _ _) n)
theorem TkR.alloc (h : TkR w B r ind ts vi vt) (o : Obj) : TkR (w.alloc o) B r ind ts vi vt:=h.belowS ((Below.refl _ _).alloc (Nat.le_refl _) _)
theorem TkR.growT (h : TkR w B r ind ts vi vt) {vt' : Value} {ts' : List Tok} (hg : w.grownBy w' vt.ownBlock) (ho : w'.ownsRow B 130 4 vt' ts'.length (ts'.flatMap tokc)) : TkR w' B r ind ts' vi vt' :=
 ⟨h.blk.grown hg (fun e => own_blk_ne h.ot h.blk (by decide) e.symm),h.ge,h.oi.kept hg (rows_ne h.oi h.ot (by decide)),ho⟩
theorem TkR.growI (h : TkR w B r ind ts vi vt) {vi' : Value} {ind' : List Nat} (hg : w.grownBy w' vi.ownBlock) (ho : w'.ownsRow B 3 1 vi' ind'.length (intc ind'.reverse)) : TkR w' B r ind' ts vi' vt :=
 ⟨h.blk.grown hg (fun e => own_blk_ne h.oi h.blk (by decide) e.symm),h.ge,ho,h.ot.kept hg (rows_ne h.ot h.oi (by decide))⟩
theorem TkR.popI {c : Nat} (h : TkR w B r (c :: ind) ts vi vt) : ∃ gg cap,vi = .slice (some ⟨gg,0,none⟩) (ind.length + 1) cap∧TkR w B r ind ts (.slice (some ⟨gg,0,none⟩) ind.length cap) vt∧ind.length + 1 ≤ cap∧cap ≤ maxLen∧w.cell? ⟨gg,ind.length,none⟩ = some (.int .i64 (c:Int)):=by
 have h2:=h.oi;rw [intc_rev] at h2;obtain ⟨gg,cap,rfl,h3,h4,h5⟩:=own_pop (n:=ind.length) (by rw [intc_len]; simp) h2;refine ⟨gg,cap,rfl,⟨h.blk,h.ge,h3,h.ot⟩,h4,h5,?_⟩;obtain ⟨b0,o0,e0,hb0,hc0⟩:=(Row.of_own h.oi).at_ (k:=ind.length) (by rw [intc_rev,List.length_append,intc_len]; simp);injection e0 with e0;injection e0 with e1 e2 e3;subst e1 e2;have hcc:=hc0 ind.length (.int .i64 (c:Int)) (by rw [intc_rev,List.getElem?_append_right (by rw [intc_len]; simp),intc_len]; simp)
 rwa [Nat.zero_add] at hcc
end
def AtPost (a : World) (r:Nat) (ind : List Nat) (ts : List Tok) (vi : Value) (e : Ending) (w' : World) : Prop :=
 ∃ v',e = .returned v'∧TkR w' a.heap.size r ind ts vi v'∧Below a.heap.size a w'
def AtPostK (a w : World) (r:Nat) (ind : List Nat) (ts : List Tok) (vi : Value) (e : Ending) (w' : World) : Prop :=
 ∃ v',e = .returned v'∧TkR w' a.heap.size r ind ts vi v'∧Below a.heap.size a w'∧∀ g t cs,t ≠ 130 → Blk w g t cs → Blk w' g t cs
theorem addT_any {cs : List (List UInt8)} (h : ∀ c ∈ cs,Chr c) {l : List UInt8} (hcl : cs.flatten = l) (hl : l.length ≤ 16000) {a w : World} {r : Nat} {ind : List Nat} {ts : List Tok} {vi vt : Value} (hR : TkR w a.heap.size r ind ts vi vt) (hb : Below a.heap.size a w) (hT : Tabs a)
  (hts : ts.length ≤ 1000000) {i : Nat} (hi : Beg cs i) (k:Int) (e:Nat) (he : i ≤ e) (hel : e ≤ l.length) (x:Int) (hx : x = (e:Int)) :
  Calls Tryz.prog 127 #[vt,.string ⟨l.toArray⟩,.int .i64 k,.int .i64 (i:Int),.int .i64 x] w (AtPostK a w r ind (ts ++ [tokAt l k ((l.drop i).take (e - i)) i]) vi):=by
 subst hx;obtain ⟨j,hj,hij⟩:=hi;refine (added_any cs h j hj l hcl i hij w hl (hT.keepB hb) a.heap.size vt ts hR.ot hb.size hts k e he hel).mono ?_;rintro _ w' ⟨v',rfl,hown,w1,hb1,hg⟩;exact ⟨v',rfl,(hR.belowS hb1).growT hg hown,(below_then hb hb1 hb.size).grown hg (Nat.le_trans hb.size hb1.size) (fun g e => ((hR.belowS hb1).ot.lt g e).1),fun g t cs ht hB => (hB.belowS hb1).grown hg (fun e => own_blk_ne (hR.belowS hb1).ot (hB.belowS hb1) (fun e => ht e.symm) e.symm)⟩
theorem addE_any {cs : List (List UInt8)} (h : ∀ c ∈ cs,Chr c) {l : List UInt8} (hcl : cs.flatten = l) (hl : l.length ≤ 16000) {a w : World} {r : Nat} {ind : List Nat} {ts : List Tok} {vi vt : Value} (hR : TkR w a.heap.size r ind ts vi vt) (hb : Below a.heap.size a w) (hT : Tabs a)
  (hts : ts.length ≤ 1000000) {i : Nat} (hi : Beg cs i) (k:Int) (hel : i ≤ l.length) :
  Calls Tryz.prog 127 #[vt,.string ⟨l.toArray⟩,.int .i64 k,.int .i64 (i:Int),.int .i64 (i:Int)] w (AtPost a r ind (ts ++ [tokAt l k [] i]) vi):=by
 have h:=addT_any h hcl hl hR hb hT hts hi k i (Nat.le_refl _) hel (i:Int) rfl;rw [show (l.drop i).take (i - i) = [] by rw [Nat.sub_self]; rfl] at h;exact h.mono fun _ _ ⟨v,h1,h2,h3,_⟩ => ⟨v,h1,h2,h3⟩
def TRel (a : World) (r:Nat) (cs : List (List UInt8)) (l : List UInt8) (R : Except (Int × Int) (List Tok)) (vt vi vo vs vb vx : Value) (wr : World) : Prop :=
 ∃ (s : Scn) (f:Nat),TkR wr a.heap.size r s.ind s.toks vi vt∧Below a.heap.size a wr∧SInv l s∧Beg cs s.at_∧OpOk s.op∧vo = opStr s.op∧vs = .bool (!s.fresh)∧vb = .int .i64 ((bol l s.at_:Nat):Int)∧vx = .int .i64 ((s.at_:Nat):Int)∧l.length < f + s.at_∧scanF l f s = R
def CRelT (a : World) (r:Nat) (l : List UInt8) (i x:Nat) (ind0 : List Nat) (T : List Tok) (vi vt v : Value) (w' : World) : Prop :=
 ∃ (k:Nat),k ≤ ind0.length∧v = .int .i64 ((k:Int) + 1)∧TkR w' a.heap.size r (x :: ind0) (T ++ List.replicate k (tokAt l 3 [] i)) vi vt∧Below a.heap.size a w'
def IRelT (a : World) (r:Nat) (l : List UInt8) (i W:Nat) (T : List Tok) (D : List Nat × Nat) (vt vi : Value) (w' : World) : Prop :=
 ∃ (indc : List Nat) (j:Nat),TkR w' a.heap.size r indc (T ++ List.replicate j (tokAt l 3 [] i)) vi vt∧Below a.heap.size a w'∧W ∈ indc∧(∀ y ∈ indc,y ≤ 100000)∧indc.length + j ≤ 100000∧D = ((dedent W indc).1,(dedent W indc).2 + j)
theorem take_contains (xs : List Nat) (k y W:Nat) (h : xs[k]? = some y) : (xs.take (k + 1)).contains W = ((xs.take k).contains W || (y == W)):=by
 rw [Bool.eq_iff_iff,List.take_add_one,h];simp only [List.contains_iff_mem,List.mem_append,Option.toList_some,List.mem_singleton,Bool.or_eq_true,beq_iff_eq];exact ⟨fun e => e.imp_right Eq.symm,fun e => e.imp_right Eq.symm⟩
def lenW : Value → Nat
 | .slice _ n _ => n
 | _ => 0
theorem beg_stepL {cs : List (List UInt8)} (h : ∀ c ∈ cs,Chr c) {l : List UInt8} (hcl : cs.flatten = l) {s s' : Scn} (hi : Beg cs s.at_) (hs : stepS l s = .more s') : Beg cs s'.at_:=by
 subst hcl;exact beg_step h hi hs
theorem ScPost.errT {w w' : World} {R : Except (Int × Int) (List Tok)} {c i j : Int} (hR : R = .error (c,i)) (hj : j = i) (hb : Below w.heap.size w w') : ScPost w R (.returned (.tuple #[.slice none 0 0,.agg #[.int .i64 c,.int .i64 j]])) w':=by
 subst hR hj;exact ⟨hb,rfl⟩
theorem ScPost.okT {w w' : World} {R : Except (Int × Int) (List Tok)} {ts : List Tok} {v : Value} (hR : R = .ok ts) (hb : Below w.heap.size w w') (ho : w'.ownsRow w.heap.size 130 4 v ts.length (ts.flatMap tokc)) : ScPost w R (.returned (.tuple #[v,.agg #[.int .i64 0,.int .i64 0]])) w':=by
 subst hR;exact ⟨hb,v,rfl,ho⟩
end
section
open Go.RowKit Go.Shelf Go.Lib Go.Maps
theorem blkL_is (c : UInt8) : ([32] : List UInt8).contains c = isBlk c:=by
 have:=byte_all (fun c => ([32] : List UInt8).contains c == isBlk c) (by decide +kernel) c;simpa using this
def isHash (c : UInt8) : Bool:=c == 35
theorem hashL_is (c : UInt8) : ([35] : List UInt8).contains c = isHash c:=by
 have:=byte_all (fun c => ([35] : List UInt8).contains c == isHash c) (by decide +kernel) c;simpa using this
theorem blank_any (l : List UInt8) (i:Nat) (w : World) (hl : l.length ≤ 16000) (hi : i ≤ l.length) :
  Calls Tryz.prog 126 #[.string ⟨l.toArray⟩,.int .i64 (i:Int)] w fun e w' => e = .returned (.int .i64 ((i + skipLen (l.drop i):Nat):Int))∧w = w':=by
 obtain ⟨n,hn⟩ : ∃ n,span isBlk (l.drop i) = n:=⟨_,rfl⟩;obtain ⟨m,hm⟩ : ∃ m,i + n = m:=⟨_,rfl⟩;have hle:=span_drop_le isBlk l i hi;rw [hn,hm] at hle;have hsk : i + skipLen (l.drop i) = if at0 l m = 35 then m + span inLn (l.drop m) else m:=by
  unfold skipLen;rw [hn,at0_drop,hm,List.drop_drop,hm];split <;> omega
 have HSK:=hid hsk;have HRUN:=hid (fun W => run_any isBlk [32] blkL_is l i (i:Int) rfl W hl (by omega));have HM:=hid (show i + span isBlk (l.drop i) = m by rw [hn]; exact hm);obtain ⟨R,hR⟩ : ∃ R,i + skipLen (l.drop i) = R:=⟨_,rfl⟩;rw [hR];have HR:=hid hR;clear hsk hn hm hR;cases hh : isHash (at0 l m)
 ·have HH:=hid hh;have hfin : m = R:=by
   rw [← HR.out,HSK.out,if_neg (by intro e; rw [e] at hh; exact absurd hh (by decide))]
  have HF:=hid hfin;clear hh hfin;go_enter Tryz.func126,Tryz.ntmps126;go_wp2_with fail;refine (HRUN.out _).mono ?_;rintro e w1 ⟨rfl,rfl⟩;rw [HM.out];go_wp2_with fail;refine (hasp_any isHash [35] hashL_is rfl l m (m:Int) rfl false HH.out _ hl (by omega)).mono ?_;rintro e w1 ⟨rfl,rfl⟩;go_wp2_with fail;go_ret;exact ⟨ret_int (by have:=HF.out; omega),rfl⟩
 ·have HH:=hid hh;have hfin : m + span inLn (l.drop m) = R:=by
   rw [← HR.out,HSK.out,if_pos (by simpa [isHash] using hh)]
  have HF:=hid hfin;clear hh hfin;go_enter Tryz.func126,Tryz.ntmps126;go_wp2_with fail;refine (HRUN.out _).mono ?_;rintro e w1 ⟨rfl,rfl⟩;rw [HM.out];go_wp2_with fail;refine (hasp_any isHash [35] hashL_is rfl l m (m:Int) rfl true HH.out _ hl (by omega)).mono ?_;rintro e w1 ⟨rfl,rfl⟩;go_wp2_with fail
  go_loop [1] (fun v => ∃ j : Nat,m ≤ j∧j ≤ l.length∧v = .int .i64 (j:Int)∧Hid (j + span inLn (l.drop j) = R)) (fun v => 40000 - (RowKit.intOf v).toNat)
  case atStart => exact ⟨m,Nat.le_refl _,hle,rfl,HF⟩
  case round =>
   obtain ⟨j,hmj,hj,rfl,HS⟩:=hrel
   by_cases hlt : j < l.length
   ·have hix:=run_idx l j hlt (j:Int) rfl;have c1 : decide ((j:Int) < (l.length:Int)) = true:=decide_eq_true (by omega);have hsp:=span_at inLn l j hlt
    by_cases h10 : at0 l j = 10
    ·rw [h10] at hix;rw [h10,show inLn 10 = false from by decide,if_neg (by decide)] at hsp;have HJ : Hid (j = R):=hid (by have:=HS.out; rw [hsp] at this; omega);clear hsp h10;go_wp2_with fail;go_ret;exact ⟨ret_int (by have:=HJ.out; omega),rfl⟩
    ·have c2 : (((at0 l j).toNat:Int) != 10) = true:=(by rw [bne_iff_ne]; intro e; exact h10 (UInt8.toNat_inj.1 (by show (at0 l j).toNat = 10; omega)));rw [show inLn (at0 l j) = true from by unfold inLn; rw [bne_iff_ne]; exact h10,if_pos rfl] at hsp;have HN : Hid (j + 1 + span inLn (l.drop (j + 1)) = R):=hid (by have:=HS.out; rw [hsp] at this; omega);clear hsp h10;go_wp2_with fail
     go_round
     case rel => exact ⟨j + 1,by omega,by omega,by go_num,HN⟩
     case measure => simp [RowKit.intOf]; omega
   ·have c1 : decide ((j:Int) < (l.length:Int)) = false:=decide_eq_false (by omega);have HJ : Hid (j = R):=hid (by have:=HS.out; rw [span_end inLn l j (by omega)] at this; omega);go_wp2_with fail;go_ret;exact ⟨ret_int (by have:=HJ.out; omega),rfl⟩
theorem tokens_flt (l : List UInt8) (w : World) (hl : l.length ≤ 9223372036854775807) (hT : Tabs w) (c i:Int) (hs : sfault l = (c,i)) (hc : c ≠ 0) :
  Calls Tryz.prog 91 #[.string ⟨l.toArray⟩] w (ScPost w (.error (c,i))):=by
 have hb0:=(Below.refl w.heap.size w).alloc (Nat.le_refl _) (.cells #[.int .i64 0,.int .i64 0] 29);have hP:=Blk.new w 29 #[.int .i64 0,.int .i64 0];have hT1:=hT.keepB hb0;have HZ:=hid hs;have hcb : (c != 0) = true:=by simpa using hc
 clear hs hc hT;go_enter Tryz.func91,Tryz.ntmps91;go_wp2_with fail;refine (sourceFault_any l _ hl hT1).mono ?_;rintro e w1 ⟨rfl,hb1⟩;rw [HZ.out];have hP1:=hP.belowS hb1;have hb:=below_then hb0 hb1 (by simp);clear hP hb0 hb1 hT1;obtain ⟨q1,q2,q3⟩:=hP1.rules;unfold flt;go_wp2_with fail;go_region
 all_goals go_wp2_with fail
 have hbs:=(hb.setCell (p:=⟨w.heap.size,0,none⟩) (Nat.le_refl _) (.int .i64 c)).setCell (p:=⟨w.heap.size,1,none⟩) (Nat.le_refl _) (.int .i64 i)
 all_goals exact ret_tmp_blk rfl rfl ((((hP1.set_ 0 (.int .i64 c)).set_ 1 (.int .i64 i)).alloc _).drew) _ Tryz.underlying29 rfl (by kernel_rfl) rfl _ rfl (ScPost.errT rfl rfl ((hbs.alloc hbs.size _).drew))
end
end Go.Proofs.YtonehlkiackhcaaGreatDoor