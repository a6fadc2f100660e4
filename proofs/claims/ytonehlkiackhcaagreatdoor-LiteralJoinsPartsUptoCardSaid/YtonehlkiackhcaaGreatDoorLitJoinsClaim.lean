/-
  For every list of parts of bulk at most 1048576: the law LiteralJoinsParts returns true and leaves its argument as it was. The library's listed variables are tied to the program's text.
-/
import Derived.Test.YtonehlkiackhcaaGreatDoorOpenAt
import Derived.Test.YtonehlkiackhcaaGreatDoorCards
import Derived.Test.YtonehlkiackhcaaGreatDoorTie
import Derived.Lay
import Derived.LaidMore
import Derived.Lib.LaidU8T
import Derived.Lib.LaidCase
import Derived.Stop.LaidErr
import Derived.Deep.DeepHandedRow
set_option linter.unusedVariables false
set_option linter.unusedSimpArgs false
set_option maxRecDepth 100000
set_option maxHeartbeats 16000000
namespace Go.Proofs.YtonehlkiackhcaaGreatDoor.literalJoinsParts
open Go.ChangeShapes Go.WideShapes Go.ChangeAt Go.RowKit Go.ChangeMaps Go.Lib
theorem own : ownKnob Tryz.prog.godebug = none:=by kernel_rfl
theorem laidOut : laidOutB Tryz.prog = true:=by kernel_rfl
theorem gTab : Tryz.prog.globalNamed "strings.asciiSpace" = some 3:=by kernel_rfl
theorem gTabType : (Tryz.prog.globals[3]?).map (·.type) = some 160:=by kernel_rfl
theorem cellsTab : Tryz.prog.cellsOf 160 = 256:=by kernel_rfl
theorem cellsByte : Tryz.prog.cellsOf 5 = 1:=by kernel_rfl
theorem laidEq : Rows.literalJoinsPartsUptoRow.laid = [("math/bits.deBruijn32tab",Rows.laid_math_bits_deBruijn32tab),("math/bits.deBruijn64tab",Rows.laid_math_bits_deBruijn64tab),("internal/strconv.uint64pow10",Lib.tabData .u64 Lib.pow10Tab),("unicode/utf8.acceptRanges",Lib.acceptData),("strconv.ErrRange",Rows.laid_strconv_ErrRange),("strconv.ErrSyntax",Rows.laid_strconv_ErrSyntax),("unicode.White_Space",Rows.laid_unicode_White_Space),("strings.asciiSpace",Lib.tabData .u8 Lib.asciiSpaceTab),("unicode.CaseRanges",Lib.caseData),("unicode/utf8.first",Lib.firstData)]:=by kernel_rfl
theorem star : "*" ++ "errors.errorString" = "*errors.errorString":=by decide
theorem rowErr (u : TypeId) (h : Tryz.prog.typeName? 3 u = some "*errors.errorString") : u = 298 :=
 typeName_ptr_named (nm:= "errors.errorString") (by rw [star]; kernel_rfl) (by kernel_rfl) (by decide) u (by rw [star]; exact h)
theorem errC {n : String} {text : List UInt8} {r : List (String × DataW Unit)} {W : World} {g : Nat} (h : laidMet Tryz.prog ((n,.iface "*errors.errorString" (.ptr (.agg [.lit (.string text)]))) :: r) W) (hg : Tryz.prog.globalNamed n = some g) (ht : (Tryz.prog.globals[g]?).map (·.type) = some 101) : ErrC W g:=by
 obtain ⟨a,sa,hv,_,_,_⟩:=laid_sentinel h hg ht Tryz.underlying101 rowErr Tryz.underlying298 Tryz.underlying300 rfl rfl Tryz.underlying9 (by kernel_rfl) (by kernel_rfl);exact ⟨_,(World.var?_cell hg hv 0).trans rfl,.inr ⟨_,_,rfl⟩⟩
theorem plainLaid (w : World) : laidMetH Tryz.prog Rows.literalJoinsPartsUptoRow.laid w = laidMet Tryz.prog Rows.literalJoinsPartsUptoRow.laid w:=MakeChecks.laidMetH_plain _ _ _ (by kernel_rfl)
theorem env {W : World} (hL : laidMetH Tryz.prog Rows.literalJoinsPartsUptoRow.laid W) (hsh : W.ShapedOpen Tryz.prog) : REnv W∧Lib.TabIs Tryz.prog W "internal/strconv.uint64pow10" .u64 Lib.pow10Tab:=by
 rw [plainLaid,laidEq] at hL;obtain ⟨m,hm⟩:=Go.Proofs.cell_of_shapedOpen_int (g:=2) (zero:=#[.int .i64 0]) (t:=3) hsh (of_decide_eq_true (by kernel_rfl)) (by kernel_rfl) rfl (by kernel_rfl) (by kernel_rfl) Tryz.underlying3;have hT : Tabs W:=utf8Tabs_of_readsT (ρ:=Tryz.lays197_ren) ⟨Tryz.underlying5,Tryz.underlying160,Tryz.underlying162,Tryz.underlying163⟩ ⟨by kernel_rfl,by kernel_rfl,by kernel_rfl,by kernel_rfl,by kernel_rfl,by kernel_rfl,by kernel_rfl⟩
  (Lib.laidMet.reads hL (by simp)) (Lib.laidMet.reads hL (by simp))
 have hS:=Lib.tabIs_of_head (rest:=[("unicode.CaseRanges",Lib.caseData),("unicode/utf8.first",Lib.firstData)]) gTab gTabType Tryz.underlying160 Tryz.underlying5 cellsByte cellsTab hL.tail.tail.tail.tail.tail.tail.tail;have hP : Lib.TabIs Tryz.prog W "internal/strconv.uint64pow10" .u64 Lib.pow10Tab:=Lib.tabIs_of_head (g:=4) (by kernel_rfl) (by kernel_rfl) Tryz.underlying261 Tryz.underlying164 (by kernel_rfl) (by kernel_rfl) hL.tail.tail;have hC : CaseVar 8 caseA W:=caseVar_of_reads (ρ:=Tryz.lays159_ren) { Tryz.lays159 with } Tryz.lays159.t206 ⟨by kernel_rfl,by kernel_rfl,by kernel_rfl,by kernel_rfl,by kernel_rfl,by kernel_rfl⟩ (Lib.laidMet.reads hL (by simp));exact ⟨⟨⟨⟨⟨hT,hS⟩,⟨hT,errC hL.tail.tail.tail.tail.tail (by kernel_rfl) (by kernel_rfl),errC hL.tail.tail.tail.tail (by kernel_rfl) (by kernel_rfl)⟩⟩,hC⟩,⟨m,hm⟩⟩,hP⟩
theorem bulk_one {H : Type} (d : DataW H) : 1 ≤ Rows.uptoBulk d:=by
 cases d with
 | lit x => cases x <;> simp [Rows.uptoBulk]
 | _ => simp [Rows.uptoBulk]
theorem bulk_slice {H : Type} {l s : List (DataW H)} {n : Nat} (h : Rows.uptoBulkAll (H:=H) ([.slice l s] ++ []) ≤ n) : Rows.uptoBulkAll l + 1 ≤ n:=by
 simp only [List.append_nil,Rows.uptoBulkAll,Rows.uptoBulk] at h;omega
theorem bulk_sum {H : Type} : ∀ (ps : List Prt) (L : List (DataW H)),ps.length = L.length → (∀ i (h : i < ps.length) (h' : i < L.length),ps[i].text.length + ps[i].spec.length + 5 ≤ Rows.uptoBulk L[i]) → partBulk ps ≤ Rows.uptoBulkAll L
 | [],[],_,_ => by simp [partBulk]
 | p :: ps,d :: L,hl,h => by
  have h0:=h 0 (by simp) (by simp);have h1:=bulk_sum ps L (by simpa using hl) (fun i hi hi' => h (i + 1) (Nat.succ_lt_succ hi) (Nat.succ_lt_succ hi'));simp only [List.getElem_cons_zero] at h0;show (p.text.length + p.spec.length + 5) + partBulk ps ≤ _;simp only [Rows.uptoBulkAll];omega
theorem bulk_part {H : Type} {ys : List (DataW H × List MemPlace)} {y0 y1 y2 y3 : DataW H × List MemPlace} {tx sz : List UInt8} (h0 : ys[0]? = some y0) (h1 : ys[1]? = some y1) (h2 : ys[2]? = some y2) (h3 : ys[3]? = some y3) (e1 : y1.1 = .lit (.string tx)) (e3 : y3.1 = .lit (.string sz)) : tx.length + sz.length + 5 ≤ Rows.uptoBulk (H:=H) (.agg (ys.map (·.1))):=by
 match ys,h0,h1,h2,h3 with
 | a :: b :: c :: d :: r,h0,h1,h2,h3 =>
  simp at h0 h1 h2 h3;subst h0 h1 h2 h3;have g0:=bulk_one a.1;have g2:=bulk_one c.1;simp only [List.map_cons,Rows.uptoBulk,Rows.uptoBulkAll,e1,e3];omega
theorem partBulk_mem : ∀ {ps : List Prt} {p : Prt},p ∈ ps → p.text.length + p.spec.length + 5 ≤ partBulk ps
 | q :: ps,p,h => by
  show _ ≤ (q.text.length + q.spec.length + 5) + partBulk ps;rcases List.mem_cons.1 h with rfl | h
  ·omega
  ·have:=partBulk_mem h;omega
theorem partBulk_len : ∀ (ps : List Prt),5 * ps.length ≤ partBulk ps
 | [] => by simp [partBulk]
 | q :: ps => by
  have:=partBulk_len ps;show _ ≤ (q.text.length + q.spec.length + 5) + partBulk ps;rw [List.length_cons];omega
noncomputable def start (os : Os) : World:=(World.laidAll Tryz.prog os Rows.literalJoinsPartsUptoRow.laid).forCall (fun _ _ => 0) ⟨#[],#[.slice none 0 0],[]⟩
theorem startShaped (os : Os) : (start os).Shaped Tryz.prog:=World.shaped_of_ZipB (by kernel_rfl) (by kernel_rfl)
theorem startOk (os : Os) : Input.okWideB Tryz.prog (start os) 6 ⟨#[],#[.slice none 0 0],[]⟩ = true:=by kernel_rfl
theorem startLaid (os : Os) : laidMet Tryz.prog Rows.literalJoinsPartsUptoRow.laid (start os).memory:=laidMet_laidAll _ (by kernel_rfl) (by kernel_rfl)
theorem reads (os : Os) {H : Type} (enc : TypeId × Value → H) : ∃ places,DataW.whole enc Tryz.prog (start os).memory Tryz.f6.params.toList Rows.literalJoinsPartsSpec.vars false #[Value.slice none 0 0].toList 8 = some ([.nil],[],places) :=
 ⟨[],by kernel_rfl⟩
theorem lifted (os : Os) (started : os.Started) (H : Type) (enc : TypeId × Value → H) (F : Stop.Interp) :
  ReturnsInHanded {} Tryz.checked os 6 .any ((Rows.OpenSpec.upto Rows.literalJoinsPartsSpec).preRow enc Tryz.prog Tryz.f6 Rows.literalJoinsPartsUptoRow.domain false Rows.literalJoinsPartsUptoRow.laid) (((Rows.OpenSpec.upto Rows.literalJoinsPartsSpec).at F).post enc Tryz.prog Tryz.f6 false true false false):=by
 obtain ⟨places,hx⟩:=reads os enc;refine returnsInHanded_of_row (C:=Tryz.checked) (s:=Rows.OpenSpec.upto Rows.literalJoinsPartsSpec) own started (by kernel_rfl) Tryz.func6
  ⟨World.laidAll Tryz.prog os Rows.literalJoinsPartsUptoRow.laid,fun _ _ => 0,⟨#[],#[.slice none 0 0],[]⟩,World.laidAll_os _ _ _,startShaped os,rfl,(Input.okWide_of_okWideB (startOk os)).2,
   OpenSpec.preRow_of_cond 8 hx (by kernel_rfl) (fun k hk => by cases hk; kernel_rfl) (by kernel_rfl) ((plainLaid (start os).memory).symm ▸ startLaid os),by simp [Assume.holds]⟩ ?_
 intro W base args ds gs before hval0 hW _ hcond _ hL hsh _;have hval : ∀ (j:Nat) t v,Tryz.f6.params[j]? = some t → args[j]? = some v → Value.okWide Tryz.prog W .any base t v:=hval0;have hE:=env hL hsh;have hW':=hW;obtain ⟨p,q,hA0,hV,rfl,hfz,hnd⟩:=hW;have hA : DataW.TrodAll enc Tryz.prog W 0 (fun _ => true) true Tryz.f6.params.toList args.toList ds p:=hA0;rw [Tryz.params6] at hA hval;obtain ⟨v0,vs0,d0,ds0,p0,q0,hargs,rfl,rfl,h0,r0⟩:=trodAll_cons hA;obtain ⟨rfl,rfl,rfl⟩:=trodAll_nil r0;obtain rfl : args = #[v0]:=by cases args; simp_all
 obtain ⟨rfl,rfl⟩:=trodVars_none hV;obtain ⟨a0,len0,cap0,rfl⟩:=okWide_slice Tryz.underlying37 (hval 0 37 v0 rfl rfl);have k0:=h0;have lt0 : ∀ x ∈ p0,x.block < W.heap.size:=by obtain ⟨m,hm⟩:=k0; exact DataW.trod_lt m _ _ _ hm
 have hk' : Rows.uptoBulkAll (H:=H) _ ≤ 1048576:=of_decide_eq_true (hcond _ rfl);obtain ⟨l,hl,hm,hrow⟩ : ∃ l : List Prt,l.length = len0∧partBulk l ≤ 1048575∧Row W a0 (l.flatMap prtc):=by
  obtain ⟨fuel,hf⟩:=h0;rcases open_slice_fields Tryz.underlying37 Tryz.underlying91 (by kernel_rfl) (by kernel_rfl) hf with ⟨hcs,_⟩ | ⟨x,len,cap,m,D,Pl,hcs,hbb,hl,hm,hmm,hd0,hi⟩
  ·simp [Value.cells] at hcs;obtain ⟨rfl,rfl,rfl⟩:=hcs;exact ⟨[],rfl,by simp [partBulk],.inl rfl⟩
  ·simp [Value.cells] at hcs;obtain ⟨rfl,rfl,rfl⟩:=hcs;have hmn : len0 ≤ m:=(by rw [hmm]; split <;> omega);simp only [Prod.mk.injEq] at hd0;obtain ⟨rfl,rfl⟩:=hd0;have hbulk:=bulk_slice hk'
   obtain ⟨l, h1, h2, h3⟩ := row_of_cells_at (n := len0) prtc 4 (fun _ => rfl) (by omega) (fun i (p : Prt) => p.text.length + p.spec.length + 5 ≤ Rows.uptoBulk (D i)) (a := x) (w := W) (fun hn => by --
       obtain ⟨ys,n,_,_,_,hf⟩:=hi 0 (by omega)
       obtain ⟨v,y,hcell,_⟩:=hf 0 _ rfl
       have:=World.block_lt_of_cell? W _ hcell
       rwa [add_block] at this) (fun i hi' => by
     obtain ⟨ys,n,hD,_,hyl,hf⟩:=hi i (by omega)
     obtain ⟨u0,y0,hc0,hy0,ht0⟩:=hf 0 _ rfl
     obtain ⟨u1,y1,hc1,hy1,ht1⟩:=hf 1 _ rfl
     obtain ⟨u2,y2,hc2,hy2,ht2⟩:=hf 2 _ rfl
     obtain ⟨u3,y3,hc3,hy3,ht3⟩:=hf 3 _ rfl
     obtain ⟨z0,e0,_,_⟩:=DataW.trod_bool Tryz.underlying4 ht0
     obtain ⟨z1,e1,g1,_⟩:=DataW.trod_string Tryz.underlying9 ht1
     obtain ⟨z2,e2,_,_⟩:=DataW.trod_int Tryz.underlying3 ht2
     obtain ⟨z3,e3,g3,_⟩:=DataW.trod_string Tryz.underlying9 ht3
     simp at e0 e1 e2 e3
     subst e0
     subst e1
     subst e2
     subst e3
     obtain ⟨⟨tx⟩⟩:=z1
     obtain ⟨⟨sz⟩⟩:=z3
     refine ⟨⟨z0,tx,z2,sz⟩,?_,fun j u hu => ?_⟩
     · rw [hD]
       exact bulk_part hy0 hy1 hy2 hy3 (by rw [g1]) (by rw [g3])
     · match j,hu with
       | 0,hu => simp [prtc] at hu; subst hu; exact hc0
       | 1,hu => simp [prtc] at hu; subst hu; exact hc1
       | 2,hu => simp [prtc] at hu; subst hu; exact hc2
       | 3,hu => simp [prtc] at hu; subst hu; exact hc3)
   refine ⟨l,h1,?_,h3⟩;have hs:=bulk_sum l ((List.range len0).map D) (by simp [h1]) (fun i hi hi' => by simpa using h2 i hi);omega
 subst hl;clear hA0 hval0 hk';refine (joinsLaw_lit a0 cap0 l W (by have:=partBulk_len l; omega) (by have:=joinL_bulk l; omega) (fun p hp => by have:=partBulk_mem hp; omega) hrow hE.1 hE.2).mono fun e W' ⟨he,bel⟩ => ?_;subst he;exact ⟨_,rfl,_,_,_,[],_,[],hW',trodAll_mk1 (shut_bool Tryz.underlying4 _),trodAll_cons_mk (Below.trod laidOut (by kernel_rfl) (of_decide_eq_true (by kernel_rfl)) k0 bel lt0) trodAll_mk0,rfl,bel.frame _,fun h => by cases h⟩
theorem closed : joinedFacts Tryz.prog 6 Tryz.f6 (Rows.OpenSpec.upto Rows.literalJoinsPartsSpec).bare Rows.literalJoinsPartsUptoRow = true:=by
 unfold joinedFacts
 repeat' (with_reducible refine Bool.and_eq_true_iff.2 ⟨?_,?_⟩)
 all_goals (as_aux_lemma => kernel_rfl)
theorem said : Rows.LiteralJoinsPartsUptoSaid :=
 OpenClaim.holds_of_cond 6 Tryz.f6 rfl rfl rfl rfl rfl rfl rfl ⟨rfl,rfl,rfl,rfl,rfl⟩ rfl rfl rfl rfl rfl (by as_aux_lemma => kernel_rfl) Tryz.func6 closed
  (of_decide_eq_true (by as_aux_lemma => kernel_rfl)) (by as_aux_lemma => unfold Func.isWrapper; first | (rw [if_pos (by decide +kernel)]; kernel_rfl) | (rw [if_neg (by decide +kernel)]; exact ⟨rfl,rfl⟩))
  (fun os started H enc _ F => by rw [OpenClaim.pre_eq_preRow]; exact lifted os started H enc F)
theorem plain (f : FuncId) (fn : Func) (hf : Tryz.pinned.checked.prog.funcNamed "brindlewood/brindlewoodlaw1.LiteralJoinsParts" = some f) (hfn : Tryz.pinned.checked.prog.funcs[f]? = some fn) :
  true = Tryz.pinned.checked.prog.looks []∧∀ (j:Nat) t,fn.params[j]? = some t → Tryz.pinned.checked.prog.wantsStandIn t = false:=by
 obtain rfl : f = 6:=Option.some.inj ((show Tryz.prog.funcNamed "brindlewood/brindlewoodlaw1.LiteralJoinsParts" = some 6 by kernel_rfl).symm.trans hf) |>.symm;obtain rfl : fn = Tryz.f6:=(Option.some.inj (Tryz.func6.symm.trans hfn)).symm;refine ⟨by kernel_rfl,fun j t ht => ?_⟩;rw [Tryz.params6] at ht;have hm : t ∈ [37]:=by simpa using Array.mem_of_getElem? ht
 have hall : ([37].all fun u => !Tryz.prog.wantsStandIn u) = true:=by kernel_rfl
 exact (show Tryz.prog.wantsStandIn t = false by simpa using List.all_eq_true.1 hall t hm)
theorem proved : Rows.LiteralJoinsPartsUptoCardSaid :=
 Claim7.holds_tied_plain_at .later [] _ _ _ _ said (fun _ h => by cases h) (by kernel_rfl) (fun _ h => by cases h) literalJoinsPartsUpto_row_tie rfl ⟨rfl,rfl⟩ (by kernel_rfl) rfl plain (by kernel_rfl)
#print axioms proved
end Go.Proofs.YtonehlkiackhcaaGreatDoor.literalJoinsParts
