/-
  For every text: the law LiteralReadsConstants returns true and leaves its argument as it was. No condition; the library's listed variables are tied to the program's text.
-/
import Derived.Test.YtonehlkiackhcaaGreatDoorOpen
import Derived.Test.YtonehlkiackhcaaGreatDoorCards
import Derived.Test.YtonehlkiackhcaaGreatDoorTie
import Derived.ChangeOld
import Derived.ChangeMaps5
import Derived.Lay
import Derived.LaidMore
import Derived.Lib.LaidTab
import Derived.Lib.LaidU8T
import Derived.Lib.LaidCase
import Derived.LaidLaws
import Derived.Stop.LaidErr
import Derived.Deep.DeepHandedRow
import Derived.Shelf.Vars
import Derived.SevenTiedAt
set_option linter.unusedVariables false
set_option maxRecDepth 100000
set_option maxHeartbeats 16000000
namespace Go.Proofs.YtonehlkiackhcaaGreatDoor.literalReadsConstants
open Go.ChangeShapes Go.WideShapes Go.ChangeAt Go.RowKit Go.ChangeMaps Go.Lib
theorem own : ownKnob Tryz.prog.godebug = none:=by kernel_rfl
theorem gTab : Tryz.prog.globalNamed "strings.asciiSpace" = some 3:=by kernel_rfl
theorem gTabType : (Tryz.prog.globals[3]?).map (·.type) = some 160:=by kernel_rfl
theorem cellsTab : Tryz.prog.cellsOf 160 = 256:=by kernel_rfl
theorem cellsByte : Tryz.prog.cellsOf 5 = 1:=by kernel_rfl
theorem laidEq : Rows.literalReadsConstantsRow.laid = [("math/bits.deBruijn32tab",Rows.laid_math_bits_deBruijn32tab),("math/bits.deBruijn64tab",Rows.laid_math_bits_deBruijn64tab),("internal/strconv.uint64pow10",Lib.tabData .u64 Lib.pow10Tab),("unicode/utf8.acceptRanges",Lib.acceptData),("strconv.ErrRange",Rows.laid_strconv_ErrRange),("strconv.ErrSyntax",Rows.laid_strconv_ErrSyntax),("unicode.White_Space",Rows.laid_unicode_White_Space),("strings.asciiSpace",Lib.tabData .u8 Lib.asciiSpaceTab),("unicode.CaseRanges",Lib.caseData),("unicode/utf8.first",Lib.firstData)]:=by kernel_rfl
theorem star : "*" ++ "errors.errorString" = "*errors.errorString":=by decide
theorem rowErr (u : TypeId) (h : Tryz.prog.typeName? 3 u = some "*errors.errorString") : u = 298 :=
 typeName_ptr_named (nm:= "errors.errorString") (by rw [star]; kernel_rfl) (by kernel_rfl) (by decide) u (by rw [star]; exact h)
theorem errC {n : String} {text : List UInt8} {r : List (String × DataW Unit)} {W : World} {g : Nat} (h : laidMet Tryz.prog ((n,.iface "*errors.errorString" (.ptr (.agg [.lit (.string text)]))) :: r) W) (hg : Tryz.prog.globalNamed n = some g) (ht : (Tryz.prog.globals[g]?).map (·.type) = some 101) : ErrC W g:=by
 obtain ⟨a,sa,hv,_,_,_⟩:=laid_sentinel h hg ht Tryz.underlying101 rowErr Tryz.underlying298 Tryz.underlying300 rfl rfl Tryz.underlying9 (by kernel_rfl) (by kernel_rfl);exact ⟨_,(World.var?_cell hg hv 0).trans rfl,.inr ⟨_,_,rfl⟩⟩
theorem plainLaid (w : World) : laidMetH Tryz.prog Rows.literalReadsConstantsRow.laid w = laidMet Tryz.prog Rows.literalReadsConstantsRow.laid w:=MakeChecks.laidMetH_plain _ _ _ (by kernel_rfl)
theorem env {W : World} (hL : laidMetH Tryz.prog Rows.literalReadsConstantsRow.laid W) (hsh : W.ShapedOpen Tryz.prog) : REnv W ∧ Lib.TabIs Tryz.prog W "internal/strconv.uint64pow10" .u64 Lib.pow10Tab:=by
 rw [plainLaid,laidEq] at hL;obtain ⟨m,hm⟩:=Go.Proofs.cell_of_shapedOpen_int (g:=2) (zero:=#[.int .i64 0]) (t:=3) hsh (of_decide_eq_true (by kernel_rfl)) (by kernel_rfl) rfl (by kernel_rfl) (by kernel_rfl) Tryz.underlying3;have hT : Tabs W:=utf8Tabs_of_readsT (ρ:=Tryz.lays197_ren) ⟨Tryz.underlying5,Tryz.underlying160,Tryz.underlying162,Tryz.underlying163⟩ ⟨by kernel_rfl,by kernel_rfl,by kernel_rfl,by kernel_rfl,by kernel_rfl,by kernel_rfl,by kernel_rfl⟩
  (Lib.laidMet.reads hL (by simp)) (Lib.laidMet.reads hL (by simp))
 have hS:=Lib.tabIs_of_head (rest:=[("unicode.CaseRanges",Lib.caseData),("unicode/utf8.first",Lib.firstData)]) gTab gTabType Tryz.underlying160 Tryz.underlying5 cellsByte cellsTab hL.tail.tail.tail.tail.tail.tail.tail;have hP : Lib.TabIs Tryz.prog W "internal/strconv.uint64pow10" .u64 Lib.pow10Tab:=Lib.tabIs_of_head (g:=4) (by kernel_rfl) (by kernel_rfl) Tryz.underlying261 Tryz.underlying164 (by kernel_rfl) (by kernel_rfl) hL.tail.tail;have hC : CaseVar 8 caseA W:=caseVar_of_reads (ρ:=Tryz.lays159_ren) { Tryz.lays159 with } Tryz.lays159.t206 ⟨by kernel_rfl,by kernel_rfl,by kernel_rfl,by kernel_rfl,by kernel_rfl,by kernel_rfl⟩ (Lib.laidMet.reads hL (by simp));exact ⟨⟨⟨⟨⟨hT,hS⟩,⟨hT,errC hL.tail.tail.tail.tail.tail (by kernel_rfl) (by kernel_rfl),errC hL.tail.tail.tail.tail (by kernel_rfl) (by kernel_rfl)⟩⟩,hC⟩,⟨m,hm⟩⟩,hP⟩
noncomputable def start (os : Os) : World:=(World.laidAll Tryz.prog os Rows.literalReadsConstantsRow.laid).forCall (fun _ _ => 0) ⟨#[],#[.string ⟨#[]⟩],[]⟩
theorem startShaped (os : Os) : (start os).Shaped Tryz.prog:=World.shaped_of_ZipB (by kernel_rfl) (by kernel_rfl)
theorem startOk (os : Os) : Input.okWideB Tryz.prog (start os) 4 ⟨#[],#[.string ⟨#[]⟩],[]⟩ = true:=by kernel_rfl
theorem startLaid (os : Os) : laidMet Tryz.prog Rows.literalReadsConstantsRow.laid (start os).memory:=laidMet_laidAll _ (by kernel_rfl) (by kernel_rfl)
theorem reads (os : Os) {H : Type} (enc : TypeId × Value → H) : ∃ places,DataW.whole enc Tryz.prog (start os).memory Tryz.f4.params.toList Rows.literalReadsConstantsSpec.vars false #[Value.string ⟨#[]⟩].toList 8 = some ([.lit (.string [])],[],places) :=
 ⟨[],by kernel_rfl⟩
theorem lifted (os : Os) (started : os.Started) (H : Type) (enc : TypeId × Value → H) (F : Stop.Interp) :
  ReturnsInHanded {} Tryz.checked os 4 .any ((OpenSpec.ofChange Rows.literalReadsConstantsSpec).preRow enc Tryz.prog Tryz.f4 Rows.literalReadsConstantsRow.domain false Rows.literalReadsConstantsRow.laid) (((OpenSpec.ofChange Rows.literalReadsConstantsSpec).at F).post enc Tryz.prog Tryz.f4 false true false false):=by
 obtain ⟨places,hx⟩:=reads os enc;refine returnsInHanded_of_row (C:=Tryz.checked) (s:=OpenSpec.ofChange Rows.literalReadsConstantsSpec) own started (by kernel_rfl) Tryz.func4
  ⟨World.laidAll Tryz.prog os Rows.literalReadsConstantsRow.laid,fun _ _ => 0,⟨#[],#[.string ⟨#[]⟩],[]⟩,World.laidAll_os _ _ _,startShaped os,rfl,(Input.okWide_of_okWideB (startOk os)).2,
   OpenSpec.preRow_of_cond 8 hx (by kernel_rfl) (fun k hk => by cases hk) (by kernel_rfl) ((plainLaid (start os).memory).symm ▸ startLaid os),by simp [Assume.holds]⟩ ?_
 intro W base args ds gs before hval0 hW _ _ _ hL hsh _;have hval : ∀ (j : Nat) t v,Tryz.f4.params[j]? = some t → args[j]? = some v → Value.okWide Tryz.prog W .any base t v:=hval0;have hE:=env hL hsh;have hW':=hW;obtain ⟨p,q,hA0,hV,rfl,hfz,hnd⟩:=hW;have hA : DataW.TrodAll enc Tryz.prog W 0 (fun _ => true) true Tryz.f4.params.toList args.toList ds p:=hA0;rw [Tryz.params4] at hA hval;obtain ⟨v0,vs0,d0,ds0,p0,q0,hargs,rfl,rfl,h0,r0⟩:=trodAll_cons hA;obtain ⟨rfl,rfl,rfl⟩:=trodAll_nil r0;obtain rfl : args = #[v0]:=by cases args; simp_all
 obtain ⟨rfl,rfl⟩:=trodVars_none hV;have k0:=hval 0 9 v0 rfl rfl;obtain ⟨s,rfl,rfl,rfl,ws⟩:=open_string Tryz.underlying9 k0 h0;clear hA0 hval0;unfold maxLen at ws;obtain ⟨⟨l⟩⟩:=s;refine (constsLaw_any l W (by simpa [ByteArray.size] using ws) hE.1 hE.2).mono fun e W' ⟨he,bel⟩ => ?_;subst he;exact ⟨_,rfl,_,_,_,[],_,[],hW',trodAll_mk1 (shut_bool Tryz.underlying4 _),trodAll_cons_mk (shut_string Tryz.underlying9 (by unfold maxLen; exact ws)) trodAll_mk0,rfl,bel.frame _,fun h => by cases h⟩
theorem closed : joinedFacts Tryz.prog 4 Tryz.f4 (OpenSpec.ofChange Rows.literalReadsConstantsSpec).bare Rows.literalReadsConstantsRow = true:=by
 unfold joinedFacts
 repeat' (with_reducible refine Bool.and_eq_true_iff.2 ⟨?_,?_⟩)
 all_goals (as_aux_lemma => kernel_rfl)
theorem said : Rows.LiteralReadsConstantsSaid :=
 OpenClaim.holds_of_cond 4 Tryz.f4 rfl rfl rfl rfl rfl rfl rfl ⟨rfl,rfl,rfl,rfl,rfl⟩ rfl rfl rfl rfl rfl (by as_aux_lemma => kernel_rfl) Tryz.func4 closed
  (of_decide_eq_true (by as_aux_lemma => kernel_rfl)) (by as_aux_lemma => unfold Func.isWrapper; first | (rw [if_pos (by decide +kernel)]; kernel_rfl) | (rw [if_neg (by decide +kernel)]; exact ⟨rfl,rfl⟩))
  (fun os started H enc _ F => by rw [OpenClaim.pre_eq_preRow]; exact lifted os started H enc F)
theorem plain (f : FuncId) (fn : Func) (hf : Tryz.pinned.checked.prog.funcNamed "brindlewood/brindlewoodlaw1.LiteralReadsConstants" = some f) (hfn : Tryz.pinned.checked.prog.funcs[f]? = some fn) :
  true = Tryz.pinned.checked.prog.looks [] ∧ ∀ (j : Nat) t,fn.params[j]? = some t → Tryz.pinned.checked.prog.wantsStandIn t = false:=by
 obtain rfl : f = 4:=Option.some.inj ((show Tryz.prog.funcNamed "brindlewood/brindlewoodlaw1.LiteralReadsConstants" = some 4 by kernel_rfl).symm.trans hf) |>.symm;obtain rfl : fn = Tryz.f4:=(Option.some.inj (Tryz.func4.symm.trans hfn)).symm;refine ⟨by kernel_rfl,fun j t ht => ?_⟩;rw [Tryz.params4] at ht;have hm : t ∈ [9]:=by simpa using Array.mem_of_getElem? ht
 have hall : ([9].all fun u => !Tryz.prog.wantsStandIn u) = true:=by kernel_rfl
 exact (show Tryz.prog.wantsStandIn t = false by simpa using List.all_eq_true.1 hall t hm)
theorem proved : Rows.LiteralReadsConstantsCardSaid :=
 Claim7.holds_tied_plain_at .later [] _ _ _ _ said (fun _ h => by cases h) (by kernel_rfl) (fun _ h => by cases h) literalReadsConstants_row_tie rfl ⟨rfl,rfl⟩ (by kernel_rfl) rfl plain (by kernel_rfl)
#print axioms proved
end Go.Proofs.YtonehlkiackhcaaGreatDoor.literalReadsConstants
