/-
  For every constant: the law LiteralPrintsConstants returns true and leaves its argument as it was. No condition; the library's listed variables are tied to the program's text.
-/
import Derived.Test.YtonehlkiackhcaaGreatDoorLitOv
import Derived.Test.YtonehlkiackhcaaGreatDoorCards
import Derived.Test.YtonehlkiackhcaaGreatDoorTie
import Derived.Lay
import Derived.LaidMore
import Derived.Lib.LaidU8T
import Derived.Lib.LaidCase
import Derived.Stop.LaidErr
import Derived.Deep.DeepHandedRow
set_option linter.unusedVariables false
set_option linter.unusedSimpArgs false
set_option maxRecDepth 100000
set_option maxHeartbeats 16000000
namespace Go.Proofs.YtonehlkiackhcaaGreatDoor.literalPrintsConstants
open Go.ChangeShapes Go.WideShapes Go.ChangeAt Go.RowKit Go.ChangeMaps Go.Lib
theorem own : ownKnob Tryz.prog.godebug = none:=by kernel_rfl
theorem laidOut : laidOutB Tryz.prog = true:=by kernel_rfl
theorem gTab : Tryz.prog.globalNamed "strings.asciiSpace" = some 3:=by kernel_rfl
theorem gTabType : (Tryz.prog.globals[3]?).map (·.type) = some 160:=by kernel_rfl
theorem cellsTab : Tryz.prog.cellsOf 160 = 256:=by kernel_rfl
theorem cellsByte : Tryz.prog.cellsOf 5 = 1:=by kernel_rfl
theorem laidEq : Rows.literalPrintsConstantsRow.laid = [("math/bits.deBruijn32tab",Rows.laid_math_bits_deBruijn32tab),("math/bits.deBruijn64tab",Rows.laid_math_bits_deBruijn64tab),("internal/strconv.uint64pow10",Lib.tabData .u64 Lib.pow10Tab),("unicode/utf8.acceptRanges",Lib.acceptData),("strconv.ErrRange",Rows.laid_strconv_ErrRange),("strconv.ErrSyntax",Rows.laid_strconv_ErrSyntax),("unicode.White_Space",Rows.laid_unicode_White_Space),("strings.asciiSpace",Lib.tabData .u8 Lib.asciiSpaceTab),("unicode/utf8.first",Lib.firstData)]:=by kernel_rfl
theorem star : "*" ++ "errors.errorString" = "*errors.errorString":=by decide
theorem rowErr (u : TypeId) (h : Tryz.prog.typeName? 3 u = some "*errors.errorString") : u = 298 :=
 typeName_ptr_named (nm:= "errors.errorString") (by rw [star]; kernel_rfl) (by kernel_rfl) (by decide) u (by rw [star]; exact h)
theorem errC {n : String} {text : List UInt8} {r : List (String × DataW Unit)} {W : World} {g : Nat} (h : laidMet Tryz.prog ((n,.iface "*errors.errorString" (.ptr (.agg [.lit (.string text)]))) :: r) W) (hg : Tryz.prog.globalNamed n = some g) (ht : (Tryz.prog.globals[g]?).map (·.type) = some 101) : ErrC W g:=by
 obtain ⟨a,sa,hv,_,_,_⟩:=laid_sentinel h hg ht Tryz.underlying101 rowErr Tryz.underlying298 Tryz.underlying300 rfl rfl Tryz.underlying9 (by kernel_rfl) (by kernel_rfl);exact ⟨_,(World.var?_cell hg hv 0).trans rfl,.inr ⟨_,_,rfl⟩⟩
theorem plainLaid (w : World) : laidMetH Tryz.prog Rows.literalPrintsConstantsRow.laid w = laidMet Tryz.prog Rows.literalPrintsConstantsRow.laid w:=MakeChecks.laidMetH_plain _ _ _ (by kernel_rfl)
theorem env {W : World} (hL : laidMetH Tryz.prog Rows.literalPrintsConstantsRow.laid W) (hsh : W.ShapedOpen Tryz.prog) : PEnv W∧Lib.TabIs Tryz.prog W "internal/strconv.uint64pow10" .u64 Lib.pow10Tab:=by
 rw [plainLaid,laidEq] at hL;obtain ⟨m,hm⟩:=Go.Proofs.cell_of_shapedOpen_int (g:=2) (zero:=#[.int .i64 0]) (t:=3) hsh (of_decide_eq_true (by kernel_rfl)) (by kernel_rfl) rfl (by kernel_rfl) (by kernel_rfl) Tryz.underlying3;have hT : Tabs W:=utf8Tabs_of_readsT (ρ:=Tryz.lays197_ren) ⟨Tryz.underlying5,Tryz.underlying160,Tryz.underlying162,Tryz.underlying163⟩ ⟨by kernel_rfl,by kernel_rfl,by kernel_rfl,by kernel_rfl,by kernel_rfl,by kernel_rfl,by kernel_rfl⟩
  (Lib.laidMet.reads hL (by simp)) (Lib.laidMet.reads hL (by simp))
 have hS:=Lib.tabIs_of_head (rest:=[("unicode/utf8.first",Lib.firstData)]) gTab gTabType Tryz.underlying160 Tryz.underlying5 cellsByte cellsTab hL.tail.tail.tail.tail.tail.tail.tail;have hP : Lib.TabIs Tryz.prog W "internal/strconv.uint64pow10" .u64 Lib.pow10Tab:=Lib.tabIs_of_head (g:=4) (by kernel_rfl) (by kernel_rfl) Tryz.underlying261 Tryz.underlying164 (by kernel_rfl) (by kernel_rfl) hL.tail.tail;exact ⟨⟨⟨⟨hT,hS⟩,⟨hT,errC hL.tail.tail.tail.tail.tail (by kernel_rfl) (by kernel_rfl),errC hL.tail.tail.tail.tail (by kernel_rfl) (by kernel_rfl)⟩⟩,⟨m,hm⟩⟩,hP⟩
noncomputable def start (os : Os) : World:=(World.laidAll Tryz.prog os Rows.literalPrintsConstantsRow.laid).forCall (fun _ _ => 0) ⟨#[],#[.agg #[.int .i64 0,.bool false,.slice none 0 0,.bool false,.slice none 0 0,.string ⟨#[]⟩,.int .i64 0]],[]⟩
theorem startShaped (os : Os) : (start os).Shaped Tryz.prog:=World.shaped_of_ZipB (by kernel_rfl) (by kernel_rfl)
theorem startOk (os : Os) : Input.okWideB Tryz.prog (start os) 3 ⟨#[],#[.agg #[.int .i64 0,.bool false,.slice none 0 0,.bool false,.slice none 0 0,.string ⟨#[]⟩,.int .i64 0]],[]⟩ = true:=by kernel_rfl
theorem startLaid (os : Os) : laidMet Tryz.prog Rows.literalPrintsConstantsRow.laid (start os).memory:=laidMet_laidAll _ (by kernel_rfl) (by kernel_rfl)
theorem reads (os : Os) {H : Type} (enc : TypeId × Value → H) : ∃ places,DataW.whole enc Tryz.prog (start os).memory Tryz.f3.params.toList Rows.literalPrintsConstantsSpec.vars false #[Value.agg #[.int .i64 0,.bool false,.slice none 0 0,.bool false,.slice none 0 0,.string ⟨#[]⟩,.int .i64 0]].toList 8 = some ([.agg [.lit (.int .i64 0),.agg [.lit (.bool false),.nil],.agg [.lit (.bool false),.nil],.lit (.string []),.lit (.int .i64 0)]],[],places) :=
 ⟨[],by kernel_rfl⟩
theorem lifted (os : Os) (started : os.Started) (H : Type) (enc : TypeId × Value → H) (F : Stop.Interp) :
  ReturnsInHanded {} Tryz.checked os 3 .any ((OpenSpec.ofChange Rows.literalPrintsConstantsSpec).preRow enc Tryz.prog Tryz.f3 Rows.literalPrintsConstantsRow.domain false Rows.literalPrintsConstantsRow.laid) (((OpenSpec.ofChange Rows.literalPrintsConstantsSpec).at F).post enc Tryz.prog Tryz.f3 false true false false):=by
 obtain ⟨places,hx⟩:=reads os enc;refine returnsInHanded_of_row (C:=Tryz.checked) (s:=OpenSpec.ofChange Rows.literalPrintsConstantsSpec) own started (by kernel_rfl) Tryz.func3
  ⟨World.laidAll Tryz.prog os Rows.literalPrintsConstantsRow.laid,fun _ _ => 0,⟨#[],#[.agg #[.int .i64 0,.bool false,.slice none 0 0,.bool false,.slice none 0 0,.string ⟨#[]⟩,.int .i64 0]],[]⟩,World.laidAll_os _ _ _,startShaped os,rfl,(Input.okWide_of_okWideB (startOk os)).2,
   OpenSpec.preRow_of_cond 8 hx (by kernel_rfl) (fun k hk => by cases hk) (by kernel_rfl) ((plainLaid (start os).memory).symm ▸ startLaid os),by simp [Assume.holds]⟩ ?_
 intro W base args ds gs before hval0 hW _ _ _ hL hsh _;have hval : ∀ (j:Nat) t v,Tryz.f3.params[j]? = some t → args[j]? = some v → Value.okWide Tryz.prog W .any base t v:=hval0;have hE:=env hL hsh;have hW':=hW;obtain ⟨p,q,hA0,hV,rfl,hfz,hnd⟩:=hW;have hA : DataW.TrodAll enc Tryz.prog W 0 (fun _ => true) true Tryz.f3.params.toList args.toList ds p:=hA0;rw [Tryz.params3] at hA hval;obtain ⟨v0,vs0,d0,ds0,p0,q0,hargs,rfl,rfl,h0,r0⟩:=trodAll_cons hA;obtain ⟨rfl,rfl,rfl⟩:=trodAll_nil r0;obtain rfl : args = #[v0]:=by cases args; simp_all
 obtain ⟨rfl,rfl⟩:=trodVars_none hV;obtain ⟨cs,rfl,hcsz⟩:=okWide_struct Tryz.underlying26 (hval 0 26 v0 rfl rfl);have k0:=h0;have lt0 : ∀ x ∈ p0,x.block < W.heap.size:=by obtain ⟨m,hm⟩:=k0; exact DataW.trod_lt m _ _ _ hm
 obtain ⟨fuel,hf⟩:=h0;obtain ⟨k,n1,A1,l1,c1,n2,A2,l2,c2,s,r,hcs,hsz,hl1,hl2,⟨ln,e1,h32,hr1⟩,⟨ld,e2,h32d,hr2⟩⟩:=open_value hf;have hcs2 : cs = valD k n1 (.slice A1 l1 c1) n2 (.slice A2 l2 c2) s.data.toList r:=by
  apply Array.toList_inj.1;exact hcs
 subst e1 e2 hcs2;clear hA0 hval0 hf hcs hcsz;unfold maxLen at hsz;refine (printsLaw_any k n1 n2 ln ld A1 A2 c1 c2 s.data.toList r ?_ ?_ ?_ h32 h32d hr1 hr2 hE.1 hE.2).mono fun e W' ⟨he,bel⟩ => ?_
 ·exact hl1
 ·exact hl2
 ·rw [Array.length_toList];exact hsz
 subst he;exact ⟨_,rfl,_,_,_,[],_,[],hW',trodAll_mk1 (shut_bool Tryz.underlying4 _),trodAll_cons_mk (Below.trod laidOut (by kernel_rfl) (of_decide_eq_true (by kernel_rfl)) k0 bel lt0) trodAll_mk0,rfl,bel.frame _,fun h => by cases h⟩
theorem closed : joinedFacts Tryz.prog 3 Tryz.f3 (OpenSpec.ofChange Rows.literalPrintsConstantsSpec).bare Rows.literalPrintsConstantsRow = true:=by
 unfold joinedFacts
 repeat' (with_reducible refine Bool.and_eq_true_iff.2 ⟨?_,?_⟩)
 all_goals (as_aux_lemma => kernel_rfl)
theorem said : Rows.LiteralPrintsConstantsSaid :=
 OpenClaim.holds_of_cond 3 Tryz.f3 rfl rfl rfl rfl rfl rfl rfl ⟨rfl,rfl,rfl,rfl,rfl⟩ rfl rfl rfl rfl rfl (by as_aux_lemma => kernel_rfl) Tryz.func3 closed
  (of_decide_eq_true (by as_aux_lemma => kernel_rfl)) (by as_aux_lemma => unfold Func.isWrapper; first | (rw [if_pos (by decide +kernel)]; kernel_rfl) | (rw [if_neg (by decide +kernel)]; exact ⟨rfl,rfl⟩))
  (fun os started H enc _ F => by rw [OpenClaim.pre_eq_preRow]; exact lifted os started H enc F)
theorem plain (f : FuncId) (fn : Func) (hf : Tryz.pinned.checked.prog.funcNamed "brindlewood/brindlewoodlaw1.LiteralPrintsConstants" = some f) (hfn : Tryz.pinned.checked.prog.funcs[f]? = some fn) :
  true = Tryz.pinned.checked.prog.looks []∧∀ (j:Nat) t,fn.params[j]? = some t → Tryz.pinned.checked.prog.wantsStandIn t = false:=by
 obtain rfl : f = 3:=Option.some.inj ((show Tryz.prog.funcNamed "brindlewood/brindlewoodlaw1.LiteralPrintsConstants" = some 3 by kernel_rfl).symm.trans hf) |>.symm;obtain rfl : fn = Tryz.f3:=(Option.some.inj (Tryz.func3.symm.trans hfn)).symm;refine ⟨by kernel_rfl,fun j t ht => ?_⟩;rw [Tryz.params3] at ht;have hm : t ∈ [26]:=by simpa using Array.mem_of_getElem? ht
 have hall : ([26].all fun u => !Tryz.prog.wantsStandIn u) = true:=by kernel_rfl
 exact (show Tryz.prog.wantsStandIn t = false by simpa using List.all_eq_true.1 hall t hm)
theorem proved : Rows.LiteralPrintsConstantsCardSaid :=
 Claim7.holds_tied_plain_at .later [] _ _ _ _ said (fun _ h => by cases h) (by kernel_rfl) (fun _ h => by cases h) literalPrintsConstants_row_tie rfl ⟨rfl,rfl⟩ (by kernel_rfl) rfl plain (by kernel_rfl)
#print axioms proved
end Go.Proofs.YtonehlkiackhcaaGreatDoor.literalPrintsConstants
