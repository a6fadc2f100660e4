/- The literals: a numeral is read: the walk. Nothing is claimed here. -/
import Derived.Test.YtonehlkiackhcaaGreatDoorRefS
import Derived.Test.YtonehlkiackhcaaGreatDoorLitNe
set_option linter.unusedVariables false
set_option linter.unusedSimpArgs false
set_option maxRecDepth 100000
set_option maxHeartbeats 16000000
namespace Go.Proofs.YtonehlkiackhcaaGreatDoor
section
open Go.Lib
def bestF (r : List UInt8) (n:Nat) (s : List UInt8) : Nat:=if s.isPrefixOf r∧n < s.length then s.length else n
def best (l : List (List UInt8)) (r : List UInt8) (n:Nat) : Nat:=l.foldl (bestF r) n
theorem bestF_le (r : List UInt8) (n:Nat) (s : List UInt8) : n ≤ bestF r n s:=by
 unfold bestF;split <;> omega
theorem best_le (r : List UInt8) : ∀ (l : List (List UInt8)) (n:Nat),n ≤ best l r n
 | [],_ => Nat.le_refl _
 | s :: l,n => Nat.le_trans (bestF_le r n s) (best_le r l _)
theorem best_ge (r : List UInt8) : ∀ (l : List (List UInt8)) (n:Nat) (s : List UInt8),s ∈ l → s.isPrefixOf r = true → s.length ≤ best l r n
 | x :: l,n,s,hs,hp => by
  rcases List.mem_cons.1 hs with rfl | hs
  ·refine Nat.le_trans ?_ (best_le r l _);unfold bestF;split
   ·exact Nat.le_refl _
   ·rename_i h;simp only [hp,true_and,Nat.not_lt] at h;exact h
  ·exact best_ge r l _ s hs hp
theorem best_mem (r : List UInt8) : ∀ (l : List (List UInt8)) (n:Nat),best l r n = n∨∃ s ∈ l,s.isPrefixOf r = true∧best l r n = s.length
 | [],n => .inl rfl
 | x :: l,n => by
  rcases best_mem r l (bestF r n x) with h | ⟨s,hs,hp,h⟩
  ·unfold bestF at h;split at h
   ·rename_i hc;refine .inr ⟨x,by simp,hc.1,?_⟩;have e : best (x :: l) r n = best l r (bestF r n x):=rfl;rw [e];unfold bestF;rw [if_pos hc];exact h
   ·rename_i hc;refine .inl ?_;have e : best (x :: l) r n = best l r (bestF r n x):=rfl;rw [e];unfold bestF;rw [if_neg hc];exact h
  ·exact .inr ⟨s,List.mem_cons_of_mem _ hs,hp,h⟩
def sgR : List (List UInt8) :=
 [[43],[45],[42],[47],[47,47],[37],[42,42],[60,60],[62,62],[38],[124],[94],[126],[60],[60,61],[62],[62,61],[61,61],[33,61],[40],[41],[91],[93],[123],[125],[44],[58],[46],[61],[43,61],[45,61],[42,61],[47,61],[47,47,61],[37,61],[42,42,61],[60,60,61],[62,62,61],[38,61],[124,61],[94,61],[64],[45,62]]
theorem sgR_sub : ∀ s ∈ sgR,s ∈ sgs:=by decide
theorem sgs_sub : ∀ s ∈ sgs,s ∈ sgR:=by decide
theorem sgs_sorted : sgs.Pairwise (fun a b => b.length ≤ a.length):=by decide
theorem lexSign_best (r : List UInt8) : lexSign r = if best sgR r 0 = 0 then .error (1,0) else .ok (8,best sgR r 0):=by
 unfold lexSign;cases hf : sgs.find? (·.isPrefixOf r) with
 | none =>
  have h0 : best sgR r 0 = 0:=by
   rcases best_mem r sgR 0 with h | ⟨s,hs,hp,h⟩
   ·exact h
   ·have:=List.find?_eq_none.1 hf s (sgR_sub s hs);exact absurd hp this
  simp only [h0,if_true]
 | some s =>
  obtain ⟨hp,l1,l2,he,hn⟩:=List.find?_eq_some_iff_append.1 hf;have hmem : s ∈ sgs:=(by rw [he]; simp);have hpos:=(sgs_facts s hmem).1;have hge:=best_ge r sgR 0 s (sgs_sub s hmem) hp;have hle : best sgR r 0 ≤ s.length:=by
   rcases best_mem r sgR 0 with h | ⟨t,ht,htp,h⟩
   ·omega
   ·rw [h];have htm:=sgR_sub t ht;rw [he] at htm;rcases List.mem_append.1 htm with h1 | h1
    ·have:=hn t h1;rw [htp] at this;simp at this
    ·rcases List.mem_cons.1 h1 with rfl | h1
     ·exact Nat.le_refl _
     ·have hs:=sgs_sorted;rw [he,List.pairwise_append] at hs;exact (List.pairwise_cons.1 hs.2.1).1 t h1
  have e : best sgR r 0 = s.length:=(by omega);rw [e,if_neg (by omega)]
end
section
open Go.RowKit Go.Shelf Go.Lib Go.Maps
def Lim (w : World) : Prop:=∃ m,w.cell? ⟨2,0,none⟩ = some (.int .i64 m)
theorem Lim.keepB {w w' : World} (h : Lim w) (hb : Below w.heap.size w w') : Lim w':=by
 obtain ⟨m,hm⟩:=h;exact ⟨m,(hb.cell (p:=⟨_,0,none⟩) (lt_of_cell hm)).trans hm⟩
def spacedR : List (List UInt8) → List UInt8
 | [] => []
 | [x] => x
 | x :: y :: l => x ++ 32 :: spacedR (y :: l)
theorem sgR_len : sgR.length = 43:=by kernel_rfl
theorem split_signs : ((Lib.splitB ⟨#[32]⟩ 0 (Lib.countB ⟨(spacedR sgR).toArray⟩ ⟨#[32]⟩) ⟨(spacedR sgR).toArray⟩).map Value.string) = strs sgR:=by kernel_rfl
theorem count_signs : Lib.countB ⟨(spacedR sgR).toArray⟩ ⟨#[32]⟩ = 42:=by kernel_rfl
theorem split_any (s : ByteArray) (w : World) (h : s = ⟨(spacedR sgR).toArray⟩) (hm : Lim w) :
  Calls Tryz.prog 200 #[.string s,.string ⟨#[32]⟩] w fun e w' => e = .returned (.slice (some ⟨w.heap.size,0,none⟩) 43 43)∧w' = w.alloc (.cells (strs sgR).toArray 9):=by
 subst h;obtain ⟨m,hm⟩:=hm;refine (Tryz.strings_Split ⟨(spacedR sgR).toArray⟩ ⟨#[32]⟩ m w (by decide) hm (by decide)).mono ?_;rintro e w' ⟨rfl,rfl⟩;rw [count_signs,← count_signs,split_signs,count_signs];exact ⟨rfl,rfl⟩
end
section
open Go.RowKit Go.Lib Go.Sort
def fg10 : List UInt8:=[48,49,50,51,52,53,54,55,56,57]
def fg16 : List UInt8:=[48,49,50,51,52,53,54,55,56,57,97,98,99,100,101,102]
def fg2 : List UInt8:=[48,49]
def decOk (u : List UInt8) : Bool:=onlyV u fg10 && (decide (u = [48]) || decide (u.head? ≠ some 48))
inductive NumR where
 | fault (c:Int)
 | whole (n:Nat)
 | point (n p:Nat)
def numR (s : List UInt8) : NumR :=
 if 600 < s.length then .fault 3
 else if hasPrefix s [48,120] = true∧onlyV (s.drop 2) fg16 = true then .whole (numV 16 (s.drop 2))
 else if hasPrefix s [48,98] = true∧onlyV (s.drop 2) fg2 = true then .whole (numV 2 (s.drop 2))
 else if decOk (cut s [46]).1 = true∧(cut s [46]).2.2 = false then .whole (numV 10 s)
 else if decOk (cut s [46]).1 = true∧onlyV (cut s [46]).2.1 fg10 = true then .point (numV 10 ((cut s [46]).1 ++ (cut s [46]).2.1)) (cut s [46]).2.1.length
 else .fault 1
def NumVal (w' : World) (v : Value) : Nat × Nat → Prop:=fun x => ∃ A c,Row w' A (u32s (lg x.1)) ∧
 if x.2 = 1 then v = .agg (valD 2 false (.slice A (lg x.1).length c) false (.slice none 0 0) [] 0)
 else ∃ A' c',Row w' A' (u32s (lg x.2))∧v = .agg (valD 3 false (.slice A (lg x.1).length c) false (.slice A' (lg x.2).length c') [] 0)
def NuPost (w : World) (R : NumR) (e : Ending) (w' : World) : Prop:=Below w.heap.size w w'∧match R with
 | .fault c => e = .returned (.tuple #[.agg (valD 0 false (.slice none 0 0) false (.slice none 0 0) [] 0),flt c (-1)])
 | .whole n => ∃ v,e = .returned (.tuple #[v,flt 0 0])∧NumVal w' v (n,1)
 | .point n p => ∃ v,e = .returned (.tuple #[v,flt 0 0])∧NumVal w' v (outS n p 2)
theorem scut_any (s : List UInt8) (w : World) (hl : s.length ≤ 4294967) (hm : Lim w) :
  Calls Tryz.prog 37 #[.string ⟨s.toArray⟩,.string ⟨#[46]⟩] w fun e w' => e = .returned (.tuple #[.string ⟨(cut s [46]).1.toArray⟩,.string ⟨(cut s [46]).2.1.toArray⟩,.bool (cut s [46]).2.2])∧∃ n,w' = w.drewN n:=by
 obtain ⟨m,hm⟩:=hm;exact Tryz.strings_Cut ⟨s.toArray⟩ ⟨#[46]⟩ m w (by simp [ByteArray.size]; omega) hm
theorem shasp_any (s p : List UInt8) (w : World) :
  Calls Tryz.prog 39 #[.string ⟨s.toArray⟩,.string ⟨p.toArray⟩] w fun e w' => e = .returned (.bool (hasPrefix s p))∧w' = w:=Tryz.strings_HasPrefix ⟨s.toArray⟩ ⟨p.toArray⟩ w
theorem res_num {w : World} {tmps : Array Value} {p : Nat} {cs : Array Value} {c i : Int} (hs : cs.size = 7) (h2 : tmps.getD 2 undef = .pointer (some ⟨p,0,none⟩)) (h3 : tmps.getD 3 undef = .pointer (some ⟨p + 1,0,none⟩)) (hP : Blk w p 26 cs) (hQ : Blk w (p + 1) 29 #[.int .i64 c,.int .i64 i]) :
  (results Tryz.f10 tmps).run Tryz.prog w = .ok (.tuple #[.agg cs,flt c i]) w:=by
 have h2' : tmps[2]?.getD undef = .pointer (some ⟨p,0,none⟩):=by simpa using h2
 have h3' : tmps[3]?.getD undef = .pointer (some ⟨p + 1,0,none⟩):=by simpa using h3
 have hv:=run_loadVar_row w p 26 26 cs (0,0) _ hP Tryz.underlying26 rfl (by rw [hs]; kernel_rfl);have hd:=run_loadVar_row w (p + 1) 29 29 #[.int .i64 c,.int .i64 i] (0,0) _ hQ Tryz.underlying29 rfl (by kernel_rfl);simp [results,Tryz.results10,h2',h3',asAddr,hv,hd,flt]
theorem dg16 : ∀ i : Fin 256,fg16.contains (UInt8.ofNat i.val) = true → isDg 16 (UInt8.ofNat i.val) = true:=by decide
theorem dg10 : ∀ i : Fin 256,fg10.contains (UInt8.ofNat i.val) = true → isDg 10 (UInt8.ofNat i.val) = true:=by decide
theorem dg2 : ∀ i : Fin 256,fg2.contains (UInt8.ofNat i.val) = true → isDg 2 (UInt8.ofNat i.val) = true:=by decide
theorem only_dg {t cs : List UInt8} {B : Nat} (hd : ∀ i : Fin 256,cs.contains (UInt8.ofNat i.val) = true → isDg B (UInt8.ofNat i.val) = true) (h : onlyV t cs = true) : ∀ c ∈ t,isDg B c = true:=by
 intro c hc;unfold onlyV at h;rw [Bool.and_eq_true] at h;have h1:=List.all_eq_true.1 h.2 c hc;have h2:=hd ⟨c.toNat,c.toNat_lt⟩;simp only [UInt8.ofNat_toNat] at h2;exact h2 h1
theorem pre_len {s : List UInt8} {a b : UInt8} (h : hasPrefix s [a,b] = true) : 2 ≤ s.length:=by
 unfold hasPrefix at h;have h1:=(List.isPrefixOf_iff_prefix.1 h).length_le;simpa using h1
theorem drop2_run (s : List UInt8) (h : 2 ≤ s.length) (W : World) : (Instr.slice 9 (.string ⟨s.toArray⟩) (some (.int .i64 2)) none none).run Tryz.prog W = .ok (.string ⟨(s.drop 2).toArray⟩) W:=by
 rw [run_slice_string_from_if W 9 ⟨s.toArray⟩ .i64 _ Tryz.underlying9,if_pos ⟨by omega,by simp [ByteArray.size]; omega⟩];rw [show (2:Int).toNat = 2 from rfl,extract_from _ _ _ (by simp [ByteArray.size])]
theorem row_setRowF {w : World} {g : Nat} {A : Option Addr} {l : List Nat} (h : Row w A (u32s l)) (hB : Blk w g 29 #[.int .i64 0,.int .i64 0]) (cs : Array Value) : Row (w.setRow g cs) A (u32s l):=by
 rcases h with h0 | ⟨b,off,rfl,hlt,hc⟩
 ·exact .inl h0
 ·cases l with
  | nil => exact .inl rfl
  | cons x l =>
   have hne : b ≠ g:=by
    rintro rfl;have h1:=hc 0 (.int .u32 (x:Int)) rfl;rw [hB.cell] at h1;rcases off with _ | _ | off <;> simp at h1
   have hh : (w.setRow g cs).heap[b]? = w.heap[b]?:=by
    unfold World.setRow;simp only [Array.getElem?_modify];rw [if_neg (fun e => hne e.symm)]
   refine .inr ⟨b,off,rfl,by simpa [World.setRow] using hlt,fun j u hu => ?_⟩;rw [World.cell?_of_block (w:=w) hh];exact hc j u hu
theorem cut_no {s u f : List UInt8} (h : cut s [46] = (u,f,false)) : u = s:=by
 unfold cut at h;split at h
 ·cases h
 ·cases h; rfl
theorem dec_only {u : List UInt8} (h : decOk u = true) : onlyV u fg10 = true:=by
 unfold decOk at h;rw [Bool.and_eq_true] at h;exact h.1
theorem cut_yes {s u f : List UInt8} {b : Bool} (h : cut s [46] = (u,f,b)) : u.length + f.length ≤ s.length:=by
 unfold cut at h;split at h
 ·cases h; rw [List.length_take,List.length_drop]; omega
 ·cases h; exact Nat.le_refl _
theorem isDg_lt {B : Nat} {c : UInt8} (h : isDg B c = true) : dval c < B:=by
 unfold isDg at h;rw [Bool.and_eq_true] at h;exact of_decide_eq_true h.2
theorem ne48 (x : UInt8) : (((x.toNat:Nat):Int) != 48) = decide (x ≠ 48):=by
 by_cases hx : x = 48
 ·subst hx; rfl
 ·have h1 : x.toNat ≠ 48:=fun h => hx (UInt8.toNat_inj.1 h);rw [decide_eq_true hx,bne_iff_ne];omega
structure NuC (w : World) (wi : World) : Prop where
 v : Blk wi w.heap.size 26 #[.int .i64 0,.bool false,.slice none 0 0,.bool false,.slice none 0 0,.string ⟨#[]⟩,.int .i64 0]
 p : Blk wi (w.heap.size + 1) 29 #[.int .i64 0,.int .i64 0]
 bel : Below w.heap.size w wi
theorem NuC.step {w wi wj : World} (h : NuC w wi) (hb : Below wi.heap.size wi wj) : NuC w wj:=⟨h.v.belowS hb,h.p.belowS hb,below_then h.bel hb h.bel.size⟩
theorem NuC.new (w : World) : NuC w ((w.alloc (.cells #[.int .i64 0,.bool false,.slice none 0 0,.bool false,.slice none 0 0,.string ⟨#[]⟩,.int .i64 0] 26)).alloc (.cells #[.int .i64 0,.int .i64 0] 29)):=by
 refine ⟨(Blk.new w 26 _).alloc _,?_,((Below.refl _ w).alloc (Nat.le_refl _) _).alloc (by simp) _⟩;have h:=Blk.new (w.alloc (.cells #[.int .i64 0,.bool false,.slice none 0 0,.bool false,.slice none 0 0,.string ⟨#[]⟩,.int .i64 0] 26)) 29 #[.int .i64 0,.int .i64 0]
 rwa [show (w.alloc (.cells #[.int .i64 0,.bool false,.slice none 0 0,.bool false,.slice none 0 0,.string ⟨#[]⟩,.int .i64 0] 26)).heap.size = w.heap.size + 1 from by simp] at h
theorem litnum_any (s : List UInt8) (w : World) (hl : s.length ≤ 9223372036854775807) (hm : Lim w) :
  Calls Tryz.prog 10 #[.string ⟨s.toArray⟩] w (NuPost w (numR s)):=by
 obtain ⟨R,hR⟩ : ∃ R,numR s = R:=⟨_,rfl⟩;rw [hR];unfold numR at hR
 by_cases h6 : 600 < s.length
 ·rw [if_pos h6] at hR;subst hR;have h6i : (600:Int) < (s.length:Int):=(by omega);go_enter Tryz.func10,Tryz.ntmps10;go_wp2_with fail;refine (lfault_any 3 (-1) _).mono ?_;rintro e w9 ⟨rfl,hbb9⟩;have hC9:=(NuC.new w).step hbb9;go_wp2_with (first | refine wpList_store_row rfl 26 (.tmp 2) (.tmp 11) rfl w.heap.size #[.int .i64 0,.bool false,.slice none 0 0,.bool false,.slice none 0 0,.string ⟨#[]⟩,.int .i64 0] rfl rfl 26 #[.int .i64 0,.bool false,.slice none 0 0,.bool false,.slice none 0 0,.string ⟨#[]⟩,.int .i64 0] hC9.v (by kernel_rfl) rfl (by simp [Value.oneCell']) ?_ | refine wpList_store_row rfl 29 (.tmp 3) (.tmp 12) rfl (w.heap.size + 1) #[.int .i64 3,.int .i64 (-1)] rfl rfl 29 #[.int .i64 0,.int .i64 0] (hC9.p.farRow (by omega) _) (by kernel_rfl) rfl (by simp [Value.oneCell']) ?_);exact bodyPost_ret (res_num (p:=w.heap.size) rfl rfl rfl ((hC9.v.setRow _).farRow (by omega) _) ((hC9.p.farRow (by omega) _).setRow _)) rfl ⟨below_setRow (below_setRow hC9.bel (Nat.le_refl _) _) (Nat.le_succ _) _,rfl⟩
 ·rw [if_neg h6] at hR;have HR:=hid hR;have h6i : ¬ (600:Int) < (s.length:Int):=(by omega);clear hR;have hC:=NuC.new w;have hsl : s.length ≤ 600:=(by omega);have HCU:=hid (fun W (h : Lim W) => scut_any s W (by omega) h);obtain ⟨⟨u,f,b⟩,hcu⟩ : ∃ x,cut s [46] = x:=⟨_,rfl⟩;rw [hcu] at HR HCU;have HCE:=hid hcu;clear hcu;dsimp only at HR HCU;go_enter Tryz.func10,Tryz.ntmps10;go_wp2_with fail;refine (HCU.out _ (hm.keepB hC.bel)).mono ?_;rintro e w2 ⟨rfl,nn,rfl⟩;have hC2:=hC.step (below_drewN (Below.refl _ _) nn);generalize hW2 : World.drewN _ nn = w2 at hC2 ⊢;clear hW2 hC;have hul1:=cut_yes HCE.out;have hul : u.length ≤ 600:=(by omega);have hfl : f.length ≤ 600:=(by omega);have hufl : u.length + f.length ≤ 600:=(by omega);clear hul1
  go_upto_region 4 with fail
  go_cut [7] from 19 to 29 (fun s7 wx => s7 = .bool (decOk u)∧NuC w wx)
  case first =>
   have HO:=hid (only_any u fg10 w2 (by omega) (by decide) (by decide));cases ho : onlyV u fg10
   ·rw [ho] at HO;have HD:=hid (show decOk u = false from by unfold decOk; rw [ho]; rfl);clear ho;go_wp2_with fail;refine HO.out.mono ?_;rintro e w3 ⟨rfl,hbb⟩;have hC3:=hC2.step hbb;clear hC2 hbb;go_wp2_with fail;go_meet;exact ⟨by rw [HD.out],hC3⟩
   ·rw [ho] at HO;obtain ⟨x,u',rfl⟩ : ∃ x u',u = x :: u':=by
     cases u with
     | nil => exact absurd ho (by decide)
     | cons x u' => exact ⟨x,u',rfl⟩
    have HD:=hid (show decOk (x :: u') = (decide (x :: u' = [48]) || decide (x ≠ 48)) from by unfold decOk; rw [ho]; simp);clear ho
    by_cases hz : x :: u' = [48]
    ·have hzb : ((x :: u') == [48]) = true:=(by simpa using hz);rw [decide_eq_true hz] at HD;clear hz;go_wp2_with fail;refine HO.out.mono ?_;rintro e w3 ⟨rfl,hbb⟩;have hC3:=hC2.step hbb;clear hC2 hbb;go_wp2_with fail;go_meet;exact ⟨by rw [HD.out]; rfl,hC3⟩
    ·have hzb : ((x :: u') == [48]) = false:=(by simpa using hz);rw [decide_eq_false hz] at HD;clear hz;go_wp2_with fail;refine HO.out.mono ?_;rintro e w3 ⟨rfl,hbb⟩;have hC3:=hC2.step hbb;clear hC2 hbb;go_wp2_with fail;go_meet;refine ⟨?_,hC3⟩;rw [HD.out,Bool.false_or];show Value.bool (((x.toNat:Nat):Int) != 48) = _;rw [ne48 x]
  case rest =>
   obtain ⟨rfl,hC3⟩:=hcut;clear hC2
   go_upto_region 5 with fail
   go_cut [30] from 31 to 37 (fun s30 wx => s30 = .bool (hasPrefix s [48,120] && onlyV (s.drop 2) fg16)∧NuC w wx)
   case first =>
    have HP:=hid (fun W => shasp_any s [48,120] W);cases hp : hasPrefix s [48,120]
    ·rw [hp] at HP;have HPE:=hid hp;clear hp;go_wp2_with fail;refine (HP.out _).mono ?_;rintro e w9 ⟨rfl,rfl⟩;go_wp2_with fail;go_meet;exact ⟨by rw [HPE.out]; rfl,hC3⟩
    ·rw [hp] at HP;have h2 : 2 ≤ s.length:=pre_len hp;have hs2 : ∀ W : World,(Instr.slice 9 (.string ⟨s.toArray⟩) (some (.int .i64 2)) none none).run Tryz.prog W = .ok (.string ⟨(s.drop 2).toArray⟩) W:=fun W => drop2_run s h2 W;have h2i : (2:Int) ≤ (s.length:Int):=(by omega);have hdl : (s.drop 2).length ≤ 600:=(by rw [List.length_drop]; omega);obtain ⟨D,hD⟩ : ∃ D,s.drop 2 = D:=⟨_,rfl⟩;rw [hD] at hs2 hdl;have HPE:=hid hp;have HDE:=hid hD;clear hp hD;go_wp2_with fail;refine (HP.out _).mono ?_;rintro e w9 ⟨rfl,rfl⟩;go_wp2_with fail;refine (only_any D fg16 _ (by omega) (by decide) (by decide)).mono ?_;rintro e w9 ⟨rfl,hbb⟩;have hC9:=hC3.step hbb;go_wp2_with fail;go_meet;exact ⟨by rw [HPE.out,HDE.out,Bool.true_and],hC9⟩
   case rest =>
    obtain ⟨rfl,hC4⟩:=hcut;clear hC3;cases h16 : (hasPrefix s [48,120] && onlyV (s.drop 2) fg16)
    ·have hR:=HR.out;rw [if_neg (by rw [← Bool.and_eq_true,h16]; decide)] at hR;have HR2:=hid hR;clear hR h16
     go_upto_region 7 with fail
     go_cut [43] from 44 to 50 (fun s43 wx => s43 = .bool (hasPrefix s [48,98] && onlyV (s.drop 2) fg2)∧NuC w wx)
     case first =>
      have HP:=hid (fun W => shasp_any s [48,98] W);cases hp : hasPrefix s [48,98]
      ·rw [hp] at HP;have HPE:=hid hp;clear hp;go_wp2_with fail;refine (HP.out _).mono ?_;rintro e w9 ⟨rfl,rfl⟩;go_wp2_with fail;go_meet;exact ⟨by rw [HPE.out]; rfl,hC4⟩
      ·rw [hp] at HP;have h2 : 2 ≤ s.length:=pre_len hp;have hs2 : ∀ W : World,(Instr.slice 9 (.string ⟨s.toArray⟩) (some (.int .i64 2)) none none).run Tryz.prog W = .ok (.string ⟨(s.drop 2).toArray⟩) W:=fun W => drop2_run s h2 W;have h2i : (2:Int) ≤ (s.length:Int):=(by omega);have hdl : (s.drop 2).length ≤ 600:=(by rw [List.length_drop]; omega);obtain ⟨D,hD⟩ : ∃ D,s.drop 2 = D:=⟨_,rfl⟩;rw [hD] at hs2 hdl;have HPE:=hid hp;have HDE:=hid hD;clear hp hD;go_wp2_with fail;refine (HP.out _).mono ?_;rintro e w9 ⟨rfl,rfl⟩;go_wp2_with fail;refine (only_any D fg2 _ (by omega) (by decide) (by decide)).mono ?_;rintro e w9 ⟨rfl,hbb⟩;have hC9:=hC4.step hbb;go_wp2_with fail;go_meet;exact ⟨by rw [HPE.out,HDE.out,Bool.true_and],hC9⟩
     case rest =>
      obtain ⟨rfl,hC5⟩:=hcut;clear hC4 HR;cases h2b : (hasPrefix s [48,98] && onlyV (s.drop 2) fg2)
      ·have hR:=HR2.out;rw [if_neg (by rw [← Bool.and_eq_true,h2b]; decide)] at hR;have HR3:=hid hR;clear hR h2b HR2;cases hdk : decOk u
       ·rw [hdk] at HR3;clear hdk;have HF : Hid (R = .fault 1):=hid (by rw [← HR3.out]; simp);go_wp2_with fail;refine (lfault_any (1) (-1) wc).mono ?_;rintro e w9 ⟨rfl,hbb9⟩;have hC9:=NuC.step hC5 hbb9;go_wp2_with (first | refine wpList_store_row rfl 26 (.tmp 2) (.tmp 80) rfl w.heap.size #[.int .i64 0,.bool false,.slice none 0 0,.bool false,.slice none 0 0,.string ⟨#[]⟩,.int .i64 0] rfl rfl 26 #[.int .i64 0,.bool false,.slice none 0 0,.bool false,.slice none 0 0,.string ⟨#[]⟩,.int .i64 0] hC9.v (by kernel_rfl) rfl (by simp [Value.oneCell']) ?_ | refine wpList_store_row rfl 29 (.tmp 3) (.tmp 81) rfl (w.heap.size + 1) #[.int .i64 (1),.int .i64 (-1)] rfl rfl 29 #[.int .i64 0,.int .i64 0] (hC9.p.farRow (by omega) _) (by kernel_rfl) rfl (by simp [Value.oneCell']) ?_);rw [HF.out];exact bodyPost_ret (res_num (p:=w.heap.size) rfl rfl rfl ((hC9.v.setRow _).farRow (by omega) _) ((hC9.p.farRow (by omega) _).setRow _)) rfl ⟨below_setRow (below_setRow hC9.bel (Nat.le_refl _) _) (Nat.le_succ _) _,rfl⟩
       ·rw [hdk] at HR3;cases b
        ·obtain rfl : u = s:=cut_no HCE.out;have hR : NumR.whole (numV 10 u) = R:=(by rw [← HR3.out]; simp);subst hR;have hdg:=only_dg dg10 (dec_only hdk);clear hdk;go_wp2_with fail;refine (digits_any (u) 10 wc (by decide) (by decide) (by omega) hdg).mono ?_;rintro e w5 ⟨⟨A,c,rfl,hrow⟩,hbb⟩;have hC5:=NuC.step hC5 hbb;obtain ⟨n,hn⟩ : ∃ n,numV 10 (u) = n:=⟨_,rfl⟩;have hrow : Row w5 A (u32s (lg n)):=(by rw [← hn]; exact hrow);rw [show dig 4294967296 (numV 10 (u)) = lg n from by rw [hn]; rfl];have HN:=hid hn;clear hn;go_wp2_with fail;refine (integer_any A (lg n).length c w5).mono ?_;rintro e w6 ⟨rfl,hbb6⟩;have hC6:=hC5.step hbb6;have hrow6:=hrow.keepB hbb6;unfold valD at *
         go_wp2_with (first | refine wpList_store_row rfl 26 (.tmp 2) (.tmp 64) rfl w.heap.size #[.int .i64 2,.bool false,.slice A (lg n).length c,.bool false,.slice none 0 0,.string ⟨#[]⟩,.int .i64 0] rfl rfl 26 #[.int .i64 0,.bool false,.slice none 0 0,.bool false,.slice none 0 0,.string ⟨#[]⟩,.int .i64 0] hC6.v (by kernel_rfl) rfl (by simp [Value.oneCell']) ?_ | refine wpList_store_row rfl 29 (.tmp 3) (.tmp 65) rfl (w.heap.size + 1) #[.int .i64 0,.int .i64 0] rfl rfl 29 #[.int .i64 0,.int .i64 0] (hC6.p.farRow (by omega) _) (by kernel_rfl) rfl (by simp [Value.oneCell']) ?_);rw [HN.out];exact bodyPost_ret (res_num (p:=w.heap.size) rfl rfl rfl ((hC6.v.setRow _).farRow (by omega) _) ((hC6.p.farRow (by omega) _).setRow _)) rfl ⟨below_setRow (below_setRow hC6.bel (Nat.le_refl _) _) (Nat.le_succ _) _,_,rfl,A,c,row_setRowF (row_setRow hrow6 hC6.v _) (hC6.p.farRow (by omega) _) _,by rw [if_pos rfl]; rfl⟩
        ·have HO:=hid (only_any f fg10 wc (by omega) (by decide) (by decide));cases ho : onlyV f fg10
         ·rw [ho] at HO;have HF : Hid (R = .fault 1):=hid (by rw [← HR3.out]; simp [ho]);clear ho hdk;go_wp2_with fail;refine HO.out.mono ?_;rintro e w3 ⟨rfl,hbb⟩;have hC6:=hC5.step hbb;clear hC5 hbb;go_wp2_with fail;refine (lfault_any (1) (-1) w3).mono ?_;rintro e w9 ⟨rfl,hbb9⟩;have hC9:=NuC.step hC6 hbb9;go_wp2_with (first | refine wpList_store_row rfl 26 (.tmp 2) (.tmp 80) rfl w.heap.size #[.int .i64 0,.bool false,.slice none 0 0,.bool false,.slice none 0 0,.string ⟨#[]⟩,.int .i64 0] rfl rfl 26 #[.int .i64 0,.bool false,.slice none 0 0,.bool false,.slice none 0 0,.string ⟨#[]⟩,.int .i64 0] hC9.v (by kernel_rfl) rfl (by simp [Value.oneCell']) ?_ | refine wpList_store_row rfl 29 (.tmp 3) (.tmp 81) rfl (w.heap.size + 1) #[.int .i64 (1),.int .i64 (-1)] rfl rfl 29 #[.int .i64 0,.int .i64 0] (hC9.p.farRow (by omega) _) (by kernel_rfl) rfl (by simp [Value.oneCell']) ?_);rw [HF.out];exact bodyPost_ret (res_num (p:=w.heap.size) rfl rfl rfl ((hC9.v.setRow _).farRow (by omega) _) ((hC9.p.farRow (by omega) _).setRow _)) rfl ⟨below_setRow (below_setRow hC9.bel (Nat.le_refl _) _) (Nat.le_succ _) _,rfl⟩
         ·rw [ho] at HO;have hR : NumR.point (numV 10 (u ++ f)) f.length = R:=(by rw [← HR3.out]; simp [ho]);subst hR;have hdg : ∀ c ∈ u ++ f,isDg 10 c = true:=by
           intro c hc;rcases List.mem_append.1 hc with h | h
           ·exact only_dg dg10 (dec_only hdk) c h
           ·exact only_dg dg10 ho c h
          clear ho hdk;have hT : (u ++ f).length ≤ 600:=(by rw [List.length_append]; omega);obtain ⟨T,hTe⟩ : ∃ T,u ++ f = T:=⟨_,rfl⟩;have hadd : ∀ W : World,(Op.stringOp .add ⟨u.toArray⟩ ⟨f.toArray⟩).run Tryz.prog W = .ok (.string ⟨T.toArray⟩) W:=fun W => by rw [← hTe]; exact run_string_add_lists W u f (by omega) (by omega)
          have HTE:=hid hTe;rw [hTe] at hdg hT;clear hTe;go_wp2_with fail;refine HO.out.mono ?_;rintro e w3 ⟨rfl,hbb⟩;have hC6:=hC5.step hbb;clear hC5 hbb;go_wp2_with fail;refine (digits_any T 10 w3 (by decide) (by decide) (by omega) hdg).mono ?_;rintro e w5 ⟨⟨A,c,rfl,hrow⟩,hbb⟩;have hC7:=hC6.step hbb;have hng : (lg (numV 10 T)).length ≤ 1000:=Nat.le_trans (dig_numV_len 10 (by decide) T (fun c hc => isDg_lt (hdg c hc))) (by omega);obtain ⟨n,hn⟩ : ∃ n,numV 10 T = n:=⟨_,rfl⟩;have hrow : Row w5 A (u32s (lg n)):=(by rw [← hn]; exact hrow);rw [show dig 4294967296 (numV 10 T) = lg n from by rw [hn]; rfl];rw [hn] at hng;have HXX : Hid (∀ w' v,NumVal w' v (outS n f.length 2) → NumVal w' v (outS (numV 10 (u ++ f)) f.length 2)):=hid (by rw [HTE.out,hn]; exact fun _ _ h => h);clear hn hdg hbb hC6;go_wp2_with fail;refine (reduce_any n f.length A c hng (by omega) hrow).mono ?_;rintro e w6 ⟨hbb6,A',c',hr6,hif⟩;have hC8:=hC7.step hbb6;clear hC7 hbb6 hrow hng;obtain ⟨⟨y1,y2⟩,hX⟩ : ∃ X,outS n f.length 2 = X:=⟨_,rfl⟩;rw [hX] at hr6 hif HXX;dsimp only at hr6 hif;clear hX
          by_cases hy : y2 = 1
          ·rw [if_pos hy] at hif;subst hif;unfold valD at *
           go_wp2_with (first | refine wpList_store_row rfl 26 (.tmp 2) (.tmp 78) rfl w.heap.size #[.int .i64 2,.bool false,.slice A' (lg y1).length c',.bool false,.slice none 0 0,.string ⟨#[]⟩,.int .i64 0] rfl rfl 26 #[.int .i64 0,.bool false,.slice none 0 0,.bool false,.slice none 0 0,.string ⟨#[]⟩,.int .i64 0] hC8.v (by kernel_rfl) rfl (by simp [Value.oneCell']) ?_ | refine wpList_store_row rfl 29 (.tmp 3) (.tmp 79) rfl (w.heap.size + 1) #[.int .i64 0,.int .i64 0] rfl rfl 29 #[.int .i64 0,.int .i64 0] (hC8.p.farRow (by omega) _) (by kernel_rfl) rfl (by simp [Value.oneCell']) ?_);exact bodyPost_ret (res_num (p:=w.heap.size) rfl rfl rfl ((hC8.v.setRow _).farRow (by omega) _) ((hC8.p.farRow (by omega) _).setRow _)) rfl ⟨below_setRow (below_setRow hC8.bel (Nat.le_refl _) _) (Nat.le_succ _) _,_,rfl,HXX.out _ _ ⟨A',c',row_setRowF (row_setRow hr6 hC8.v _) (hC8.p.farRow (by omega) _) _,by rw [if_pos hy]; rfl⟩⟩
          ·rw [if_neg hy] at hif;obtain ⟨A2,c2,hr2,rfl⟩:=hif;have HY:=hid hy;clear hy;unfold valD at *
           go_wp2_with (first | refine wpList_store_row rfl 26 (.tmp 2) (.tmp 78) rfl w.heap.size #[.int .i64 3,.bool false,.slice A' (lg y1).length c',.bool false,.slice A2 (lg y2).length c2,.string ⟨#[]⟩,.int .i64 0] rfl rfl 26 #[.int .i64 0,.bool false,.slice none 0 0,.bool false,.slice none 0 0,.string ⟨#[]⟩,.int .i64 0] hC8.v (by kernel_rfl) rfl (by simp [Value.oneCell']) ?_ | refine wpList_store_row rfl 29 (.tmp 3) (.tmp 79) rfl (w.heap.size + 1) #[.int .i64 0,.int .i64 0] rfl rfl 29 #[.int .i64 0,.int .i64 0] (hC8.p.farRow (by omega) _) (by kernel_rfl) rfl (by simp [Value.oneCell']) ?_);exact bodyPost_ret (res_num (p:=w.heap.size) rfl rfl rfl ((hC8.v.setRow _).farRow (by omega) _) ((hC8.p.farRow (by omega) _).setRow _)) rfl ⟨below_setRow (below_setRow hC8.bel (Nat.le_refl _) _) (Nat.le_succ _) _,_,rfl,HXX.out _ _ ⟨A',c',row_setRowF (row_setRow hr6 hC8.v _) (hC8.p.farRow (by omega) _) _,by rw [if_neg HY.out]; exact ⟨A2,c2,row_setRowF (row_setRow hr2 hC8.v _) (hC8.p.farRow (by omega) _) _,rfl⟩⟩⟩
      ·rw [Bool.and_eq_true] at h2b;have hR:=HR2.out;rw [if_pos h2b] at hR;subst hR;have hdg:=only_dg dg2 h2b.2;have h2 : 2 ≤ s.length:=pre_len h2b.1;have hs2 : ∀ W : World,(Instr.slice 9 (.string ⟨s.toArray⟩) (some (.int .i64 2)) none none).run Tryz.prog W = .ok (.string ⟨(s.drop 2).toArray⟩) W:=fun W => drop2_run s h2 W;have h2i : (2:Int) ≤ (s.length:Int):=(by omega);have hdl : (s.drop 2).length ≤ 600:=(by rw [List.length_drop]; omega);clear h2b;go_wp2_with fail;refine (digits_any (s.drop 2) 2 wc (by decide) (by decide) (by omega) hdg).mono ?_;rintro e w5 ⟨⟨A,c,rfl,hrow⟩,hbb⟩;have hC5:=NuC.step hC5 hbb;obtain ⟨n,hn⟩ : ∃ n,numV 2 (s.drop 2) = n:=⟨_,rfl⟩;have hrow : Row w5 A (u32s (lg n)):=(by rw [← hn]; exact hrow);rw [show dig 4294967296 (numV 2 (s.drop 2)) = lg n from by rw [hn]; rfl];have HN:=hid hn;clear hn;go_wp2_with fail;refine (integer_any A (lg n).length c w5).mono ?_;rintro e w6 ⟨rfl,hbb6⟩;have hC6:=hC5.step hbb6;have hrow6:=hrow.keepB hbb6;unfold valD at *
       go_wp2_with (first | refine wpList_store_row rfl 26 (.tmp 2) (.tmp 54) rfl w.heap.size #[.int .i64 2,.bool false,.slice A (lg n).length c,.bool false,.slice none 0 0,.string ⟨#[]⟩,.int .i64 0] rfl rfl 26 #[.int .i64 0,.bool false,.slice none 0 0,.bool false,.slice none 0 0,.string ⟨#[]⟩,.int .i64 0] hC6.v (by kernel_rfl) rfl (by simp [Value.oneCell']) ?_ | refine wpList_store_row rfl 29 (.tmp 3) (.tmp 55) rfl (w.heap.size + 1) #[.int .i64 0,.int .i64 0] rfl rfl 29 #[.int .i64 0,.int .i64 0] (hC6.p.farRow (by omega) _) (by kernel_rfl) rfl (by simp [Value.oneCell']) ?_);rw [HN.out];exact bodyPost_ret (res_num (p:=w.heap.size) rfl rfl rfl ((hC6.v.setRow _).farRow (by omega) _) ((hC6.p.farRow (by omega) _).setRow _)) rfl ⟨below_setRow (below_setRow hC6.bel (Nat.le_refl _) _) (Nat.le_succ _) _,_,rfl,A,c,row_setRowF (row_setRow hrow6 hC6.v _) (hC6.p.farRow (by omega) _) _,by rw [if_pos rfl]; rfl⟩
    ·rw [Bool.and_eq_true] at h16;have hR:=HR.out;rw [if_pos h16] at hR;subst hR;have hdg:=only_dg dg16 h16.2;have h2 : 2 ≤ s.length:=pre_len h16.1;have hs2 : ∀ W : World,(Instr.slice 9 (.string ⟨s.toArray⟩) (some (.int .i64 2)) none none).run Tryz.prog W = .ok (.string ⟨(s.drop 2).toArray⟩) W:=fun W => drop2_run s h2 W;have h2i : (2:Int) ≤ (s.length:Int):=(by omega);have hdl : (s.drop 2).length ≤ 600:=(by rw [List.length_drop]; omega);clear h16;go_wp2_with fail;refine (digits_any (s.drop 2) 16 wc (by decide) (by decide) (by omega) hdg).mono ?_;rintro e w5 ⟨⟨A,c,rfl,hrow⟩,hbb⟩;have hC5:=NuC.step hC4 hbb;obtain ⟨n,hn⟩ : ∃ n,numV 16 (s.drop 2) = n:=⟨_,rfl⟩;have hrow : Row w5 A (u32s (lg n)):=(by rw [← hn]; exact hrow);rw [show dig 4294967296 (numV 16 (s.drop 2)) = lg n from by rw [hn]; rfl];have HN:=hid hn;clear hn;go_wp2_with fail;refine (integer_any A (lg n).length c w5).mono ?_;rintro e w6 ⟨rfl,hbb6⟩;have hC6:=hC5.step hbb6;have hrow6:=hrow.keepB hbb6;unfold valD at *
     go_wp2_with (first | refine wpList_store_row rfl 26 (.tmp 2) (.tmp 41) rfl w.heap.size #[.int .i64 2,.bool false,.slice A (lg n).length c,.bool false,.slice none 0 0,.string ⟨#[]⟩,.int .i64 0] rfl rfl 26 #[.int .i64 0,.bool false,.slice none 0 0,.bool false,.slice none 0 0,.string ⟨#[]⟩,.int .i64 0] hC6.v (by kernel_rfl) rfl (by simp [Value.oneCell']) ?_ | refine wpList_store_row rfl 29 (.tmp 3) (.tmp 42) rfl (w.heap.size + 1) #[.int .i64 0,.int .i64 0] rfl rfl 29 #[.int .i64 0,.int .i64 0] (hC6.p.farRow (by omega) _) (by kernel_rfl) rfl (by simp [Value.oneCell']) ?_);rw [HN.out];exact bodyPost_ret (res_num (p:=w.heap.size) rfl rfl rfl ((hC6.v.setRow _).farRow (by omega) _) ((hC6.p.farRow (by omega) _).setRow _)) rfl ⟨below_setRow (below_setRow hC6.bel (Nat.le_refl _) _) (Nat.le_succ _) _,_,rfl,A,c,row_setRowF (row_setRow hrow6 hC6.v _) (hC6.p.farRow (by omega) _) _,by rw [if_pos rfl]; rfl⟩
end
end Go.Proofs.YtonehlkiackhcaaGreatDoor