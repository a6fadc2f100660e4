/- The literals: a number over a power of ten is reduced alike in both ways, in plain words. Nothing is claimed here. -/
import Derived.Test.YtonehlkiackhcaaGreatDoorLitNf
set_option linter.unusedVariables false
set_option linter.unusedSimpArgs false
set_option maxRecDepth 100000
set_option maxHeartbeats 16000000
namespace Go.Proofs.YtonehlkiackhcaaGreatDoor
section
open Go.RowKit Go.Lib Go.Sort
theorem res_num {w : World} {tmps : Array Value} {p : Nat} {cs : Array Value} {c i : Int} (hs : cs.size = 7) (h2 : tmps.getD 2 undef = .pointer (some ⟨p,0,none⟩)) (h3 : tmps.getD 3 undef = .pointer (some ⟨p + 1,0,none⟩)) (hP : Blk w p 26 cs) (hQ : Blk w (p + 1) 29 #[.int .i64 c,.int .i64 i]) :
  (results Tryz.f10 tmps).run Tryz.prog w = .ok (.tuple #[.agg cs,flt c i]) w:=by
 have h2' : tmps[2]?.getD undef = .pointer (some ⟨p,0,none⟩):=by simpa using h2
 have h3' : tmps[3]?.getD undef = .pointer (some ⟨p + 1,0,none⟩):=by simpa using h3
 have hv:=run_loadVar_row w p 26 26 cs (0,0) _ hP Tryz.underlying26 rfl (by rw [hs]; kernel_rfl);have hd:=run_loadVar_row w (p + 1) 29 29 #[.int .i64 c,.int .i64 i] (0,0) _ hQ Tryz.underlying29 rfl (by kernel_rfl);simp [results,Tryz.results10,h2',h3',asAddr,hv,hd,flt]
theorem dg16 : ∀ i : Fin 256,fg16.contains (UInt8.ofNat i.val) = true → isDg 16 (UInt8.ofNat i.val) = true:=by decide
theorem dg10 : ∀ i : Fin 256,fg10.contains (UInt8.ofNat i.val) = true → isDg 10 (UInt8.ofNat i.val) = true:=by decide
theorem dg2 : ∀ i : Fin 256,fg2.contains (UInt8.ofNat i.val) = true → isDg 2 (UInt8.ofNat i.val) = true:=by decide
theorem only_dg {t cs : List UInt8} {B : Nat} (hd : ∀ i : Fin 256,cs.contains (UInt8.ofNat i.val) = true → isDg B (UInt8.ofNat i.val) = true) (h : onlyV t cs = true) : ∀ c ∈ t,isDg B c = true:=by
 intro c hc;unfold onlyV at h;rw [Bool.and_eq_true] at h;have h1:=List.all_eq_true.1 h.2 c hc;have h2:=hd ⟨c.toNat,c.toNat_lt⟩;simp only [UInt8.ofNat_toNat] at h2;exact h2 h1
theorem pre_len {s : List UInt8} {a b : UInt8} (h : hasPrefix s [a,b] = true) : 2 ≤ s.length:=by
 unfold hasPrefix at h;have h1:=(List.isPrefixOf_iff_prefix.1 h).length_le;simpa using h1
theorem drop2_run (s : List UInt8) (h : 2 ≤ s.length) (W : World) : (Instr.slice 9 (.string ⟨s.toArray⟩) (some (.int .i64 2)) none none).run Tryz.prog W = .ok (.string ⟨(s.drop 2).toArray⟩) W:=by
 rw [run_slice_string_from_if W 9 ⟨s.toArray⟩ .i64 _ Tryz.underlying9,if_pos ⟨by omega,by simp [ByteArray.size]; omega⟩];rw [show (2:Int).toNat = 2 from rfl,extract_from _ _ _ (by simp [ByteArray.size])]
theorem row_setRowF {w : World} {g : Nat} {A : Option Addr} {l : List Nat} (h : Row w A (u32s l)) (hB : Blk w g 29 #[.int .i64 0,.int .i64 0]) (cs : Array Value) : Row (w.setRow g cs) A (u32s l):=by
 rcases h with h0 | ⟨b,off,rfl,hlt,hc⟩
 ·exact .inl h0
 ·cases l with
  | nil => exact .inl rfl
  | cons x l =>
   have hne : b ≠ g:=by
    rintro rfl;have h1:=hc 0 (.int .u32 (x:Int)) rfl;rw [hB.cell] at h1;rcases off with _ | _ | off <;> simp at h1
   have hh : (w.setRow g cs).heap[b]? = w.heap[b]?:=by
    unfold World.setRow;simp only [Array.getElem?_modify];rw [if_neg (fun e => hne e.symm)]
   refine .inr ⟨b,off,rfl,by simpa [World.setRow] using hlt,fun j u hu => ?_⟩;rw [World.cell?_of_block (w:=w) hh];exact hc j u hu
theorem cut_no {s u f : List UInt8} (h : cut s [46] = (u,f,false)) : u = s:=by
 unfold cut at h;split at h
 ·cases h
 ·cases h; rfl
theorem dec_only {u : List UInt8} (h : decOk u = true) : onlyV u fg10 = true:=by
 unfold decOk at h;rw [Bool.and_eq_true] at h;exact h.1
theorem cut_yes {s u f : List UInt8} {b : Bool} (h : cut s [46] = (u,f,b)) : u.length + f.length ≤ s.length:=by
 unfold cut at h;split at h
 ·cases h; rw [List.length_take,List.length_drop]; omega
 ·cases h; exact Nat.le_refl _
theorem isDg_lt {B : Nat} {c : UInt8} (h : isDg B c = true) : dval c < B:=by
 unfold isDg at h;rw [Bool.and_eq_true] at h;exact of_decide_eq_true h.2
theorem ne48 (x : UInt8) : (((x.toNat:Nat):Int) != 48) = decide (x ≠ 48):=by
 by_cases hx : x = 48
 ·subst hx; rfl
 ·have h1 : x.toNat ≠ 48:=fun h => hx (UInt8.toNat_inj.1 h);rw [decide_eq_true hx,bne_iff_ne];omega
structure NuC (w : World) (wi : World) : Prop where
 v : Blk wi w.heap.size 26 #[.int .i64 0,.bool false,.slice none 0 0,.bool false,.slice none 0 0,.string ⟨#[]⟩,.int .i64 0]
 p : Blk wi (w.heap.size + 1) 29 #[.int .i64 0,.int .i64 0]
 bel : Below w.heap.size w wi
theorem NuC.step {w wi wj : World} (h : NuC w wi) (hb : Below wi.heap.size wi wj) : NuC w wj:=⟨h.v.belowS hb,h.p.belowS hb,below_then h.bel hb h.bel.size⟩
theorem NuC.new (w : World) : NuC w ((w.alloc (.cells #[.int .i64 0,.bool false,.slice none 0 0,.bool false,.slice none 0 0,.string ⟨#[]⟩,.int .i64 0] 26)).alloc (.cells #[.int .i64 0,.int .i64 0] 29)):=by
 refine ⟨(Blk.new w 26 _).alloc _,?_,((Below.refl _ w).alloc (Nat.le_refl _) _).alloc (by simp) _⟩;have h:=Blk.new (w.alloc (.cells #[.int .i64 0,.bool false,.slice none 0 0,.bool false,.slice none 0 0,.string ⟨#[]⟩,.int .i64 0] 26)) 29 #[.int .i64 0,.int .i64 0]
 rwa [show (w.alloc (.cells #[.int .i64 0,.bool false,.slice none 0 0,.bool false,.slice none 0 0,.string ⟨#[]⟩,.int .i64 0] 26)).heap.size = w.heap.size + 1 from by simp] at h
theorem litnum_any (s : List UInt8) (w : World) (hl : s.length ≤ 9223372036854775807) (hm : Lim w) :
  Calls Tryz.prog 10 #[.string ⟨s.toArray⟩] w (NuPost w (numR s)):=by
 obtain ⟨R,hR⟩ : ∃ R,numR s = R:=⟨_,rfl⟩;rw [hR];unfold numR at hR
 by_cases h6 : 600 < s.length
 ·rw [if_pos h6] at hR;subst hR;have h6i : (600:Int) < (s.length:Int):=(by omega);go_enter Tryz.func10,Tryz.ntmps10;go_wp2_with fail;refine (lfault_any 3 (-1) _).mono ?_;rintro e w9 ⟨rfl,hbb9⟩;have hC9:=(NuC.new w).step hbb9;go_wp2_with (first | refine wpList_store_row rfl 26 (.tmp 2) (.tmp 11) rfl w.heap.size #[.int .i64 0,.bool false,.slice none 0 0,.bool false,.slice none 0 0,.string ⟨#[]⟩,.int .i64 0] rfl rfl 26 #[.int .i64 0,.bool false,.slice none 0 0,.bool false,.slice none 0 0,.string ⟨#[]⟩,.int .i64 0] hC9.v (by kernel_rfl) rfl (by simp [Value.oneCell']) ?_ | refine wpList_store_row rfl 29 (.tmp 3) (.tmp 12) rfl (w.heap.size + 1) #[.int .i64 3,.int .i64 (-1)] rfl rfl 29 #[.int .i64 0,.int .i64 0] (hC9.p.farRow (by omega) _) (by kernel_rfl) rfl (by simp [Value.oneCell']) ?_);exact bodyPost_ret (res_num (p:=w.heap.size) rfl rfl rfl ((hC9.v.setRow _).farRow (by omega) _) ((hC9.p.farRow (by omega) _).setRow _)) rfl ⟨below_setRow (below_setRow hC9.bel (Nat.le_refl _) _) (Nat.le_succ _) _,rfl⟩
 ·rw [if_neg h6] at hR;have HR:=hid hR;have h6i : ¬ (600:Int) < (s.length:Int):=(by omega);clear hR;have hC:=NuC.new w;have hsl : s.length ≤ 600:=(by omega);have HCU:=hid (fun W (h : Lim W) => scut_any s W (by omega) h);obtain ⟨⟨u,f,b⟩,hcu⟩ : ∃ x,cut s [46] = x:=⟨_,rfl⟩;rw [hcu] at HR HCU;have HCE:=hid hcu;clear hcu;dsimp only at HR HCU;go_enter Tryz.func10,Tryz.ntmps10;go_wp2_with fail;refine (HCU.out _ (hm.keepB hC.bel)).mono ?_;rintro e w2 ⟨rfl,nn,rfl⟩;have hC2:=hC.step (below_drewN (Below.refl _ _) nn);generalize hW2 : World.drewN _ nn = w2 at hC2 ⊢;clear hW2 hC;have hul1:=cut_yes HCE.out;have hul : u.length ≤ 600:=(by omega);have hfl : f.length ≤ 600:=(by omega);have hufl : u.length + f.length ≤ 600:=(by omega);clear hul1
  go_upto_region 4 with fail
  go_cut [7] from 19 to 29 (fun s7 wx => s7 = .bool (decOk u)∧NuC w wx)
  case first =>
   have HO:=hid (only_any u fg10 w2 (by omega) (by decide) (by decide));cases ho : onlyV u fg10
   ·rw [ho] at HO;have HD:=hid (show decOk u = false from by unfold decOk; rw [ho]; rfl);clear ho;go_wp2_with fail;refine HO.out.mono ?_;rintro e w3 ⟨rfl,hbb⟩;have hC3:=hC2.step hbb;clear hC2 hbb;go_wp2_with fail;go_meet;exact ⟨by rw [HD.out],hC3⟩
   ·rw [ho] at HO;obtain ⟨x,u',rfl⟩ : ∃ x u',u = x :: u':=by
     cases u with
     | nil => exact absurd ho (by decide)
     | cons x u' => exact ⟨x,u',rfl⟩
    have HD:=hid (show decOk (x :: u') = (decide (x :: u' = [48]) || decide (x ≠ 48)) from by unfold decOk; rw [ho]; simp);clear ho
    by_cases hz : x :: u' = [48]
    ·have hzb : ((x :: u') == [48]) = true:=(by simpa using hz);rw [decide_eq_true hz] at HD;clear hz;go_wp2_with fail;refine HO.out.mono ?_;rintro e w3 ⟨rfl,hbb⟩;have hC3:=hC2.step hbb;clear hC2 hbb;go_wp2_with fail;go_meet;exact ⟨by rw [HD.out]; rfl,hC3⟩
    ·have hzb : ((x :: u') == [48]) = false:=(by simpa using hz);rw [decide_eq_false hz] at HD;clear hz;go_wp2_with fail;refine HO.out.mono ?_;rintro e w3 ⟨rfl,hbb⟩;have hC3:=hC2.step hbb;clear hC2 hbb;go_wp2_with fail;go_meet;refine ⟨?_,hC3⟩;rw [HD.out,Bool.false_or];show Value.bool (((x.toNat:Nat):Int) != 48) = _;rw [ne48 x]
  case rest =>
   obtain ⟨rfl,hC3⟩:=hcut;clear hC2
   go_upto_region 5 with fail
   go_cut [30] from 31 to 37 (fun s30 wx => s30 = .bool (hasPrefix s [48,120] && onlyV (s.drop 2) fg16)∧NuC w wx)
   case first =>
    have HP:=hid (fun W => shasp_any s [48,120] W);cases hp : hasPrefix s [48,120]
    ·rw [hp] at HP;have HPE:=hid hp;clear hp;go_wp2_with fail;refine (HP.out _).mono ?_;rintro e w9 ⟨rfl,rfl⟩;go_wp2_with fail;go_meet;exact ⟨by rw [HPE.out]; rfl,hC3⟩
    ·rw [hp] at HP;have h2 : 2 ≤ s.length:=pre_len hp;have hs2 : ∀ W : World,(Instr.slice 9 (.string ⟨s.toArray⟩) (some (.int .i64 2)) none none).run Tryz.prog W = .ok (.string ⟨(s.drop 2).toArray⟩) W:=fun W => drop2_run s h2 W;have h2i : (2:Int) ≤ (s.length:Int):=(by omega);have hdl : (s.drop 2).length ≤ 600:=(by rw [List.length_drop]; omega);obtain ⟨D,hD⟩ : ∃ D,s.drop 2 = D:=⟨_,rfl⟩;rw [hD] at hs2 hdl;have HPE:=hid hp;have HDE:=hid hD;clear hp hD;go_wp2_with fail;refine (HP.out _).mono ?_;rintro e w9 ⟨rfl,rfl⟩;go_wp2_with fail;refine (only_any D fg16 _ (by omega) (by decide) (by decide)).mono ?_;rintro e w9 ⟨rfl,hbb⟩;have hC9:=hC3.step hbb;go_wp2_with fail;go_meet;exact ⟨by rw [HPE.out,HDE.out,Bool.true_and],hC9⟩
   case rest =>
    obtain ⟨rfl,hC4⟩:=hcut;clear hC3;cases h16 : (hasPrefix s [48,120] && onlyV (s.drop 2) fg16)
    ·have hR:=HR.out;rw [if_neg (by rw [← Bool.and_eq_true,h16]; decide)] at hR;have HR2:=hid hR;clear hR h16
     go_upto_region 7 with fail
     go_cut [43] from 44 to 50 (fun s43 wx => s43 = .bool (hasPrefix s [48,98] && onlyV (s.drop 2) fg2)∧NuC w wx)
     case first =>
      have HP:=hid (fun W => shasp_any s [48,98] W);cases hp : hasPrefix s [48,98]
      ·rw [hp] at HP;have HPE:=hid hp;clear hp;go_wp2_with fail;refine (HP.out _).mono ?_;rintro e w9 ⟨rfl,rfl⟩;go_wp2_with fail;go_meet;exact ⟨by rw [HPE.out]; rfl,hC4⟩
      ·rw [hp] at HP;have h2 : 2 ≤ s.length:=pre_len hp;have hs2 : ∀ W : World,(Instr.slice 9 (.string ⟨s.toArray⟩) (some (.int .i64 2)) none none).run Tryz.prog W = .ok (.string ⟨(s.drop 2).toArray⟩) W:=fun W => drop2_run s h2 W;have h2i : (2:Int) ≤ (s.length:Int):=(by omega);have hdl : (s.drop 2).length ≤ 600:=(by rw [List.length_drop]; omega);obtain ⟨D,hD⟩ : ∃ D,s.drop 2 = D:=⟨_,rfl⟩;rw [hD] at hs2 hdl;have HPE:=hid hp;have HDE:=hid hD;clear hp hD;go_wp2_with fail;refine (HP.out _).mono ?_;rintro e w9 ⟨rfl,rfl⟩;go_wp2_with fail;refine (only_any D fg2 _ (by omega) (by decide) (by decide)).mono ?_;rintro e w9 ⟨rfl,hbb⟩;have hC9:=hC4.step hbb;go_wp2_with fail;go_meet;exact ⟨by rw [HPE.out,HDE.out,Bool.true_and],hC9⟩
     case rest =>
      obtain ⟨rfl,hC5⟩:=hcut;clear hC4 HR;cases h2b : (hasPrefix s [48,98] && onlyV (s.drop 2) fg2)
      ·have hR:=HR2.out;rw [if_neg (by rw [← Bool.and_eq_true,h2b]; decide)] at hR;have HR3:=hid hR;clear hR h2b HR2;cases hdk : decOk u
       ·rw [hdk] at HR3;clear hdk;have HF : Hid (R = .fault 1):=hid (by rw [← HR3.out]; simp);go_wp2_with fail;refine (lfault_any (1) (-1) wc).mono ?_;rintro e w9 ⟨rfl,hbb9⟩;have hC9:=NuC.step hC5 hbb9;go_wp2_with (first | refine wpList_store_row rfl 26 (.tmp 2) (.tmp 80) rfl w.heap.size #[.int .i64 0,.bool false,.slice none 0 0,.bool false,.slice none 0 0,.string ⟨#[]⟩,.int .i64 0] rfl rfl 26 #[.int .i64 0,.bool false,.slice none 0 0,.bool false,.slice none 0 0,.string ⟨#[]⟩,.int .i64 0] hC9.v (by kernel_rfl) rfl (by simp [Value.oneCell']) ?_ | refine wpList_store_row rfl 29 (.tmp 3) (.tmp 81) rfl (w.heap.size + 1) #[.int .i64 (1),.int .i64 (-1)] rfl rfl 29 #[.int .i64 0,.int .i64 0] (hC9.p.farRow (by omega) _) (by kernel_rfl) rfl (by simp [Value.oneCell']) ?_);rw [HF.out];exact bodyPost_ret (res_num (p:=w.heap.size) rfl rfl rfl ((hC9.v.setRow _).farRow (by omega) _) ((hC9.p.farRow (by omega) _).setRow _)) rfl ⟨below_setRow (below_setRow hC9.bel (Nat.le_refl _) _) (Nat.le_succ _) _,rfl⟩
       ·rw [hdk] at HR3;cases b
        ·obtain rfl : u = s:=cut_no HCE.out;have hR : NumR.whole (numV 10 u) = R:=(by rw [← HR3.out]; simp);subst hR;have hdg:=only_dg dg10 (dec_only hdk);clear hdk;go_wp2_with fail;refine (digits_any (u) 10 wc (by decide) (by decide) (by omega) hdg).mono ?_;rintro e w5 ⟨⟨A,c,rfl,hrow⟩,hbb⟩;have hC5:=NuC.step hC5 hbb;obtain ⟨n,hn⟩ : ∃ n,numV 10 (u) = n:=⟨_,rfl⟩;have hrow : Row w5 A (u32s (lg n)):=(by rw [← hn]; exact hrow);rw [show dig 4294967296 (numV 10 (u)) = lg n from by rw [hn]; rfl];have HN:=hid hn;clear hn;go_wp2_with fail;refine (integer_any A (lg n).length c w5).mono ?_;rintro e w6 ⟨rfl,hbb6⟩;have hC6:=hC5.step hbb6;have hrow6:=hrow.keepB hbb6;unfold valD at *
         go_wp2_with (first | refine wpList_store_row rfl 26 (.tmp 2) (.tmp 64) rfl w.heap.size #[.int .i64 2,.bool false,.slice A (lg n).length c,.bool false,.slice none 0 0,.string ⟨#[]⟩,.int .i64 0] rfl rfl 26 #[.int .i64 0,.bool false,.slice none 0 0,.bool false,.slice none 0 0,.string ⟨#[]⟩,.int .i64 0] hC6.v (by kernel_rfl) rfl (by simp [Value.oneCell']) ?_ | refine wpList_store_row rfl 29 (.tmp 3) (.tmp 65) rfl (w.heap.size + 1) #[.int .i64 0,.int .i64 0] rfl rfl 29 #[.int .i64 0,.int .i64 0] (hC6.p.farRow (by omega) _) (by kernel_rfl) rfl (by simp [Value.oneCell']) ?_);rw [HN.out];exact bodyPost_ret (res_num (p:=w.heap.size) rfl rfl rfl ((hC6.v.setRow _).farRow (by omega) _) ((hC6.p.farRow (by omega) _).setRow _)) rfl ⟨below_setRow (below_setRow hC6.bel (Nat.le_refl _) _) (Nat.le_succ _) _,_,rfl,A,c,row_setRowF (row_setRow hrow6 hC6.v _) (hC6.p.farRow (by omega) _) _,by rw [if_pos rfl]; rfl⟩
        ·have HO:=hid (only_any f fg10 wc (by omega) (by decide) (by decide));cases ho : onlyV f fg10
         ·rw [ho] at HO;have HF : Hid (R = .fault 1):=hid (by rw [← HR3.out]; simp [ho]);clear ho hdk;go_wp2_with fail;refine HO.out.mono ?_;rintro e w3 ⟨rfl,hbb⟩;have hC6:=hC5.step hbb;clear hC5 hbb;go_wp2_with fail;refine (lfault_any (1) (-1) w3).mono ?_;rintro e w9 ⟨rfl,hbb9⟩;have hC9:=NuC.step hC6 hbb9;go_wp2_with (first | refine wpList_store_row rfl 26 (.tmp 2) (.tmp 80) rfl w.heap.size #[.int .i64 0,.bool false,.slice none 0 0,.bool false,.slice none 0 0,.string ⟨#[]⟩,.int .i64 0] rfl rfl 26 #[.int .i64 0,.bool false,.slice none 0 0,.bool false,.slice none 0 0,.string ⟨#[]⟩,.int .i64 0] hC9.v (by kernel_rfl) rfl (by simp [Value.oneCell']) ?_ | refine wpList_store_row rfl 29 (.tmp 3) (.tmp 81) rfl (w.heap.size + 1) #[.int .i64 (1),.int .i64 (-1)] rfl rfl 29 #[.int .i64 0,.int .i64 0] (hC9.p.farRow (by omega) _) (by kernel_rfl) rfl (by simp [Value.oneCell']) ?_);rw [HF.out];exact bodyPost_ret (res_num (p:=w.heap.size) rfl rfl rfl ((hC9.v.setRow _).farRow (by omega) _) ((hC9.p.farRow (by omega) _).setRow _)) rfl ⟨below_setRow (below_setRow hC9.bel (Nat.le_refl _) _) (Nat.le_succ _) _,rfl⟩
         ·rw [ho] at HO;have hR : NumR.point (numV 10 (u ++ f)) f.length = R:=(by rw [← HR3.out]; simp [ho]);subst hR;have hdg : ∀ c ∈ u ++ f,isDg 10 c = true:=by
           intro c hc;rcases List.mem_append.1 hc with h | h
           ·exact only_dg dg10 (dec_only hdk) c h
           ·exact only_dg dg10 ho c h
          clear ho hdk;have hT : (u ++ f).length ≤ 600:=(by rw [List.length_append]; omega);obtain ⟨T,hTe⟩ : ∃ T,u ++ f = T:=⟨_,rfl⟩;have hadd : ∀ W : World,(Op.stringOp .add ⟨u.toArray⟩ ⟨f.toArray⟩).run Tryz.prog W = .ok (.string ⟨T.toArray⟩) W:=fun W => by rw [← hTe]; exact run_string_add_lists W u f (by omega) (by omega)
          have HTE:=hid hTe;rw [hTe] at hdg hT;clear hTe;go_wp2_with fail;refine HO.out.mono ?_;rintro e w3 ⟨rfl,hbb⟩;have hC6:=hC5.step hbb;clear hC5 hbb;go_wp2_with fail;refine (digits_any T 10 w3 (by decide) (by decide) (by omega) hdg).mono ?_;rintro e w5 ⟨⟨A,c,rfl,hrow⟩,hbb⟩;have hC7:=hC6.step hbb;have hng : (lg (numV 10 T)).length ≤ 1000:=Nat.le_trans (dig_numV_len 10 (by decide) T (fun c hc => isDg_lt (hdg c hc))) (by omega);obtain ⟨n,hn⟩ : ∃ n,numV 10 T = n:=⟨_,rfl⟩;have hrow : Row w5 A (u32s (lg n)):=(by rw [← hn]; exact hrow);rw [show dig 4294967296 (numV 10 T) = lg n from by rw [hn]; rfl];rw [hn] at hng;have HXX : Hid (∀ w' v,NumVal w' v (outS n f.length 2) → NumVal w' v (outS (numV 10 (u ++ f)) f.length 2)):=hid (by rw [HTE.out,hn]; exact fun _ _ h => h);clear hn hdg hbb hC6;go_wp2_with fail;refine (reduce_any n f.length A c hng (by omega) hrow).mono ?_;rintro e w6 ⟨hbb6,A',c',hr6,hif⟩;have hC8:=hC7.step hbb6;clear hC7 hbb6 hrow hng;obtain ⟨⟨y1,y2⟩,hX⟩ : ∃ X,outS n f.length 2 = X:=⟨_,rfl⟩;rw [hX] at hr6 hif HXX;dsimp only at hr6 hif;clear hX
          by_cases hy : y2 = 1
          ·rw [if_pos hy] at hif;subst hif;unfold valD at *
           go_wp2_with (first | refine wpList_store_row rfl 26 (.tmp 2) (.tmp 78) rfl w.heap.size #[.int .i64 2,.bool false,.slice A' (lg y1).length c',.bool false,.slice none 0 0,.string ⟨#[]⟩,.int .i64 0] rfl rfl 26 #[.int .i64 0,.bool false,.slice none 0 0,.bool false,.slice none 0 0,.string ⟨#[]⟩,.int .i64 0] hC8.v (by kernel_rfl) rfl (by simp [Value.oneCell']) ?_ | refine wpList_store_row rfl 29 (.tmp 3) (.tmp 79) rfl (w.heap.size + 1) #[.int .i64 0,.int .i64 0] rfl rfl 29 #[.int .i64 0,.int .i64 0] (hC8.p.farRow (by omega) _) (by kernel_rfl) rfl (by simp [Value.oneCell']) ?_);exact bodyPost_ret (res_num (p:=w.heap.size) rfl rfl rfl ((hC8.v.setRow _).farRow (by omega) _) ((hC8.p.farRow (by omega) _).setRow _)) rfl ⟨below_setRow (below_setRow hC8.bel (Nat.le_refl _) _) (Nat.le_succ _) _,_,rfl,HXX.out _ _ ⟨A',c',row_setRowF (row_setRow hr6 hC8.v _) (hC8.p.farRow (by omega) _) _,by rw [if_pos hy]; rfl⟩⟩
          ·rw [if_neg hy] at hif;obtain ⟨A2,c2,hr2,rfl⟩:=hif;have HY:=hid hy;clear hy;unfold valD at *
           go_wp2_with (first | refine wpList_store_row rfl 26 (.tmp 2) (.tmp 78) rfl w.heap.size #[.int .i64 3,.bool false,.slice A' (lg y1).length c',.bool false,.slice A2 (lg y2).length c2,.string ⟨#[]⟩,.int .i64 0] rfl rfl 26 #[.int .i64 0,.bool false,.slice none 0 0,.bool false,.slice none 0 0,.string ⟨#[]⟩,.int .i64 0] hC8.v (by kernel_rfl) rfl (by simp [Value.oneCell']) ?_ | refine wpList_store_row rfl 29 (.tmp 3) (.tmp 79) rfl (w.heap.size + 1) #[.int .i64 0,.int .i64 0] rfl rfl 29 #[.int .i64 0,.int .i64 0] (hC8.p.farRow (by omega) _) (by kernel_rfl) rfl (by simp [Value.oneCell']) ?_);exact bodyPost_ret (res_num (p:=w.heap.size) rfl rfl rfl ((hC8.v.setRow _).farRow (by omega) _) ((hC8.p.farRow (by omega) _).setRow _)) rfl ⟨below_setRow (below_setRow hC8.bel (Nat.le_refl _) _) (Nat.le_succ _) _,_,rfl,HXX.out _ _ ⟨A',c',row_setRowF (row_setRow hr6 hC8.v _) (hC8.p.farRow (by omega) _) _,by rw [if_neg HY.out]; exact ⟨A2,c2,row_setRowF (row_setRow hr2 hC8.v _) (hC8.p.farRow (by omega) _) _,rfl⟩⟩⟩
      ·rw [Bool.and_eq_true] at h2b;have hR:=HR2.out;rw [if_pos h2b] at hR;subst hR;have hdg:=only_dg dg2 h2b.2;have h2 : 2 ≤ s.length:=pre_len h2b.1;have hs2 : ∀ W : World,(Instr.slice 9 (.string ⟨s.toArray⟩) (some (.int .i64 2)) none none).run Tryz.prog W = .ok (.string ⟨(s.drop 2).toArray⟩) W:=fun W => drop2_run s h2 W;have h2i : (2:Int) ≤ (s.length:Int):=(by omega);have hdl : (s.drop 2).length ≤ 600:=(by rw [List.length_drop]; omega);clear h2b;go_wp2_with fail;refine (digits_any (s.drop 2) 2 wc (by decide) (by decide) (by omega) hdg).mono ?_;rintro e w5 ⟨⟨A,c,rfl,hrow⟩,hbb⟩;have hC5:=NuC.step hC5 hbb;obtain ⟨n,hn⟩ : ∃ n,numV 2 (s.drop 2) = n:=⟨_,rfl⟩;have hrow : Row w5 A (u32s (lg n)):=(by rw [← hn]; exact hrow);rw [show dig 4294967296 (numV 2 (s.drop 2)) = lg n from by rw [hn]; rfl];have HN:=hid hn;clear hn;go_wp2_with fail;refine (integer_any A (lg n).length c w5).mono ?_;rintro e w6 ⟨rfl,hbb6⟩;have hC6:=hC5.step hbb6;have hrow6:=hrow.keepB hbb6;unfold valD at *
       go_wp2_with (first | refine wpList_store_row rfl 26 (.tmp 2) (.tmp 54) rfl w.heap.size #[.int .i64 2,.bool false,.slice A (lg n).length c,.bool false,.slice none 0 0,.string ⟨#[]⟩,.int .i64 0] rfl rfl 26 #[.int .i64 0,.bool false,.slice none 0 0,.bool false,.slice none 0 0,.string ⟨#[]⟩,.int .i64 0] hC6.v (by kernel_rfl) rfl (by simp [Value.oneCell']) ?_ | refine wpList_store_row rfl 29 (.tmp 3) (.tmp 55) rfl (w.heap.size + 1) #[.int .i64 0,.int .i64 0] rfl rfl 29 #[.int .i64 0,.int .i64 0] (hC6.p.farRow (by omega) _) (by kernel_rfl) rfl (by simp [Value.oneCell']) ?_);rw [HN.out];exact bodyPost_ret (res_num (p:=w.heap.size) rfl rfl rfl ((hC6.v.setRow _).farRow (by omega) _) ((hC6.p.farRow (by omega) _).setRow _)) rfl ⟨below_setRow (below_setRow hC6.bel (Nat.le_refl _) _) (Nat.le_succ _) _,_,rfl,A,c,row_setRowF (row_setRow hrow6 hC6.v _) (hC6.p.farRow (by omega) _) _,by rw [if_pos rfl]; rfl⟩
    ·rw [Bool.and_eq_true] at h16;have hR:=HR.out;rw [if_pos h16] at hR;subst hR;have hdg:=only_dg dg16 h16.2;have h2 : 2 ≤ s.length:=pre_len h16.1;have hs2 : ∀ W : World,(Instr.slice 9 (.string ⟨s.toArray⟩) (some (.int .i64 2)) none none).run Tryz.prog W = .ok (.string ⟨(s.drop 2).toArray⟩) W:=fun W => drop2_run s h2 W;have h2i : (2:Int) ≤ (s.length:Int):=(by omega);have hdl : (s.drop 2).length ≤ 600:=(by rw [List.length_drop]; omega);clear h16;go_wp2_with fail;refine (digits_any (s.drop 2) 16 wc (by decide) (by decide) (by omega) hdg).mono ?_;rintro e w5 ⟨⟨A,c,rfl,hrow⟩,hbb⟩;have hC5:=NuC.step hC4 hbb;obtain ⟨n,hn⟩ : ∃ n,numV 16 (s.drop 2) = n:=⟨_,rfl⟩;have hrow : Row w5 A (u32s (lg n)):=(by rw [← hn]; exact hrow);rw [show dig 4294967296 (numV 16 (s.drop 2)) = lg n from by rw [hn]; rfl];have HN:=hid hn;clear hn;go_wp2_with fail;refine (integer_any A (lg n).length c w5).mono ?_;rintro e w6 ⟨rfl,hbb6⟩;have hC6:=hC5.step hbb6;have hrow6:=hrow.keepB hbb6;unfold valD at *
     go_wp2_with (first | refine wpList_store_row rfl 26 (.tmp 2) (.tmp 41) rfl w.heap.size #[.int .i64 2,.bool false,.slice A (lg n).length c,.bool false,.slice none 0 0,.string ⟨#[]⟩,.int .i64 0] rfl rfl 26 #[.int .i64 0,.bool false,.slice none 0 0,.bool false,.slice none 0 0,.string ⟨#[]⟩,.int .i64 0] hC6.v (by kernel_rfl) rfl (by simp [Value.oneCell']) ?_ | refine wpList_store_row rfl 29 (.tmp 3) (.tmp 42) rfl (w.heap.size + 1) #[.int .i64 0,.int .i64 0] rfl rfl 29 #[.int .i64 0,.int .i64 0] (hC6.p.farRow (by omega) _) (by kernel_rfl) rfl (by simp [Value.oneCell']) ?_);rw [HN.out];exact bodyPost_ret (res_num (p:=w.heap.size) rfl rfl rfl ((hC6.v.setRow _).farRow (by omega) _) ((hC6.p.farRow (by omega) _).setRow _)) rfl ⟨below_setRow (below_setRow hC6.bel (Nat.le_refl _) _) (Nat.le_succ _) _,_,rfl,A,c,row_setRowF (row_setRow hrow6 hC6.v _) (hC6.p.farRow (by omega) _) _,by rw [if_pos rfl]; rfl⟩
theorem set_i64 (j:Nat) (D : List Nat) (q:Nat) : ((i64s (List.replicate (j + 1) 0 ++ D)).toArray).setIfInBounds j (.int .i64 (q:Int)) = (i64s (List.replicate j 0 ++ q :: D)).toArray:=by
 have h : i64s (List.replicate (j + 1) 0 ++ D) = i64s (List.replicate j 0) ++ .int .i64 0 :: i64s D:=by simp [i64s,List.replicate_succ',List.append_assoc]
 rw [h,List.setIfInBounds_toArray,List.set_append_right _ _ (by simp [i64s])];simp [i64s]
theorem made_i64 (n:Nat) : madeCells (Value.cells (.int .i64 0)) n = (i64s (List.replicate n 0)).toArray:=by
 unfold madeCells;apply Array.ext
 ·simp [i64s,Value.cells]
 ·intro j h1 h2;simp [i64s,Value.cells,Nat.mod_one]
theorem blk_row64 {w : World} {b : Nat} {Q : List Nat} (hB : Blk w b 3 (i64s Q).toArray) : Row w (some ⟨b,0,none⟩) (i64s Q):=.inr ⟨b,0,rfl,hB.lt,fun i u hu => by
 rw [Nat.zero_add,hB.cell i];simpa using hu⟩
theorem ddivide_any {w : World} (l : List Nat) (A : Option Addr) (c d:Nat) (hl : ∀ x ∈ l,x < 10) (hlen : l.length ≤ 10000) (hd0 : 0 < d) (hd : d ≤ 4294967296) (hr : Row w A (i64s l)) :
  Calls Tryz.prog 52 #[.slice A l.length c,.int .i64 (d:Int)] w fun e w' => (∃ c',e = .returned (.tuple #[.slice (some ⟨w.heap.size,0,none⟩) (trimZ (divGo 10 d l).1).length c',.int .i64 ((divGo 10 d l).2:Int)])∧(trimZ (divGo 10 d l).1).length ≤ c'∧Row w' (some ⟨w.heap.size,0,none⟩) (i64s (trimZ (divGo 10 d l).1)))∧Below w.heap.size w w':=by
 obtain ⟨iu,hiu,huz0,huz1,huz2⟩:=info_parts info_i64;obtain ⟨R,hR⟩ : ∃ R,divGo 10 d l = R:=⟨_,rfl⟩;rw [hR];have HRR:=hid hR;clear hR;have hrun:=run_make (P:=Tryz.prog) w 52 3 iu (.int .i64 0) Tryz.underlying52 hiu huz0 .i64 .i64 (l.length:Int) (l.length:Int) (by omega) (Int.le_refl _) (by rw [huz2]; omega) (by omega);rw [huz1,Int.toNat_natCast,Nat.mul_one,made_i64] at hrun;have hB:=Blk.new w 3 (i64s (List.replicate l.length 0)).toArray;have hb:=(Below.refl w.heap.size w).alloc (Nat.le_refl _) (.cells (i64s (List.replicate l.length 0)).toArray 3);obtain ⟨w1,hw1⟩ : ∃ x,w.alloc (.cells (i64s (List.replicate l.length 0)).toArray 3) = x:=⟨_,rfl⟩;rw [hw1] at hrun hB hb;obtain ⟨b,hbb⟩ : ∃ b,w.heap.size = b:=⟨_,rfl⟩;have HB:=hid hbb;rw [hbb] at hrun hB hb;clear hbb hw1;have HLT:=hid hl;clear hl;go_enter Tryz.func52,Tryz.ntmps52;go_wp2_with fail;clear hrun
 go_loopw [7,8] (fun r i wr => ∃ (k:Nat),k ≤ l.length∧i = .int .i64 ((k:Int) - 1)∧r = .int .i64 ((divGo 10 d (l.drop k)).2:Int)∧Blk wr b 3 (i64s (List.replicate k 0 ++ (divGo 10 d (l.drop k)).1)).toArray∧Below b w wr) (fun _ i _ => (RowKit.intOf i + 1).toNat)
 case atStart => exact ⟨l.length,Nat.le_refl _,rfl,by rw [List.drop_length]; rfl,by rw [List.drop_length]; simpa [divGo] using hB,hb⟩
 case round =>
  clear hB hb;obtain ⟨k,hk,rfl,rfl,hB,hb⟩:=hrel;rcases k with _ | j
  ·rw [show ((0:Nat):Int) - 1 = -1 from rfl];have hq0 : divGo 10 d (l.drop 0) = R:=(by rw [List.drop_zero]; exact HRR.out);rw [hq0] at hB ⊢;have hQl : R.1.length = l.length:=(by rw [← hq0,divGo_len,List.drop_zero]);obtain ⟨Q,r⟩:=R;simp only at hB hQl ⊢;rw [show List.replicate 0 0 ++ Q = Q from rfl] at hB;clear hq0;have hrow:=blk_row64 hB;have HDT:=hid (fun W (h : Row W (some ⟨b,0,none⟩) (i64s Q)) => dtrim_any (w:=W) Q (some ⟨b,0,none⟩) l.length (by omega) (by omega) h);rw [hQl] at HDT;go_wp2_with fail;refine (HDT.out _ hrow).mono ?_;rintro e w2 ⟨rfl,rfl⟩;have HTK:=hid (trimZ_take Q);go_wp2_with fail;go_ret2;rw [HB.out];exact ⟨⟨l.length,rfl,by rw [← hQl]; have:=congrArg List.length HTK.out; rw [List.length_take] at this; omega,by rw [HTK.out]; have:=row_take hrow (trimZ Q).length; unfold i64s at this ⊢; rw [List.map_take]; exact this⟩,hb⟩
  ·rw [show ((j + 1:Nat):Int) - 1 = (j:Int) by omega];have hlt : j < l.length:=(by omega);obtain ⟨b0,off,rfl,hcell⟩:=row_i64 (hr.keepB (by rw [HB.out]; exact hb)) hlt;have hdr : l.drop j = l[j] :: l.drop (j + 1):=List.drop_eq_getElem_cons hlt;obtain ⟨x,hx⟩ : ∃ x,l[j] = x:=⟨_,rfl⟩;have hx10 : x < 10:=hx ▸ HLT.out _ (List.getElem_mem hlt);rw [hx] at hcell hdr;have hnew : divGo 10 d (l.drop j) = (((divGo 10 d (l.drop (j + 1))).2 * 10 + x) / d :: (divGo 10 d (l.drop (j + 1))).1,((divGo 10 d (l.drop (j + 1))).2 * 10 + x) % d):=(by rw [hdr]; rfl);have hrest:=divGo_rest (B:=10) hd0 (l.drop (j + 1));obtain ⟨D,r,hD⟩ : ∃ D r,divGo 10 d (l.drop (j + 1)) = (D,r):=⟨_,_,rfl⟩;rw [hD] at hnew hrest hB;rw [hD];simp only at hnew hrest hB ⊢;clear hdr hx hD;have hdne : ¬ (d:Int) = 0:=(by omega);obtain ⟨N,hN⟩ : ∃ N,r * 10 + x = N:=⟨_,rfl⟩;have e3 : (r:Int) * 10 + (x:Int) = (N:Int):=(by omega);have hN9 : N ≤ 42949672960:=(by omega);have hNd : N / d < 10:=by
    rw [Nat.div_lt_iff_lt_mul hd0,← hN];omega
   have e4 : ((N:Int).tdiv (d:Int)) = ((N / d:Nat):Int):=(by rw [Int.tdiv_eq_ediv_of_nonneg (by omega)]; rfl);have e5 : ((N:Int).tmod (d:Int)) = ((N % d:Nat):Int):=(by rw [Int.tmod_eq_emod_of_nonneg (by omega)]; rfl);have hNr : N % d < d:=Nat.mod_lt _ hd0;obtain ⟨nq,hnq⟩ : ∃ nq,N / d = nq:=⟨_,rfl⟩;obtain ⟨nr,hnr⟩ : ∃ nr,N % d = nr:=⟨_,rfl⟩;rw [hN,hnq,hnr] at hnew;rw [hnq] at e4 hNd;rw [hnr] at e5 hNr;have HN:=hid hnew;clear hnew hnq hnr hN;have e6 : IntKind.i64.wrap (nq:Int) = (nq:Int):=IntWalk.i64_in _ (by omega);have e7 : IntKind.i64.wrap (nr:Int) = (nr:Int):=IntWalk.i64_in _ (by omega);have e8 : IntKind.i64.wrap (N:Int) = (N:Int):=IntWalk.i64_in _ (by omega);have hcb : wr.cell? ⟨b,j,none⟩ = some (.int .i64 0):=by
    rw [hB.cell j];simp [i64s,List.replicate_succ',List.append_assoc]
   obtain ⟨q1,q2,q3⟩:=hB.rules;go_wp2_with fail;have hB2:=hB.set_ j (.int .i64 (nq:Int));rw [set_i64] at hB2;go_roundw
   case rel => exact ⟨j,by omega,rfl,by rw [HN.out],by rw [HN.out]; exact hB2,hb.setCell (p:=⟨b,j,none⟩) (Nat.le_refl _) _⟩
   case measure => simp [RowKit.intOf]
theorem dquo_any {w : World} (n d:Nat) (A : Option Addr) (c:Nat) (hlen : (dig 10 n).length ≤ 10000) (hd0 : 0 < d) (hd : d ≤ 4294967296) (hr : Row w A (i64s (dig 10 n))) :
  Calls Tryz.prog 52 #[.slice A (dig 10 n).length c,.int .i64 (d:Int)] w fun e w' => (∃ c',e = .returned (.tuple #[.slice (some ⟨w.heap.size,0,none⟩) (dig 10 (n / d)).length c',.int .i64 ((n % d:Nat):Int)])∧(dig 10 (n / d)).length ≤ c'∧Row w' (some ⟨w.heap.size,0,none⟩) (i64s (dig 10 (n / d))))∧Below w.heap.size w w':=by
 have h:=ddivide_any (dig 10 n) A c d (dig_lt (by decide) n) hlen hd0 hd hr;obtain ⟨h1,h2⟩:=divGo_dig (B:=10) (by decide) hd0 n;rw [h1,h2] at h;exact h
theorem dig10_mono {a b : Nat} (h : a ≤ b) : (dig 10 a).length ≤ (dig 10 b).length:=by
 refine dig_len (by decide) _ _ ?_;have h1:=V_lt (B:=10) (by decide) (dig 10 b) (dig_lt (by decide) b);have h2 : V 10 (dig 10 b) = b:=V_dig (by decide) b;omega
theorem row_grown {w w' : World} {A : Option Addr} {xs : List Value} {row : Option Nat} (h : Row w A xs) (hg : w.grownBy w' row) (hne : ∀ g off,A = some ⟨g,off,none⟩ → row = some g → False) : Row w' A xs:=by
 rcases h with h0 | ⟨g,off,rfl,hlt,hc⟩
 ·exact .inl h0
 ·have hh:=hg.block g hlt (fun e => hne g off rfl e.symm);refine .inr ⟨g,off,rfl,?_,fun j u hu => ?_⟩
  ·have h1 : w.heap[g]? = some w.heap[g]:=Array.getElem?_eq_getElem hlt;rw [← hh] at h1;exact (Array.getElem?_eq_some_iff.1 h1).1
  ·rw [World.cell?_of_block (w:=w) hh];exact hc j u hu
def dgs (l : List Nat) : List UInt8:=(l.map fun x => UInt8.ofNat (48 + x)).reverse
theorem dgs_cons (x:Nat) (l : List Nat) : dgs (x :: l) = dgs l ++ [UInt8.ofNat (48 + x)]:=by simp [dgs]
theorem dgs_snoc (l : List Nat) (x:Nat) : dgs (l ++ [x]) = UInt8.ofNat (48 + x) :: dgs l:=by simp [dgs]
theorem dgs_dec : ∀ (k n:Nat),n ≤ k → n ≠ 0 → dgs (dig 10 n) = decDigits n
 | 0,n,h,h0 => absurd (Nat.le_zero.1 h) h0
 | k + 1,n,h,h0 => by
  rw [dig_pos (by decide) h0,dgs_cons];rw [decDigits]
  by_cases h10 : n < 10
  ·rw [dif_pos h10,Nat.div_eq_of_lt h10,dig_zero,Nat.mod_eq_of_lt h10];rfl
  ·rw [dif_neg h10,dgs_dec k (n / 10) (by omega) (by omega)]
theorem run_fig (x:Nat) (h : x < 10) (W : World) : (Instr.slice 9 (.string ⟨#[48,49,50,51,52,53,54,55,56,57]⟩) (some (.int .i64 (x:Int))) (some (.int .i64 ((x:Int) + 1))) none).run Tryz.prog W = .ok (.string ⟨#[UInt8.ofNat (48 + x)]⟩) W:=by
 have h1:=run_sub [48,49,50,51,52,53,54,55,56,57] x (x + 1) (by omega) (by simp; omega) (x:Int) ((x:Int) + 1) rfl (by omega) W;refine h1.trans ?_;have h2 : ∀ i : Fin 10,(([48,49,50,51,52,53,54,55,56,57] : List UInt8).drop i.val).take (i.val + 1 - i.val) = [UInt8.ofNat (48 + i.val)]:=by decide
 rw [h2 ⟨x,h⟩]
theorem dstring_any {w : World} (n:Nat) (A : Option Addr) (c:Nat) (hlen : (dig 10 n).length ≤ 10000) (hr : Row w A (i64s (dig 10 n))) :
  Calls Tryz.prog 32 #[.slice A (dig 10 n).length c] w fun e w' => e = .returned (.string ⟨(decDigits n).toArray⟩)∧w' = w:=by
 obtain ⟨l,hl⟩ : ∃ l,dig 10 n = l:=⟨_,rfl⟩;have HL:=hid hl;have HLT:=hid (fun x (hx : x ∈ l) => dig_lt (B:=10) (by decide) n x (by rw [hl]; exact hx));rw [hl] at hlen hr ⊢;clear hl;go_enter Tryz.func32,Tryz.ntmps32;go_wp2_with fail
 go_loop [3,5,8] (fun s _ i => ∃ k : Nat,k ≤ l.length∧i = .int .i64 (k:Int)∧s = .string ⟨(dgs (l.take k)).toArray⟩) (fun _ _ i => l.length - (RowKit.intOf i).toNat)
 case atStart => exact ⟨0,Nat.zero_le _,rfl,rfl⟩
 case round =>
  obtain ⟨k,hk,rfl,rfl⟩:=hrel;have hdl : (dgs (l.take k)).length ≤ 10000:=by unfold dgs; simp; omega
  by_cases hlt : k < l.length
  ·obtain ⟨ba,oa,rfl,ca⟩:=row_i64 hr hlt;have htk : l.take (k + 1) = l.take k ++ [l[k]]:=(by rw [List.take_add_one,List.getElem?_eq_getElem hlt]; rfl);obtain ⟨x,hx⟩ : ∃ x,l[k] = x:=⟨_,rfl⟩;have hx10 : x < 10:=hx ▸ HLT.out _ (List.getElem_mem hlt);rw [hx] at ca htk;have HN:=hid (show dgs (l.take (k + 1)) = UInt8.ofNat (48 + x) :: dgs (l.take k) from by rw [htk,dgs_snoc]);obtain ⟨S,hS⟩ : ∃ S,dgs (l.take k) = S:=⟨_,rfl⟩;rw [hS] at hdl HN ⊢;obtain ⟨c1,hc1⟩ : ∃ c1,UInt8.ofNat (48 + x) = c1:=⟨_,rfl⟩;have hfig:=run_fig x hx10;rw [hc1] at hfig HN;have hadd : ∀ W : World,(Op.stringOp .add ⟨#[c1]⟩ ⟨S.toArray⟩).run Tryz.prog W = .ok (.string ⟨(c1 :: S).toArray⟩) W:=fun W => run_string_add_lists W [c1] S (by simp) (by omega);obtain ⟨T,hT⟩ : ∃ T,c1 :: S = T:=⟨_,rfl⟩;rw [hT] at hadd HN;clear hx htk hS hc1 hT;go_wp2_with fail
   go_round
   case rel => exact ⟨k + 1,by omega,by go_num,by rw [HN.out]⟩
   case measure => simp [RowKit.intOf]; omega
  ·have hkl : k = l.length:=(by omega);have htl : l.take k = l:=(by rw [hkl,List.take_length]);rw [htl]
   by_cases h0 : n = 0
   ·have hle : l = []:=(by rw [← HL.out,h0,dig_zero]);subst hle;have HD:=hid (show decDigits n = [48] from by rw [h0]; rw [decDigits_one (by decide)]; rfl);rw [show dgs [] = [] from rfl];clear htl hkl h0;go_wp2_with fail;go_ret;exact ⟨by rw [HD.out]; rfl,rfl⟩
   ·have hde:=dgs_dec n n (Nat.le_refl _) h0;rw [HL.out] at hde;have hne : (dgs l).isEmpty = false:=by
     rw [← HL.out,dig_pos (n:=n) (by decide) h0,dgs_cons];cases dgs (dig 10 (n / 10)) <;> rfl
    have hne2 : ((dgs l) == []) = false:=by
     cases h : dgs l with
     | nil => rw [h] at hne; cases hne
     | cons a r => rfl
    have HD:=hid hde;obtain ⟨S,hS⟩ : ∃ S,dgs l = S:=⟨_,rfl⟩;rw [hS] at hne hne2 HD ⊢;clear htl hkl h0 hde hS;go_wp2_with fail;go_ret;exact ⟨by rw [← HD.out]; rfl,rfl⟩
def refS (B:Nat) (x : Nat × Nat) : Nat × Nat:=if x.1 % B = 0∧x.2 % B = 0 then (x.1 / B,x.2 / B) else x
def refI (B:Nat) : Nat → Nat × Nat → Nat × Nat
 | 0,x => x
 | k + 1,x => refS B (refI B k x)
def refO (n p k:Nat) : Nat × Nat:=if k = 0 then (n,10 ^ p) else if k = 1 then refI 2 p (n,10 ^ p) else refI 5 p (refI 2 p (n,10 ^ p))
theorem dig_len0 {n : Nat} : (dig 10 n).length = 0 ↔ n = 0:=by rw [List.length_eq_zero_iff]; exact dig_nil (by decide)
theorem foldl_num (B:Nat) : ∀ (f : List UInt8) (z:Nat),f.foldl (fun n c => n * B + dval c) z = z * B ^ f.length + numV B f
 | [],z => by simp [numV]
 | c :: f,z => by
  have h:=foldl_num B f (0 * B + dval c);rw [List.foldl_cons,foldl_num B f,List.length_cons,Nat.pow_succ];show _ = _ + List.foldl (fun n c => n * B + dval c) 0 (c :: f);rw [List.foldl_cons,h,Nat.zero_mul,Nat.zero_add,Nat.add_mul,Nat.mul_assoc,Nat.mul_comm B,← Nat.add_assoc]
theorem numV_app (B:Nat) (u f : List UInt8) : numV B (u ++ f) = numV B u * B ^ f.length + numV B f:=by
 unfold numV;rw [List.foldl_append];exact foldl_num B f _
theorem dec_is1 (d:Nat) : (decDigits d == [49]) = decide (d = 1):=by
 by_cases h : d < 10
 ·rw [decDigits_one h];have : ∀ i : Fin 10,(([UInt8.ofNat (48 + i.val)] : List UInt8) == [49]) = decide (i.val = 1):=(by decide);exact this ⟨d,h⟩
 ·rw [decide_eq_false (by omega),beq_eq_false_iff_ne];intro e;have h1:=decDigits_pos (d / 10);rw [decDigits,dif_neg h] at e;have h2:=congrArg List.length e;rw [List.length_append] at h2;simp at h2;have h3 : (decDigits (d / 10)).length = 0:=(by rw [h2]; rfl);omega
end
end Go.Proofs.YtonehlkiackhcaaGreatDoor