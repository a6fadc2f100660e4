/- The region with a head that reads and a tail of calls, where a panic's end may look at the frame (deferred calls): what is asked of the end is asked for the head's own slots alone. Nothing is claimed here. -/
import Derived.Stop.FmtQuoteTie
import Derived.Test.YtonehlkiackhcaaGreatDoorLitM
set_option linter.unusedVariables false
set_option linter.unusedSimpArgs false
set_option maxRecDepth 100000
set_option maxHeartbeats 16000000
namespace Go.Proofs.YtonehlkiackhcaaGreatDoor
section
open Go.RowKit Go.Lib
def runeB (n:Nat) : List UInt8:=Lib.encodeRune (n:Int)
theorem nums_back (l : List UInt8) : (Go.Extern.FmtText.nums l).map (fun x => x.toNat.toUInt8) = l:=by
 unfold Go.Extern.FmtText.nums;rw [List.map_map]
 conv => rhs; rw [← List.map_id l]
 apply List.map_congr_left;intro x _;simp
theorem enc_runeB (n:Nat) : (Utf8.encode (n:Int)).data.toList = Lib.encodeRune (n:Int):=by
 have h:=Go.Extern.FmtText.encode_eq n;unfold Lib.encodeRune;generalize (Utf8.encode (n:Int)).data.toList = X at h ⊢;rw [← h];exact (nums_back X).symm
theorem ba_of (X : ByteArray) (L : List UInt8) (h : X.data.toList = L) : X = ⟨L.toArray⟩:=by
 subst h;rfl
theorem enc_ba (n:Nat) : Utf8.encode (n:Int) = ⟨(runeB n).toArray⟩:=ba_of _ _ (enc_runeB n)
theorem runeB_len (n:Nat) : 1 ≤ (runeB n).length∧(runeB n).length ≤ 4:=by
 have h:=encodeRuneZ_length (n:Int);unfold runeB Lib.encodeRune;rw [List.length_map];exact h
theorem runeB_cells (n:Nat) : bytc (runeB n) = Lib.runeCells (n:Int):=Lib.byteCells_encodeRune (n:Int)
theorem isStr_16 {l : List UInt8} (h : isStr l = true) : l.length ≤ 16000:=by
 unfold isStr at h;split at h
 ·rename_i hs;unfold scanT at hs;split at hs
  ·cases hs
  ·rename_i h0;have h0' : (sfault l).1 = 0:=(by simpa using h0);unfold sfault at h0';split at h0'
   ·simp at h0'
   ·omega
 ·cases h
def pushB (pre : UInt8) (n:Nat) : List UInt8:=if pre = 98 then [UInt8.ofNat n] else runeB n
def strF (l : List UInt8) (x : Sht) : Nat → Nat → List UInt8 → Except Nat (List UInt8)
 | 0,_,_ => .error 0
 | f + 1,i,out => if x.lim ≤ i then .ok out else match charS l x i with
  | .error j => .error j
  | .ok (n,j) => strF l x f j (out ++ pushB x.pre n)
def strS (l : List UInt8) : Except (Int × Int) (Int × List UInt8) :=
 if isStr l = false then .error (1,-1) else if (shtOf l).pre = 102 then .error (13,-1)
 else match strF l (shtOf l) (l.length + 1) (shtOf l).frm [] with
 | .error j => .error (1,(j:Int))
 | .ok out => if 4000 < out.length then .error (14,-1) else .ok (if (shtOf l).pre = 98 then 5 else 4,out)
def valC (k:Int) (t : List UInt8) (r:Int) : Array Value:=#[.int .i64 k,.bool false,.slice none 0 0,.bool false,.slice none 0 0,.string ⟨t.toArray⟩,.int .i64 r]
theorem bytc_app (a b : List UInt8) : bytc (a ++ b) = bytc a ++ bytc b:=by simp [bytc]
theorem str_of_own {w : World} {B : Nat} {v : Value} {t : List UInt8} (h : w.ownsRow B 5 1 v t.length (bytc t)) : (convert 71 9 v).run Tryz.prog w = .ok (.string ⟨t.toArray⟩) w:=by
 obtain ⟨A,c,rfl,hr,_⟩:=own_form h;rcases hr with h0 | ⟨b,off,rfl,hlt,hc⟩
 ·have ht : t = []:=by
   have:=congrArg List.length h0;unfold bytc at this;rw [List.length_map] at this;exact List.eq_nil_of_length_eq_zero this
  subst ht;rcases h.2 with ⟨hv,_⟩ | ⟨g,cap,cur,hv,_,_,_⟩
  ·rw [hv];exact run_convert_bytes_nil w 71 5 Tryz.underlying71 Tryz.underlying5 0 0 9 Tryz.underlying9
  ·rw [hv];exact run_convert_bytes_back w 71 9 5 ⟨g,0,none⟩ cap [] Tryz.underlying71 Tryz.underlying5 Tryz.underlying9 (fun j hj => by simp at hj)
 ·refine run_convert_bytes_back w 71 9 5 ⟨b,off,none⟩ c t Tryz.underlying71 Tryz.underlying5 Tryz.underlying9 (fun j hj => ?_);have:=hc j (.int .u8 (t[j].toNat:Int)) (by simp [bytc,hj]);rw [Go.WideShapes.add_plain];exact this
theorem below_setRow {B : Nat} {W w : World} (h : Below B W w) {g : Nat} (hB : B ≤ g) (cs : Array Value) : Below B W (w.setRow g cs) :=
 ⟨h.os,h.tape,h.output,by simpa [World.setRow] using h.size,fun k hk => by
  have h1 : (w.setRow g cs).heap[k]? = w.heap[k]?:=by
   unfold World.setRow;simp only [Array.getElem?_modify];rw [if_neg (by omega)]
  rw [h1,h.block k hk]⟩
theorem res_str {w : World} {tmps : Array Value} {p : Nat} {cs : Array Value} {c i : Int} (hs : cs.size = 7) (h2 : tmps.getD 2 undef = .pointer (some ⟨p,0,none⟩)) (h3 : tmps.getD 3 undef = .pointer (some ⟨p + 1,0,none⟩)) (hP : Blk w p 26 cs) (hQ : Blk w (p + 1) 29 #[.int .i64 c,.int .i64 i]) :
  (results Tryz.f11 tmps).run Tryz.prog w = .ok (.tuple #[.agg cs,flt c i]) w:=by
 have h2' : tmps[2]?.getD undef = .pointer (some ⟨p,0,none⟩):=by simpa using h2
 have h3' : tmps[3]?.getD undef = .pointer (some ⟨p + 1,0,none⟩):=by simpa using h3
 have hv:=run_loadVar_row w p 26 26 cs (0,0) _ hP Tryz.underlying26 rfl (by rw [hs]; kernel_rfl);have hd:=run_loadVar_row w (p + 1) 29 29 #[.int .i64 c,.int .i64 i] (0,0) _ hQ Tryz.underlying29 rfl (by kernel_rfl);simp [results,Tryz.results11,h2',h3',asAddr,hv,hd,flt]
def StPost (w : World) (R : Except (Int × Int) (Int × List UInt8)) (e : Ending) (w' : World) : Prop :=
 Below w.heap.size w w'∧match R with
 | .error (c,i) => e = .returned (.tuple #[.agg (valC 0 [] 0),flt c i])
 | .ok (k,t) => e = .returned (.tuple #[.agg (valC k t 0),flt 0 0])
theorem string_any (l : List UInt8) (w : World) (hl : l.length ≤ 9223372036854775807) (he : LEnv w) :
  Calls Tryz.prog 11 #[.string ⟨l.toArray⟩] w (StPost w (strS l)):=by
 obtain ⟨R,hR⟩ : ∃ R,strS l = R:=⟨_,rfl⟩;rw [hR];have HR:=hid hR;clear hR;obtain ⟨ib,hib,hbz0,hbz1,hbz2⟩:=info_parts info_byte;have hb0 : Below w.heap.size w ((w.alloc (.cells (valC 0 [] 0) 26)).alloc (.cells #[.int .i64 0,.int .i64 0] 29)):=((Below.refl _ w).alloc (Nat.le_refl _) _).alloc (by simp) _;have hP:=(Blk.new w 26 (valC 0 [] 0)).alloc (.cells #[.int .i64 0,.int .i64 0] 29);have hQ:=Blk.new (w.alloc (.cells (valC 0 [] 0) 26)) 29 #[.int .i64 0,.int .i64 0];have hsz : (w.alloc (.cells (valC 0 [] 0) 26)).heap.size = w.heap.size + 1:=by simp
 rw [hsz] at hQ;clear hsz;unfold valC at hb0 hP hQ
 go_enter_defers Tryz.func11,Tryz.ntmps11
 go_wp2_with fail;refine (open_any l _ hl (he.keepB hb0)).mono ?_;rintro e w1 ⟨hop,hb1⟩;have hP1:=hP.belowS hb1;have hQ1:=hQ.belowS hb1;have hb:=below_then hb0 hb1 (by simp; omega);have he1:=he.keepB hb;have hsz1 : w.heap.size + 2 ≤ ((w.alloc (.cells #[.int .i64 0,.bool false,.slice none 0 0,.bool false,.slice none 0 0,.string ⟨#[]⟩,.int .i64 0] 26)).alloc (.cells #[.int .i64 0,.int .i64 0] 29)).heap.size:=by simp
 obtain ⟨b,hbb⟩ : ∃ b,isStr l = b:=⟨_,rfl⟩;have HB:=hid hbb;rw [hbb] at hop;cases b with
 | false =>
  have HRR:=hid (show R = .error (1,-1) from by rw [← HR.out]; unfold strS; rw [if_pos hbb]);simp only [OpPost] at hop;subst hop;clear hP hQ hb0 hbb hsz1;refine leaves_cons (f:=43) (args:=#[.pointer (some ⟨w.heap.size + 1,0,none⟩)]) (by simp) (by simp [go_sem]) ?_;refine (caught_pan _ 1 (-1) _ _ _ hQ1).mono ?_;rintro e u' w6 ⟨rfl,rfl,hQ6,hfr,hbl⟩;refine ⟨_,res_str (p:=w.heap.size) rfl rfl rfl (hfr _ _ _ (by omega) hP1) hQ6,hbl _ _ (by omega) hb,?_⟩;rw [HRR.out] <;> rfl
 | true =>
  obtain ⟨g,rfl,hg1,hgs⟩:=hop;have hs:=strg_of hbb;have hCA:=fun (W : World) (i:Nat) (h1 : Gd l i) (h2 : i < (shtOf l).lim) (h3 : Blk W g 70 (rdC l i (shtOf l))) (h4 : EnvR W) => character_any hs h1 h2 h3 (isStr_16 hbb) h4;have hCG:=fun (i:Nat) (h1 : Gd l i) (h2 : i < (shtOf l).lim) (n j:Nat) (h3 : charS l (shtOf l) i = .ok (n,j)) => charS_gd hs h1 h2 h3;have hGL:=fun (i:Nat) (h1 : Gd l i) => h1.le;obtain ⟨x,hx⟩ : ∃ x,shtOf l = x:=⟨_,rfl⟩;have hgd:=hs.gd;have hll:=lim_lt hs;rw [hx] at hg1 hgd hll hCA hCG hGL;have HCA:=hid hCA;have HCG:=hid hCG;have HGL:=hid hGL;clear hCA hCG hGL;have hl16 : l.length ≤ 16000:=isStr_16 hbb;have hS0 : strS l = if x.pre = 102 then .error (13,-1) else match strF l x (l.length + 1) x.frm [] with
   | .error j => .error (1,(j:Int))
   | .ok out => if 4000 < out.length then .error (14,-1) else .ok (if x.pre = 98 then 5 else 4,out):=by
   unfold strS;rw [if_neg (by rw [hbb]; decide),hx]
  rw [HR.out] at hS0;have HS:=hid hS0;clear hS0 hbb hP hQ hb0;obtain ⟨q1,q2,q3⟩:=hg1.rules;unfold rdC at q1
  by_cases h102 : x.pre = 102
  ·have HRR:=hid (show R = .error (13,-1) from by rw [HS.out,if_pos h102]);have b102 : ((x.pre.toNat:Int) == 102) = true:=(by rw [h102]; rfl);go_wp2_with fail;refine (lfault_any 13 (-1) _).mono ?_;rintro e w2 ⟨rfl,hb2⟩;have hP2:=hP1.belowS hb2;have hQ2:=hQ1.belowS hb2;obtain ⟨u1,u2,u3⟩:=(hQ2).rules;obtain ⟨v1,v2,v3⟩:=(hP2).rules;have hQz:=(hQ2).farRow (g':=w.heap.size) (by omega) (valC 0 [] 0);go_wp2_with (first | refine wpList_store_row rfl 26 (.tmp 2) (.tmp 14) rfl w.heap.size (valC 0 [] 0) rfl rfl 26 _ (hP2) (by kernel_rfl) rfl (by simp [Value.oneCell',valC]) ?_ | refine wpList_store_row rfl 29 (.tmp 3) (.tmp 15) rfl (w.heap.size + 1) #[.int .i64 (13),.int .i64 (-1)] rfl rfl 29 _ hQz (by kernel_rfl) rfl (by simp [Value.oneCell']) ?_);show Leaves Tryz.prog Tryz.f11 _ (StPost w R) [{ target:=.fn (.func 43) #[],args:=#[.pointer (some ⟨w.heap.size + 1,0,none⟩)] }] .returning _;refine leaves_cons (f:=43) (args:=#[.pointer (some ⟨w.heap.size + 1,0,none⟩)]) (by simp) (by simp [go_sem]) ?_;refine (caught_idle _ _).mono ?_;rintro e u' w6 ⟨rfl,rfl,rfl⟩;refine ⟨_,res_str (p:=w.heap.size) rfl rfl rfl (((hP2).setRow (valC 0 [] 0)).farRow (by omega) _) (hQz.setRow _),below_setRow (below_setRow (below_then hb hb2 hb.size) (Nat.le_refl _) _) (Nat.le_succ _) _,?_⟩;rw [HRR.out] <;> rfl
  ·have b102 : ((x.pre.toNat:Int) == 102) = false:=u8_ne (d:=102) h102;have HS1:=hid (HS.out.trans (if_neg h102));obtain ⟨E,hE⟩ : ∃ E,strF l x (l.length + 1) x.frm [] = E:=⟨_,rfl⟩;have HE:=hid hE;rw [hE] at HS1;have HBW:=hid hb;have hgn : NoVar g:=noVar he1.rd hg1 rfl;have hgw : w.heap.size + 2 ≤ g:=(by omega);obtain ⟨B,hBB⟩ : ∃ B,w1.heap.size = B:=⟨_,rfl⟩;have HBB:=hid hBB;have HG1:=hid hg1;clear hE HS h102 hb1;go_wp2_with fail;clear q1 q2 q3
   go_loopw [5] (fun v wr => ∃ (i f:Nat) (out : List UInt8),Hid (Gd l i)∧l.length < f + i∧Hid (strF l x f i out = E)∧out.length ≤ 4 * i∧wr.ownsRow B 5 1 v out.length (bytc out)∧Blk wr g 70 (rdC l i x)∧BX g w1 wr) (fun _ wr => l.length + 1 - posOf wr g)
   case atStart => exact ⟨x.frm,l.length + 1,[],hid hgd,by omega,HE,Nat.zero_le _,World.ownsRow_nil _ _ _ _,hg1,BX.refl g w1⟩
   case round =>
    clear hg1;obtain ⟨i,f,out,HG,hf,HE1,hol,hown,hgr,hxr⟩:=hrel;obtain ⟨A,c,rfl,hrow,_⟩:=own_form hown;have her:=he1.rd.keepX hgn hxr;have hil:=HGL.out i HG.out;have hPr:=hxr.blk hP1 (by omega);have hQr:=hxr.blk hQ1 (by omega);have hbr:=hxr.bel HBW.out (by omega) HBW.out.size;have hgB : g < B:=(by rw [← HBB.out]; exact HG1.out.lt);have hng:=hown.lt;obtain ⟨u1,u2,u3⟩:=hgr.rules;unfold rdC at u1
    by_cases hlt : i < x.lim
    ·obtain ⟨f',rfl⟩ : ∃ f',f = f' + 1:=⟨f - 1,by omega⟩;have hE2 : (match charS l x i with
      | .error j => .error j
      | .ok (n,j) => strF l x f' j (out ++ pushB x.pre n)) = E:=by
      have h:=HE1.out;unfold strF at h;rw [if_neg (by omega)] at h;exact h
     have dlt : decide ((i:Int) < (x.lim:Int)) = true:=decide_eq_true (by omega);go_wp2_with fail;go_quiet (fail);go_wp2_with fail;generalize hW : World.drewN (wr) _ = w3;have hbw : Below (wr).heap.size (wr) w3:=(by rw [← hW]; exact below_drewN (Below.refl _ _) _);have hg3:=hgr.belowS hbw;have hx3:=hxr.below hbw;have hown3:=own_below hown hbw;have he3:=her.keepB hbw;have hP3:=hPr.belowS hbw;have hQ3:=hQr.belowS hbw;have hb3:=below_then hbr hbw hbr.size;have hp0:=posOf_of (i:=i) hgr;clear hW hbw u1 u2 u3 hgr hxr hown hrow;have HCH:=hid (HCA.out w3 i HG.out hlt hg3 he3);have hcg:=HCG.out i HG.out hlt;obtain ⟨C,hC⟩ : ∃ C,charS l x i = C:=⟨_,rfl⟩;rw [hC] at HCH hE2 hcg;refine HCH.out.mono ?_;rintro e w8 ⟨hthr,hrd,hx8⟩;have hP8:=hx8.blk hP3 (by omega);have hQ8:=hx8.blk hQ3 (by omega);have hb8:=hx8.bel hb3 (by omega) hb3.size;have hx8':=hx3.trans hx8;have hown8:=hx8.own hown3 (fun e => by have:=(hown3.lt g e).1; omega);clear HCH hC hx8;rcases C with j | ⟨n,j⟩
     ·simp only [Thr] at hthr;subst hthr;have HRR:=hid (show R = .error (1,(j:Int)) from by rw [HS1.out,← hE2]);clear hcg hE2;refine leaves_cons (f:=43) (args:=#[.pointer (some ⟨w.heap.size + 1,0,none⟩)]) (by simp) (by simp [go_sem]) ?_;refine (caught_pan _ 1 (j:Int) _ _ _ (hQ8)).mono ?_;rintro e u' w6 ⟨rfl,rfl,hQ6,hfr,hbl⟩;refine ⟨_,res_str (p:=w.heap.size) rfl rfl rfl (hfr _ _ _ (by omega) (hP8)) hQ6,hbl _ _ (by omega) (hb8),?_⟩;rw [HRR.out] <;> rfl
     ·simp only [Thr] at hthr;subst hthr;have hg8:=hrd _ rfl;obtain ⟨hgj,hij,hn⟩:=hcg n j rfl;have hjl:=HGL.out j hgj;have HE3:=hid (show strF l x f' j (out ++ pushB x.pre n) = E from hE2);have hs8 : B ≤ w8.heap.size:=(by rw [← HBB.out]; exact hx8'.size);have hg8' : Blk w8 g 70 (rdC l j x):=hg8;have hpj:=posOf_of (i:=j) hg8';clear hrd hcg hE2;obtain ⟨u1,u2,u3⟩:=hg8.rules;unfold rdC at u1
      by_cases h98 : x.pre = 98
      ·have b98 : ((x.pre.toNat:Int) == 98) = true:=(by rw [h98]; rfl);have HE4:=hid (show strF l x f' j (out ++ [UInt8.ofNat n]) = E from by rw [← HE3.out]; unfold pushB; rw [if_pos h98]);have n8 : IntKind.u8.wrap (n:Int) = (((UInt8.ofNat n).toNat:Nat):Int):=(by rw [IntKind.wrap_u8]; simp);clear h98 HE3;go_wp2_with (at_builtin; refine wpList_append_own_at _ rfl (.tmp 32) (.tmp 35) 71 rfl B 5 ib (.int .u8 0) 1 1 Tryz.underlying71 hib hbz0 hbz1 hbz2 rfl (by decide) _ out.length (bytc out) rfl (hown8.alloc _) ⟨w8.heap.size,0,none⟩ 1 1 [.int .u8 (((UInt8.ofNat n).toNat:Nat):Int)] rfl rfl (cell_one_new w8 _ _) (by simp [Value.oneCell']) (by unfold maxLen; omega) (by omega) (by simp; omega) ?_; intro v9 w9 hown9 hg9 _ hat9);have hown10 : w9.ownsRow B 5 1 v9 (out ++ [UInt8.ofNat n]).length (bytc (out ++ [UInt8.ofNat n])):=by
        rw [bytc_app,List.length_append];exact hown9
       have hg10:=(hg8'.alloc (.cells #[.int .u8 (((UInt8.ofNat n).toNat:Nat):Int)] 5)).grown hg9 (fun e => by have:=(hown8.lt g e.symm).1; omega);have hx10:=(hx8'.below ((Below.refl w8.heap.size w8).alloc (Nat.le_refl _) (.cells #[.int .u8 (((UInt8.ofNat n).toNat:Nat):Int)] 5))).grown hg9 (fun k e => by have:=(hown8.lt k e).1; rw [HBB.out]; exact this);have hp10:=posOf_of (i:=j) hg10;go_roundw
       case rel => exact ⟨j,f',out ++ [UInt8.ofNat n],hid hgj,by omega,HE4,by rw [List.length_append]; simp; omega,hown10,hg10,hx10⟩
       case measure => rw [hp0,hp10]; omega
      ·have b98 : ((x.pre.toNat:Int) == 98) = false:=u8_ne (d:=98) h98;have HE4:=hid (show strF l x f' j (out ++ runeB n) = E from by rw [← HE3.out]; unfold pushB; rw [if_neg h98]);have HAR:=hid (Tryz.utf8_AppendRune_plain B (.slice A out.length c) out.length (bytc out) (n:Int) (by omega) (by omega) w8 hown8 (by omega) (by omega));clear h98 HE3;go_wp2_with fail;refine HAR.out.mono ?_;rintro e w9 ⟨v9,rfl,hown9,o,hg9⟩;rw [← runeB_cells,← bytc_app,show (bytc (runeB n)).length = (runeB n).length from by simp [bytc],← List.length_append] at hown9;have hrl:=runeB_len n;have hg10:=(hg8'.alloc o).grown hg9 (fun e => by have:=(hown8.lt g e.symm).1; omega);have hx10:=(hx8'.below ((Below.refl w8.heap.size w8).alloc (Nat.le_refl _) o)).grown hg9 (fun k e => by have:=(hown8.lt k e).1; rw [HBB.out]; exact this);have hp10:=posOf_of (i:=j) hg10;go_wp2_with fail;go_roundw
       case rel => exact ⟨j,f',out ++ runeB n,hid hgj,by omega,HE4,by rw [List.length_append]; omega,hown9,hg10,hx10⟩
       case measure => rw [hp0,hp10]; omega
    ·have dlt : decide ((i:Int) < (x.lim:Int)) = false:=decide_eq_false (by omega);have hEo : E = .ok out:=by
      have h:=HE1.out;rcases f with _ | f'
      ·omega
      ·unfold strF at h;rw [if_pos (by omega)] at h;exact h.symm
     have HS2:=hid (show R = if 4000 < out.length then .error (14,-1) else .ok (if x.pre = 98 then 5 else 4,out) from by rw [HS1.out,hEo]);go_wp2_with fail;go_quiet (fail);generalize hW : World.drewN (wr) _ = w3;have hbw : Below (wr).heap.size (wr) w3:=(by rw [← hW]; exact below_drewN (Below.refl _ _) _);have hown3:=own_below hown hbw;have hP3:=hPr.belowS hbw;have hQ3:=hQr.belowS hbw;have hg3:=hgr.belowS hbw;have hb3:=below_then hbr hbw hbr.size;have hconv:=str_of_own hown3;clear hW hbw u1 u2 u3 hgr hxr hown hrow hPr hQr hbr
     by_cases h4 : 4000 < out.length
     ·have HRR:=hid (show R = .error (14,-1) from by rw [HS2.out,if_pos h4]);have d4 : decide ((out.length:Int) > 4000) = true:=decide_eq_true (by omega);go_wp2_with fail;refine (lfault_any 14 (-1) _).mono ?_;rintro e w4 ⟨rfl,hb4⟩;have hP4:=hP3.belowS hb4;have hQ4:=hQ3.belowS hb4;obtain ⟨u1,u2,u3⟩:=(hQ4).rules;obtain ⟨v1,v2,v3⟩:=(hP4).rules;have hQz:=(hQ4).farRow (g':=w.heap.size) (by omega) (valC 0 [] 0);go_wp2_with (first | refine wpList_store_row rfl 26 (.tmp 2) (.tmp 43) rfl w.heap.size (valC 0 [] 0) rfl rfl 26 _ (hP4) (by kernel_rfl) rfl (by simp [Value.oneCell',valC]) ?_ | refine wpList_store_row rfl 29 (.tmp 3) (.tmp 44) rfl (w.heap.size + 1) #[.int .i64 (14),.int .i64 (-1)] rfl rfl 29 _ hQz (by kernel_rfl) rfl (by simp [Value.oneCell']) ?_);show Leaves Tryz.prog Tryz.f11 _ (StPost w R) [{ target:=.fn (.func 43) #[],args:=#[.pointer (some ⟨w.heap.size + 1,0,none⟩)] }] .returning _;refine leaves_cons (f:=43) (args:=#[.pointer (some ⟨w.heap.size + 1,0,none⟩)]) (by simp) (by simp [go_sem]) ?_;refine (caught_idle _ _).mono ?_;rintro e u' w6 ⟨rfl,rfl,rfl⟩;refine ⟨_,res_str (p:=w.heap.size) rfl rfl rfl (((hP4).setRow (valC 0 [] 0)).farRow (by omega) _) (hQz.setRow _),below_setRow (below_setRow (below_then hb3 hb4 hb3.size) (Nat.le_refl _) _) (Nat.le_succ _) _,?_⟩;rw [HRR.out] <;> rfl
     ·have d4 : decide ((out.length:Int) > 4000) = false:=decide_eq_false (by omega);have HS3:=hid (HS2.out.trans (if_neg h4));obtain ⟨r1,r2,r3⟩:=hg3.rules;unfold rdC at r1
      by_cases h98 : x.pre = 98
      ·have HRR:=hid (show R = .ok (5,out) from by rw [HS3.out,if_pos h98]);have b98 : ((x.pre.toNat:Int) == 98) = true:=(by rw [h98]; rfl);clear h98;obtain ⟨u1,u2,u3⟩:=(hQ3).rules;obtain ⟨v1,v2,v3⟩:=(hP3).rules;have hQz:=(hQ3).farRow (g':=w.heap.size) (by omega) (valC 5 out 0);go_wp2_with (first | refine wpList_store_row rfl 26 (.tmp 2) (.tmp 52) rfl w.heap.size (valC 5 out 0) rfl rfl 26 _ (hP3) (by kernel_rfl) rfl (by simp [Value.oneCell',valC]) ?_ | refine wpList_store_row rfl 29 (.tmp 3) (.tmp 53) rfl (w.heap.size + 1) #[.int .i64 (0),.int .i64 (0)] rfl rfl 29 _ hQz (by kernel_rfl) rfl (by simp [Value.oneCell']) ?_);show Leaves Tryz.prog Tryz.f11 _ (StPost w R) [{ target:=.fn (.func 43) #[],args:=#[.pointer (some ⟨w.heap.size + 1,0,none⟩)] }] .returning _;refine leaves_cons (f:=43) (args:=#[.pointer (some ⟨w.heap.size + 1,0,none⟩)]) (by simp) (by simp [go_sem]) ?_;refine (caught_idle _ _).mono ?_;rintro e u' w6 ⟨rfl,rfl,rfl⟩;refine ⟨_,res_str (p:=w.heap.size) rfl rfl rfl (((hP3).setRow (valC 5 out 0)).farRow (by omega) _) (hQz.setRow _),below_setRow (below_setRow (hb3) (Nat.le_refl _) _) (Nat.le_succ _) _,?_⟩;rw [HRR.out] <;> rfl
      ·have HRR:=hid (show R = .ok (4,out) from by rw [HS3.out,if_neg h98]);have b98 : ((x.pre.toNat:Int) == 98) = false:=u8_ne (d:=98) h98;clear h98;obtain ⟨u1,u2,u3⟩:=(hQ3).rules;obtain ⟨v1,v2,v3⟩:=(hP3).rules;have hQz:=(hQ3).farRow (g':=w.heap.size) (by omega) (valC 4 out 0);go_wp2_with (first | refine wpList_store_row rfl 26 (.tmp 2) (.tmp 56) rfl w.heap.size (valC 4 out 0) rfl rfl 26 _ (hP3) (by kernel_rfl) rfl (by simp [Value.oneCell',valC]) ?_ | refine wpList_store_row rfl 29 (.tmp 3) (.tmp 57) rfl (w.heap.size + 1) #[.int .i64 (0),.int .i64 (0)] rfl rfl 29 _ hQz (by kernel_rfl) rfl (by simp [Value.oneCell']) ?_);show Leaves Tryz.prog Tryz.f11 _ (StPost w R) [{ target:=.fn (.func 43) #[],args:=#[.pointer (some ⟨w.heap.size + 1,0,none⟩)] }] .returning _;refine leaves_cons (f:=43) (args:=#[.pointer (some ⟨w.heap.size + 1,0,none⟩)]) (by simp) (by simp [go_sem]) ?_;refine (caught_idle _ _).mono ?_;rintro e u' w6 ⟨rfl,rfl,rfl⟩;refine ⟨_,res_str (p:=w.heap.size) rfl rfl rfl (((hP3).setRow (valC 4 out 0)).farRow (by omega) _) (hQz.setRow _),below_setRow (below_setRow (hb3) (Nat.le_refl _) _) (Nat.le_succ _) _,?_⟩;rw [HRR.out] <;> rfl
def flushP (out : List Prt) (t : List UInt8) : List Prt:=if t = [] then out else out ++ [⟨false,t,0,[]⟩]
def longP (ps : List Prt) : Bool:=ps.any fun p => !p.field && decide (4000 < p.text.length)
def partF (l : List UInt8) (x : Sht) : Nat → Nat → List UInt8 → List Prt → Except Nat (List Prt)
 | 0,_,_,_ => .error 0
 | f + 1,i,t,out =>
  if x.lim ≤ i then .ok (flushP out t)
  else if (at0 l i = 123∨at0 l i = 125)∧i + 1 < x.lim∧at0 l (i + 1) = at0 l i then partF l x f (i + 2) (t ++ [at0 l i]) out
  else if at0 l i = 123 then match fieldS l x i with
   | .error j => .error j
   | .ok (p,j) => partF l x f j [] (flushP out t ++ [p])
  else if at0 l i = 125 then .error i
  else match charS l x i with
   | .error j => .error j
   | .ok (n,j) => partF l x f j (t ++ runeB n) out
def partsS (l : List UInt8) : Except (Int × Int) (List Prt) :=
 if isStr l = false then .error (1,-1) else if (shtOf l).pre ≠ 102 then .error (13,-1)
 else match partF l (shtOf l) (l.length + 1) (shtOf l).frm [] [] with
 | .error j => .error (1,(j:Int))
 | .ok ps => if longP ps = true then .error (14,-1) else .ok ps
theorem info_prt : (Tryz.prog.info? 91).map (fun i => (i.zero,i.size,i.bytes)) = some (some (.agg #[.bool false,.string ByteArray.empty,.int .i64 0,.string ByteArray.empty]),4,48):=by kernel_rfl
structure Kept (tb p:Nat) (v : Value) (w w' : World) : Prop where
 blk : ∀ k t cs,k ≠ tb → k ≠ p → v.ownBlock ≠ some k → Blk w k t cs → Blk w' k t cs
 bel : ∀ B W,B ≤ tb → B ≤ p → (∀ k,v.ownBlock = some k → B ≤ k) → Below B W w → Below B W w'
 size : w.heap.size ≤ w'.heap.size
theorem flush_any {w : World} (tb p B:Nat) (t : List UInt8) (v : Value) (out : List Prt) (hT : Blk w tb 9 #[.string ⟨t.toArray⟩]) (hP : Blk w p 37 #[v]) (hown : w.ownsRow B 91 4 v out.length (out.flatMap prtc)) (hol : out.length ≤ 100000) (hB : B ≤ w.heap.size) (htp : tb ≠ p) :
  Calls Tryz.prog 57 #[.pointer (some ⟨tb,0,none⟩),.pointer (some ⟨p,0,none⟩)] w fun e w' => e = .returned (.tuple #[])∧∃ v',Blk w' tb 9 #[.string ⟨#[]⟩]∧Blk w' p 37 #[v']∧w'.ownsRow B 91 4 v' (flushP out t).length ((flushP out t).flatMap prtc)∧Kept tb p v w w':=by
 obtain ⟨i0,hi0,hz0,hz1,hz2⟩:=info_parts info_prt;have hnt:=own_blk_ne hown hT (by decide);have hnp:=own_blk_ne hown hP (by decide);obtain ⟨A,c,rfl,hrow,_⟩:=own_form hown;obtain ⟨q1,q2,q3⟩:=hT.rules;obtain ⟨r1,r2,r3⟩:=hP.rules
 by_cases h0 : t = []
 ·subst h0;go_enter Tryz.func57,Tryz.ntmps57;go_wp2_with fail;go_end0;refine ⟨rfl,.slice A out.length c,hT.set_ 0 (.string ⟨#[]⟩),hP.far (p:=⟨tb,0,none⟩) htp.symm (.string ⟨#[]⟩),ownsRow_setCell_other hown hnt (.string ⟨#[]⟩),⟨fun k t' cs h1 h2 h3 hk => hk.far (p:=⟨tb,0,none⟩) h1 (.string ⟨#[]⟩),fun B' W h1 h2 h3 hb => hb.setCell (p:=⟨tb,0,none⟩) h1 (.string ⟨#[]⟩),by simp⟩⟩
 ·have hne : (t == []) = false:=(by simpa using h0);have hne' : (t != []) = true:=(by rw [bne,hne]; rfl);have hfl : flushP out t = out ++ [⟨false,t,0,[]⟩]:=(by unfold flushP; rw [if_neg h0]);have HFL:=hid hfl;have HOWN:=hid hown;have m1 : out.length + 1 ≤ maxLen:=(by unfold maxLen; omega);have m2 : (out.length + 1) * 48 ≤ 140737488355328:=(by omega);clear hfl h0;go_enter Tryz.func57,Tryz.ntmps57;go_wp2_with (at_builtin; refine wpList_append_row _ rfl (.tmp 4) (.tmp 7) 37 rfl B 91 i0 (.agg #[.bool false,.string ByteArray.empty,.int .i64 0,.string ByteArray.empty]) 4 48 Tryz.underlying37 hi0 hz0 hz1 hz2 rfl (by decide) _ out.length (out.flatMap prtc) rfl (HOWN.out.alloc _) (some ⟨w.heap.size,0,none⟩) 1 1 (prtc ⟨false,t,0,[]⟩) rfl rfl (Row.new w (prtc ⟨false,t,0,[]⟩).toArray 91) (by simp [Value.oneCell',prtc]) m1 m2 (by simp; omega) ?_; intro v3 w3 hown3 hg3 hat3; have hT3:=(hT.alloc (.cells (prtc ⟨false,t,0,[]⟩).toArray 91)).grown hg3 (fun e => hnt e.symm); have hP3:=(hP.alloc (.cells (prtc ⟨false,t,0,[]⟩).toArray 91)).grown hg3 (fun e => hnp e.symm); obtain ⟨s1,s2,s3⟩:=hT3.rules; obtain ⟨z1,z2,z3⟩:=hP3.rules; have hnt3:=own_blk_ne hown3 hT3 (by decide); have hnp3:=own_blk_ne hown3 hP3 (by decide); obtain ⟨A3,c3,rfl,_,_⟩:=own_form hown3);go_end0;have hg3':=(World.grownBy_alloc w (.cells (prtc ⟨false,t,0,[]⟩).toArray 91) _).trans hg3;refine ⟨rfl,.slice A3 (out.length + 1) c3,(hT3.far (p:=⟨p,0,none⟩) htp (.slice A3 (out.length + 1) c3)).set_ 0 (.string ⟨#[]⟩),(hP3.set_ 0 (.slice A3 (out.length + 1) c3)).far (p:=⟨tb,0,none⟩) htp.symm (.string ⟨#[]⟩),?_,⟨fun k t' cs h1 h2 h3 hk => ((hk.grown hg3' (fun e => h3 e.symm)).far (p:=⟨p,0,none⟩) h2 (.slice A3 (out.length + 1) c3)).far (p:=⟨tb,0,none⟩) h1 (.string ⟨#[]⟩),fun B' W h1 h2 h3 hb => ?_,?_⟩⟩
  ·rw [HFL.out,List.length_append,List.flatMap_append,List.flatMap_singleton];exact ownsRow_setCell_other (ownsRow_setCell_other hown3 hnp3 (.slice A3 (out.length + 1) c3)) hnt3 (.string ⟨#[]⟩)
  ·refine ((hb.alloc (by have:=hT.lt; omega) (.cells (prtc ⟨false,t,0,[]⟩).toArray 91)).grown hg3 (by have:=hT.lt; simp; omega) (fun k e => h3 k e)).setCell (p:=⟨p,0,none⟩) h2 (.slice A3 (out.length + 1) c3) |>.setCell (p:=⟨tb,0,none⟩) h1 (.string ⟨#[]⟩)
  ·have:=hg3'.size;simpa using this
end
section
open Go.Lib
theorem Gd.plain {l : List UInt8} (hs : Strg l) {frm i : Nat} (h : Gd l i) {c : UInt8} (hp : plainS l (shtOf l) frm i = .ok c) : Gd l (i + 1):=by
 obtain ⟨h1,h2,h3,_⟩:=plainS_ok hp;exact h.next hs h1 (fun e => h3 (h2.symm.trans e.1))
theorem exprS_gd {l : List UInt8} (hs : Strg l) {frm : Nat} : ∀ (f i:Nat) (op : List UInt8) (ins : UInt8) (k:Nat),Gd l i → exprS l (shtOf l) frm f i op ins = .ok k → Gd l k
 | 0,_,_,_,_,_,h => by unfold exprS at h; cases h
 | f + 1,i,op,ins,k,hg,h => by
  unfold exprS at h;cases hp : plainS l (shtOf l) frm i with
  | error j => rw [hp] at h; cases h
  | ok c =>
   rw [hp] at h;simp only at h;have hn:=hg.plain hs hp;split at h
   ·cases h
   ·split at h
    ·exact exprS_gd hs f (i + 1) _ _ k hn h
    ·split at h
     ·exact exprS_gd hs f (i + 1) _ _ k hn h
     ·split at h
      ·injection h with h;subst h;exact hg
      ·split at h
       ·cases h
       ·exact exprS_gd hs f (i + 1) _ _ k hn h
theorem specS_gd {l : List UInt8} (hs : Strg l) {frm : Nat} : ∀ (f k m:Nat),Gd l k → specS l (shtOf l) frm f k = .ok m → Gd l m∧k ≤ m∧m < (shtOf l).lim∧at0 l m = 125
 | 0,_,_,_,h => by unfold specS at h; cases h
 | f + 1,k,m,hg,h => by
  unfold specS at h;cases hp : plainS l (shtOf l) frm k with
  | error j => rw [hp] at h; cases h
  | ok c =>
   rw [hp] at h;simp only at h;split at h
   ·rename_i hc;injection h with h;subst h;have:=plainS_ok hp;exact ⟨hg,Nat.le_refl _,this.1,this.2.1.trans hc⟩
   ·split at h
    ·cases h
    ·have:=specS_gd hs f (k + 1) m (hg.plain hs hp) h;exact ⟨this.1,by omega,this.2.2⟩
theorem fieldS_gd {l : List UInt8} (hs : Strg l) {i : Nat} (h : Gd l i) (hi : i < (shtOf l).lim) (hc : at0 l i = 123) {p : Prt} {j : Nat} (hf : fieldS l (shtOf l) i = .ok (p,j)) : Gd l j∧i + 2 ≤ j:=by
 have h1 : Gd l (i + 1):=h.next hs hi (fun e => by rw [hc] at e; exact absurd e.1 (by decide));unfold fieldS at hf;cases he : exprT l (shtOf l) i with
 | error j => rw [he] at hf; cases hf
 | ok r =>
  obtain ⟨t,k⟩:=r;rw [he] at hf;simp only at hf;obtain ⟨hk1,hk2,hk3,_⟩:=exprT_end he;have hgk : Gd l k:=by
   unfold exprT at he;cases hx : exprS l (shtOf l) i (l.length + 1 - (i + 1)) (i + 1) [] 0 with
   | error j => rw [hx] at he; cases he
   | ok m =>
    rw [hx] at he;unfold exprR at he;simp only at he;split at he
    ·cases he
    ·injection he with he;injection he with _ he;subst he;exact exprS_gd hs _ _ _ _ _ h1 hx
  cases hv : convS l (shtOf l) i k with
  | error j => rw [hv] at hf; cases hf
  | ok r =>
   obtain ⟨c,m⟩:=r;rw [hv] at hf;simp only at hf;have hm : Gd l m∧k ≤ m∧m < (shtOf l).lim∧(at0 l m = 58∨at0 l m = 125):=by
    unfold convS at hv;split at hv
    ·cases hp1 : plainS l (shtOf l) i (k + 1) with
     | error j => rw [hp1] at hv; cases hv
     | ok c1 =>
      rw [hp1] at hv;simp only at hv;split at hv
      ·cases hv
      ·cases hp2 : plainS l (shtOf l) i (k + 2) with
       | error j => rw [hp2] at hv; cases hv
       | ok c2 =>
        rw [hp2] at hv;simp only at hv;split at hv
        ·cases hv
        ·rename_i h33 _ hd;injection hv with hv;injection hv with _ hv;subst hv;have hx:=plainS_ok hp2;have g1 : Gd l (k + 1):=hgk.next hs hk2 (fun e => by rw [h33] at e; exact absurd e.1 (by decide));refine ⟨g1.plain hs hp1,by omega,hx.1,?_⟩;rw [hx.2.1]
         by_cases h58 : c2 = 58
         ·exact .inl h58
         ·by_cases h125 : c2 = 125
          ·exact .inr h125
          ·exact absurd ⟨h58,h125⟩ hd
    ·rename_i h33;injection hv with hv;injection hv with _ hv;subst hv;exact ⟨hgk,Nat.le_refl _,hk2,hk3.resolve_left h33⟩
   unfold tailS at hf;split at hf
   ·rename_i h58;cases hsp : specS l (shtOf l) i (l.length + 1 - (m + 1)) (m + 1) with
    | error j => rw [hsp] at hf; cases hf
    | ok n =>
     rw [hsp] at hf;unfold tailR at hf;simp only at hf;injection hf with hf;injection hf with _ hf;subst hf;have g1 : Gd l (m + 1):=hm.1.next hs hm.2.2.1 (fun e => by rw [h58] at e; exact absurd e.1 (by decide));obtain ⟨hgn,h2,h3,h4⟩:=specS_gd hs _ _ _ g1 hsp;exact ⟨hgn.next hs h3 (fun e => by rw [h4] at e; exact absurd e.1 (by decide)),by omega⟩
   ·rename_i h58;injection hf with hf;injection hf with _ hf;subst hf;have h125:=hm.2.2.2.resolve_left h58;exact ⟨hm.1.next hs hm.2.2.1 (fun e => by rw [h125] at e; exact absurd e.1 (by decide)),by omega⟩
end
section
open Go.Sort Go.RowKit
section
variable {P : Program} {ops : Array Oper} {md : Region.Mode} {C : World → Prop} {Q : Exit → Act → World → Prop}
theorem anyM_lexD {m n g : Nat} {Lq : Act → Prop} {w : World} (hsel : Region.noSelect ops = true) (hs : Region.sinkB md ops m = true) (hc : Region.chainB md ops m = true) (hm : m < ops.size) (hnm : n ≤ m) (hC : C w)
  (hend : ∀ listed a,Region.seqB md ops g n listed = true → Lq a → anyM P md ops Q C m g listed a w) :
  ∀ (l : List Oper) (k:Nat) (listed : Array Bool) (a : Act),(∀ o ∈ l,∀ c a v w,Q (.panic c) (Act.put a o.dst v) w → Q (.panic c) a w) → (∀ j,j < l.length → l[j]? = ops[k + j]?) → k + l.length = n → HeadInv md ops m listed →
  Region.lexHead md ops g l.length k listed = true → wpSteady P ops C Lq l a → anyM P md ops Q C m (l.length + g) listed a w
 | [],k,listed,a,_,_,hk,_,hB,h => by
  have : k = n:=(by simpa using hk);subst this;rw [List.length_nil,Nat.zero_add];exact hend _ _ (by simpa [Region.lexHead] using hB) h
 | o :: l,k,listed,a,hQ,hl,hk,inv,hB,h => by
  have h0 : ops[k]? = some o:=(by simpa using (hl 0 (by simp)).symm);simp only [List.length_cons,Region.lexHead,Bool.and_eq_true] at hB;obtain ⟨⟨hr,hf⟩,hB'⟩:=hB;have hkn : k < n:=(by simp only [List.length_cons] at hk; omega);have hr' : k ∈ Region.ready md ops listed:=(by simpa using hr);obtain ⟨v,hy,hK⟩ : ∃ v,YieldsW P ops C o v a∧wpSteady P ops C Lq l (a.put o.dst v):=by
   unfold wpSteady at h;split at h
   ·rename_i hw;obtain ⟨v,h1,h2⟩:=h;exact ⟨v,.inl ⟨hw,h1⟩,h2⟩
   ·rename_i hw;exact ⟨undef,.inr ⟨by simpa using hw,rfl⟩,h⟩
  rw [List.length_cons,show l.length + 1 + g = (l.length + g) + 1 by omega];exact anyM_first h0 (Region.noSelect_spec hsel) (fun c a w => hQ o (by simp) c a _ w) hs hc hm (by omega) (l.length + g) listed a w inv (Region.free_spec h0 hf) hr' hy hC
   (anyM_lexD hsel hs hc hm hnm hC hend l (k + 1) _ _ (fun o' ho' => hQ o' (List.mem_cons_of_mem _ ho')) (fun j hj => by have:=hl (j + 1) (by simp; omega); simpa [Nat.add_assoc,Nat.add_comm 1 j] using this) (by simp only [List.length_cons] at hk; omega) (inv.set hr' (by omega)) hB' hK)
theorem wp_region_steady_tailD {id : Nat} {a : Act} {w : World} {l : List Oper} (n m:Nat) (hmo : P.follows .mixedOrders = true) (hB : lexTailM .any l.toArray n m = true) (C : World → Prop) (hC : C w.drew)
  (hQ : ∀ o ∈ l.take n,∀ c a v w,Q (.panic c) (Act.put a o.dst v) w → Q (.panic c) a w)
  (h : wpSteady P l.toArray C (fun a' => tailM P l.toArray Q C (m - n) (l.drop n) a' w.drew) (l.take n) a) : (Code.region id l.toArray true).wp P Q a w:=by
 simp only [lexTailM,Bool.and_eq_true,decide_eq_true_eq] at hB;obtain ⟨⟨⟨⟨⟨hsel,hnm⟩,hn⟩,hs⟩,hc⟩,hlex⟩:=hB;have hn' : m < l.length:=by simpa using hn
 have htl : (l.take n).length = n:=by simp; omega
 have hdl : (l.drop n).length = l.toArray.size - n:=by simp
 have inv0 : HeadInv .any l.toArray m (Array.replicate l.toArray.size false) :=
  ⟨by simp,fun j oj _ hl => (by rw [getD_replicate_false] at hl; cases hl),fun t _ ht => getD_in (by simpa using ht) (getD_replicate_false _ _)⟩
 refine wp_region_any hmo (any_of_M (C:=C) (m:=m) _ _ _ _ ?_);have:=anyM_lexD (md:=.any) (g:=l.toArray.size - n) (w:=w.drew) hsel hs hc hn hnm hC (fun listed a' h1 h2 => by
  have:=anyM_of_seq (md:=.any) (m:=m) (l.drop n) n listed a' w.drew (fun j => by simp [List.getElem?_drop]) (by rw [hdl]; exact h1) h2
  rwa [hdl] at this) (l.take n) 0 _ a hQ (fun j hj => by
  have hj' : j < n:=(by rw [htl] at hj; exact hj);simp [hj']) (by simpa using htl) inv0 (by rw [htl]; exact hlex) h
 rw [htl,show n + (l.toArray.size - n) = l.toArray.size by omega] at this;exact this
theorem Leaves.congr {fn : Func} {tmps tmps' : Array Value} {R : Ending → World → Prop} (hr : results fn tmps = results fn tmps') : ∀ (ds : List Deferred) (u : FrameMode) (w : World),Leaves P fn tmps R ds u w → Leaves P fn tmps' R ds u w
 | [],.returning,w,h => by
  obtain ⟨v,h1,h2⟩:=h;exact ⟨v,hr ▸ h1,h2⟩
 | [],.panicking chain,w,h => h
 | [],.run,w,h => h
 | d :: ds,u,w,h => by
  obtain ⟨hu,fv,cap,f,args,h1,h2,h3⟩:=h;refine ⟨hu,fv,cap,f,args,h1,h2,h3.mono ?_⟩;intro e u' w' he;cases e with
  | returned v => exact Leaves.congr hr ds _ _ he
  | panicked c => exact Leaves.congr hr ds _ _ he
  | outgrown => exact he
end
end
end Go.Proofs.YtonehlkiackhcaaGreatDoor