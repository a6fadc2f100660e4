/- The literals: the library's search for a character that is no ASCII among the escapes. Nothing is claimed here. -/
import Derived.Test.YtonehlkiackhcaaGreatDoorLitSo
set_option linter.unusedVariables false
set_option linter.unusedSimpArgs false
set_option maxRecDepth 100000
set_option maxHeartbeats 16000000
namespace Go.Proofs.YtonehlkiackhcaaGreatDoor
section
open Go.RowKit Go.Lib Go.Sort
theorem sints_any {w : World} (l : List Nat) (A B : Option Addr) (c d:Nat) (hl : l.length ≤ 100000) (hra : Row w A (u32s l)) (hrb : Row w B (u32s l)) :
  Calls Tryz.prog 47 #[.agg #[.bool false,.slice A l.length c],.agg #[.bool false,.slice B l.length d]] w fun e w' => e = .returned (.bool true)∧Below w.heap.size w w':=by
 have hA:=(Blk.new w 24 #[.bool false,.slice A l.length c]).alloc (.cells #[.bool false,.slice B l.length d] 24);have hB:=Blk.new (w.alloc (.cells #[.bool false,.slice A l.length c] 24)) 24 #[.bool false,.slice B l.length d];have hb1:=(Below.refl w.heap.size w).alloc (Nat.le_refl _) (.cells #[.bool false,.slice A l.length c] 24);have hb:=hb1.alloc hb1.size (.cells #[.bool false,.slice B l.length d] 24);have hr1:=hra.keepB hb;have hr2:=hrb.keepB hb;rw [show (w.alloc (.cells #[.bool false,.slice A l.length c] 24)).heap.size = w.heap.size + 1 from by simp] at hB;clear hb1;obtain ⟨a1,a2,a3⟩:=hA.rules;obtain ⟨b1,b2,b3⟩:=hB.rules;go_enter Tryz.func47,Tryz.ntmps47;go_wp2_with fail;obtain ⟨w2,hw2⟩ : ∃ w2,(w.alloc (.cells #[.bool false,.slice A l.length c] 24)).alloc (.cells #[.bool false,.slice B l.length d] 24) = w2:=⟨_,rfl⟩;rw [hw2] at hA hB hb hr1 hr2 ⊢;clear hw2 a1 a2 a3 b1 b2 b3;obtain ⟨ga,hga⟩ : ∃ ga,w.heap.size = ga:=⟨_,rfl⟩;have HG:=hid hga;rw [hga] at hA hB hb ⊢;clear hga hra hrb
 go_loopw [5,23] (fun i5 i wr => ∃ k n : Nat,k ≤ l.length∧i = .int .i64 (k:Int)∧wr = w2.drewN n) (fun _ i _ => l.length - (RowKit.intOf i).toNat)
 case atStart => exact ⟨0,0,Nat.zero_le _,rfl,rfl⟩
 case round =>
  obtain ⟨k,n,hk,rfl,rfl⟩:=hrel
  by_cases hlt : k < l.length
  ·obtain ⟨q1,o1,rfl,e1⟩:=row_u32 hr1 hlt;obtain ⟨q2,o2,rfl,e2⟩:=row_u32 hr2 hlt;obtain ⟨x,hx⟩ : ∃ x,l[k] = x:=⟨_,rfl⟩;rw [hx] at e1 e2;clear hx;obtain ⟨a1,a2,a3⟩:=hA.rules;obtain ⟨b1,b2,b3⟩:=hB.rules;go_wp2_with fail;go_quiet (fail);go_wp2_with fail;go_roundw
   case rel => exact ⟨k + 1,_,by omega,by go_num,rfl⟩
   case measure => simp [RowKit.intOf]; omega
  ·go_wp2_with fail;go_ret;exact ⟨rfl,by rw [HG.out]; exact below_drewN hb _⟩
theorem mid_run {w : World} {g : Nat} {k r : Int} {sn sd : Bool} {N D : Value} {t : List UInt8} (hB : Blk w g 26 (valD k sn N sd D t r)) :
  (Instr.loadAt 24 (.pointer (some ⟨g,1,none⟩))).run Tryz.prog w = .ok (.agg #[.bool sn,N]) w∧(Instr.loadAt 24 (.pointer (some ⟨g,3,none⟩))).run Tryz.prog w = .ok (.agg #[.bool sd,D]) w:=by
 refine ⟨run_loadAt_mid w g 1 24 [.bool sn,N] _ (fun j v hv => ?_) Tryz.underlying24 rfl (by kernel_rfl),run_loadAt_mid w g 3 24 [.bool sd,D] _ (fun j v hv => ?_) Tryz.underlying24 rfl (by kernel_rfl)⟩
 ·rw [hB.cell];rcases j with _ | _ | j <;> simp at hv <;> subst hv <;> rfl
 ·rw [hB.cell];rcases j with _ | _ | j <;> simp at hv <;> subst hv <;> rfl
theorem sconst_any {w : World} (k r:Int) (ln ld : List Nat) (t : List UInt8) (A1 A2 B1 B2 : Option Addr) (c1 c2 d1 d2:Nat) (h1 : ln.length ≤ 100000) (h2 : ld.length ≤ 100000) (ra1 : Row w A1 (u32s ln)) (ra2 : Row w A2 (u32s ld)) (rb1 : Row w B1 (u32s ln)) (rb2 : Row w B2 (u32s ld)) :
  Calls Tryz.prog 12 #[.agg (valD k false (.slice A1 ln.length c1) false (.slice A2 ld.length c2) t r),.agg (valD k false (.slice B1 ln.length d1) false (.slice B2 ld.length d2) t r)] w fun e w' => e = .returned (.bool true)∧Below w.heap.size w w':=by
 have hA:=(Blk.new w 26 (valD k false (.slice A1 ln.length c1) false (.slice A2 ld.length c2) t r)).alloc (.cells (valD k false (.slice B1 ln.length d1) false (.slice B2 ld.length d2) t r) 26);have hB:=Blk.new (w.alloc (.cells (valD k false (.slice A1 ln.length c1) false (.slice A2 ld.length c2) t r) 26)) 26 (valD k false (.slice B1 ln.length d1) false (.slice B2 ld.length d2) t r);have hb1:=(Below.refl w.heap.size w).alloc (Nat.le_refl _) (.cells (valD k false (.slice A1 ln.length c1) false (.slice A2 ld.length c2) t r) 26);have hb:=hb1.alloc hb1.size (.cells (valD k false (.slice B1 ln.length d1) false (.slice B2 ld.length d2) t r) 26);rw [show (w.alloc (.cells (valD k false (.slice A1 ln.length c1) false (.slice A2 ld.length c2) t r) 26)).heap.size = w.heap.size + 1 from by simp] at hB;obtain ⟨m1,m2⟩:=mid_run hA;obtain ⟨n1,n2⟩:=mid_run hB;have hra1:=ra1.keepB hb;have hra2:=ra2.keepB hb;have hrb1:=rb1.keepB hb;have hrb2:=rb2.keepB hb;have hkk : (k == k) = true:=by simp
 clear hb1 ra1 ra2 rb1 rb2;unfold valD at *
 obtain ⟨v1,v2,v3⟩:=hA.rules;obtain ⟨u1,u2,u3⟩:=hB.rules;go_enter Tryz.func12,Tryz.ntmps12;go_wp2_with fail;refine (sints_any ln A1 B1 c1 d1 h1 hra1 hrb1).mono ?_;rintro e w2 ⟨rfl,hbb⟩;have hA2:=hA.belowS hbb;have hB2:=hB.belowS hbb;have hb2:=below_then hb hbb hb.size;have hra22:=hra2.keepB hbb;have hrb22:=hrb2.keepB hbb;clear v1 v2 v3 u1 u2 u3 m1 m2 n1 n2 hA hB hb hbb hra1 hrb1 hra2 hrb2;obtain ⟨m1,m2⟩:=mid_run hA2;obtain ⟨n1,n2⟩:=mid_run hB2;obtain ⟨v1,v2,v3⟩:=hA2.rules;obtain ⟨u1,u2,u3⟩:=hB2.rules;go_wp2_with fail;refine (sints_any ld A2 B2 c2 d2 h2 hra22 hrb22).mono ?_;rintro e w3 ⟨rfl,hbb⟩;have hA3:=hA2.belowS hbb;have hB3:=hB2.belowS hbb;have hb3:=below_then hb2 hbb hb2.size;clear v1 v2 v3 u1 u2 u3 m1 m2 n1 n2 hA2 hB2 hb2 hbb hra22 hrb22;obtain ⟨v1,v2,v3⟩:=hA3.rules;obtain ⟨u1,u2,u3⟩:=hB3.rules;go_wp2_with fail;go_ret;exact ⟨rfl,hb3⟩
theorem fin_half {R : Except Int (List UInt8)} (h : FinP 5 2 R) : R = .ok [50,46,53]:=by
 obtain ⟨a,m1,b,m,h1,h2,h3,h4,h5,h6,h7⟩:=h;have ha : a < 2:=by
  rcases Nat.lt_or_ge a 2 with h | h
  ·exact h
  ·have hp : 2 ^ 2 ≤ 2 ^ a:=Nat.pow_le_pow_right (by decide) h;rcases Nat.eq_zero_or_pos m1 with h0 | h0
   ·subst h0; omega
   ·have:=Nat.mul_le_mul h0 hp;omega
 have ha1 : a = 1:=by
  rcases (show a = 0∨a = 1 by omega) with h | h
  ·subst h; simp at h1; omega
  ·exact h
 subst ha1;have hm1 : m1 = 1:=by omega
 subst hm1;have hb : b = 0:=by
  rcases b with _ | b
  ·rfl
  ·rw [Nat.pow_succ,← Nat.mul_assoc] at h4;omega
 subst hb;have hm : m = 1:=by omega
 subst hm;rw [h7,if_neg (by decide),if_neg (by decide)];show Except.ok (pointed 1 (decDigits 25)) = _;rw [decDigits_two (by decide) (by decide)];rfl
theorem lg_small {n : Nat} (h0 : n ≠ 0) (h : n < 4294967296) : lg n = [n]:=by
 unfold lg;rw [dig_pos (by decide) h0,Nat.mod_eq_of_lt h,Nat.div_eq_of_lt h,dig_zero]
theorem num_sp : numR [50,46,53,48] = .point 250 2:=by kernel_rfl
theorem out_sp : outS 250 2 2 = (5,2):=by decide
theorem str_sp : strS [98,34,92,120,52,49,122,34] = .ok (5,[65,122]):=by kernel_rfl
def prsSp : List Prt:=[⟨false,[97,123],0,[]⟩,⟨true,[120],114,[62,53]⟩]
theorem parts_sp : partsS [102,34,97,123,123,123,120,33,114,58,62,53,125,34] = .ok prsSp:=by kernel_rfl
theorem join_sp : ljoinR prsSp = ([102,39,97,123,123,123,120,33,114,58,62,53,125,39],0,0):=by kernel_rfl
structure Cst where
 k : Int
 ln : List Nat
 ld : List Nat
 t : List UInt8
 fc : Int
 fi : Int
def numK : NumR → Cst
 | .fault c => ⟨0,[],[],[],c,-1⟩
 | .whole n => ⟨2,lg n,[],[],0,0⟩
 | .point n p => if (outS n p 2).2 = 1 then ⟨2,lg (outS n p 2).1,[],[],0,0⟩ else ⟨3,lg (outS n p 2).1,lg (outS n p 2).2,[],0,0⟩
def strK : Except (Int × Int) (Int × List UInt8) → Cst
 | .error (c,i) => ⟨0,[],[],[],c,i⟩
 | .ok (k,t) => ⟨k,[],[],t,0,0⟩
def CsPost (w : World) (K : Cst) (e : Ending) (w' : World) : Prop:=Below w.heap.size w w'∧∃ A1 c1 A2 c2,e = .returned (.tuple #[.agg #[.int .i64 K.k,.bool false,.slice A1 K.ln.length c1,.bool false,.slice A2 K.ld.length c2,.string ⟨K.t.toArray⟩,.int .i64 0],flt K.fc K.fi])∧Row w' A1 (u32s K.ln)∧Row w' A2 (u32s K.ld)
theorem nu_cs {w : World} {R : NumR} {e : Ending} {w' : World} (h : NuPost w R e w') : CsPost w (numK R) e w':=by
 obtain ⟨hb,h⟩:=h;refine ⟨hb,?_⟩;rcases R with c | n | ⟨n,p⟩
 ·exact ⟨none,0,none,0,h,.inl rfl,.inl rfl⟩
 ·obtain ⟨v,h,A,c,hr,hv⟩:=h;rw [if_pos rfl] at hv;subst hv;exact ⟨A,c,none,0,h,hr,.inl rfl⟩
 ·obtain ⟨v,h,A,c,hr,hv⟩:=h;unfold numK;split at hv
  ·rename_i h1;subst hv;simp only [if_pos h1];exact ⟨A,c,none,0,h,hr,.inl rfl⟩
  ·rename_i h1;obtain ⟨A',c',hr',hv⟩:=hv;subst hv;simp only [if_neg h1];exact ⟨A,c,A',c',h,hr,hr'⟩
theorem st_cs {w : World} {R : Except (Int × Int) (Int × List UInt8)} {e : Ending} {w' : World} (h : StPost w R e w') : CsPost w (strK R) e w':=by
 obtain ⟨hb,h⟩:=h;refine ⟨hb,?_⟩;rcases R with ⟨c,i⟩ | ⟨k,t⟩
 ·exact ⟨none,0,none,0,h,.inl rfl,.inl rfl⟩
 ·exact ⟨none,0,none,0,h,.inl rfl,.inl rfl⟩
theorem num_len {B : Nat} (hB : B ≤ 16) {s cs : List UInt8} (hd : ∀ i : Fin 256,cs.contains (UInt8.ofNat i.val) = true → isDg B (UInt8.ofNat i.val) = true) (h : onlyV s cs = true) (hl : s.length ≤ 1000) : (lg (numV B s)).length ≤ 1000 :=
 Nat.le_trans (dig_numV_len B (by omega) s (fun c hc => isDg_lt (only_dg hd h c hc))) hl
theorem num_bd (s : List UInt8) : (numK (numR s)).ln.length ≤ 100000∧(numK (numR s)).ld.length ≤ 100000:=by
 unfold numR;split
 ·exact ⟨Nat.zero_le _,Nat.zero_le _⟩
 ·rename_i h6;split
  ·rename_i h;exact ⟨Nat.le_trans (num_len (by decide) dg16 h.2 (by rw [List.length_drop]; omega)) (by decide),Nat.zero_le _⟩
  ·split
   ·rename_i h;exact ⟨Nat.le_trans (num_len (by decide) dg2 h.2 (by rw [List.length_drop]; omega)) (by decide),Nat.zero_le _⟩
   ·split
    ·rename_i h;obtain ⟨⟨u,f,b⟩,hc⟩ : ∃ x,cut s [46] = x:=⟨_,rfl⟩;rw [hc] at h;obtain ⟨hd,hb⟩:=h;simp only at hd hb;subst hb;obtain rfl:=(cut_nof hc).1;exact ⟨Nat.le_trans (num_len (by decide) dg10 (dec_only hd) (by omega)) (by decide),Nat.zero_le _⟩
    ·split
     ·rename_i h;obtain ⟨⟨u,f,b⟩,hc⟩ : ∃ x,cut s [46] = x:=⟨_,rfl⟩;rw [hc] at h ⊢;obtain ⟨hd,hf⟩:=h;simp only at hd hf ⊢;have hl:=cut_yes hc;have h1 : (lg (numV 10 (u ++ f))).length ≤ 1000:=Nat.le_trans (dig_numV_len 10 (by decide) (u ++ f) (fun c hc => by
       rcases List.mem_append.1 hc with h | h
       ·exact isDg_lt (only_dg dg10 (dec_only hd) c h)
       ·exact isDg_lt (only_dg dg10 hf c h))) (by rw [List.length_append]; omega)
      have h2:=outS_le (numV 10 (u ++ f)) f.length (Nat.le_refl 2);have h3:=Nat.le_trans (lg_mono h2.1) h1;have h4:=Nat.le_trans (lg_mono h2.2) (one_bd f.length (by omega))
      by_cases h5 : (outS (numV 10 (u ++ f)) f.length 2).2 = 1
      ·simp only [numK,if_pos h5];exact ⟨by omega,Nat.zero_le _⟩
      ·simp only [numK,if_neg h5];exact ⟨by omega,by omega⟩
     ·exact ⟨Nat.zero_le _,Nat.zero_le _⟩
theorem dig_byte : ∀ d : Fin 10,isDg 10 (UInt8.ofNat (48 + d.val)) = true∧dval (UInt8.ofNat (48 + d.val)) = d.val∧(d.val ≠ 0 → UInt8.ofNat (48 + d.val) ≠ 48):=by decide
theorem dec_ind {P : Nat → Prop} (h1 : ∀ n,n < 10 → P n) (h2 : ∀ n,10 ≤ n → P (n / 10) → P n) (n:Nat) : P n:=by
 induction n using Nat.strongRecOn with
 | _ n ih =>
  by_cases h : n < 10
  ·exact h1 n h
  ·exact h2 n (by omega) (ih (n / 10) (by omega))
theorem dec_small {n : Nat} (h : n < 10) : decDigits n = [UInt8.ofNat (48 + n)]:=by rw [decDigits,dif_pos h]
theorem dec_great {n : Nat} (h : 10 ≤ n) : decDigits n = decDigits (n / 10) ++ [UInt8.ofNat (48 + n % 10)]:=by rw [decDigits,dif_neg (by omega)]
theorem dec_digs (n:Nat) : ∀ c ∈ decDigits n,isDg 10 c = true:=by
 refine dec_ind (P:=fun n => ∀ c ∈ decDigits n,isDg 10 c = true) ?_ ?_ n
 ·intro n h c hc;rw [dec_small h,List.mem_singleton] at hc;rw [hc];exact (dig_byte ⟨n,h⟩).1
 ·intro n h ih c hc;rw [dec_great h] at hc;rcases List.mem_append.1 hc with hc | hc
  ·exact ih c hc
  ·rw [List.mem_singleton.1 hc];exact (dig_byte ⟨n % 10,by omega⟩).1
theorem dec_numV (n:Nat) : numV 10 (decDigits n) = n:=by
 refine dec_ind (P:=fun n => numV 10 (decDigits n) = n) ?_ ?_ n
 ·intro n h;rw [dec_small h,← List.nil_append [_],numV_snoc,(dig_byte ⟨n,h⟩).2.1];show 0 * 10 + n = n;omega
 ·intro n h ih;rw [dec_great h,numV_snoc,ih,(dig_byte ⟨n % 10,by omega⟩).2.1];show n / 10 * 10 + n % 10 = n;omega
theorem dec_head (n:Nat) (hn : n ≠ 0) : (decDigits n).head? ≠ some 48:=by
 revert hn
 refine dec_ind (P:=fun n => n ≠ 0 → (decDigits n).head? ≠ some 48) ?_ ?_ n
 ·intro n h hn;rw [dec_small h];intro e;injection e with e;exact (dig_byte ⟨n,h⟩).2.2 hn e
 ·intro n h ih hn;rw [dec_great h];have h1:=decDigits_pos (n / 10);rcases hd : decDigits (n / 10) with _ | ⟨x,r⟩
  ·rw [hd] at h1; simp at h1
  ·have h2:=ih (by omega);rw [hd] at h2;exact h2
theorem only_digs {s : List UInt8} (hne : s ≠ []) (h : ∀ c ∈ s,isDg 10 c = true) : onlyV s fg10 = true:=by
 unfold onlyV;rw [decide_eq_true hne,Bool.true_and,List.all_eq_true];intro c hc;have h1:=fg_10 ⟨c.toNat,c.toNat_lt⟩;simp only [UInt8.ofNat_toNat] at h1;rw [h1];exact h c hc
theorem dig_not : isDg 10 120 = false∧isDg 10 98 = false∧isDg 10 46 = false:=by decide
theorem no_pre {s : List UInt8} {k : UInt8} (hk : isDg 10 k = false∧k ≠ 46) (h : ∀ c ∈ s,isDg 10 c = true∨c = 46) : hasPrefix s [48,k] = false:=by
 cases hp : hasPrefix s [48,k]
 ·rfl
 ·obtain ⟨r,rfl⟩:=pre_form hp;rcases h k (by simp) with h1 | h1
  ·rw [hk.1] at h1; cases h1
  ·exact absurd h1 hk.2
theorem ne46 {c : UInt8} (h : isDg 10 c = true) : c ≠ 46:=by
 rintro rfl;rw [dig_not.2.2] at h;cases h
theorem idx_none : ∀ s : List UInt8,(∀ c ∈ s,c ≠ 46) → index s [46] = -1
 | [],_ => rfl
 | c :: s,h => by rw [idx_cons s (h c (by simp)),idx_none s fun d hd => h d (by simp [hd]),if_pos rfl]
theorem idx_at : ∀ (u f : List UInt8),(∀ c ∈ u,c ≠ 46) → index (u ++ 46 :: f) [46] = u.length
 | [],f,_ => by
  show (if [46].isPrefixOf (46 :: f) then (0:Int) else _) = _;rw [if_pos (by simp [List.isPrefixOf])];rfl
 | c :: u,f,h => by
  rw [List.cons_append,idx_cons _ (h c (by simp)),idx_at u f fun d hd => h d (by simp [hd]),if_neg (by omega),List.length_cons];omega
theorem cut_none {s : List UInt8} (h : ∀ c ∈ s,c ≠ 46) : cut s [46] = (s,[],false):=by
 unfold cut;rw [idx_none s h,if_neg (by decide)]
theorem cut_at {u f : List UInt8} (h : ∀ c ∈ u,c ≠ 46) : cut (u ++ 46 :: f) [46] = (u,f,true):=by
 unfold cut;rw [idx_at u f h,if_pos (by omega),Int.toNat_natCast,List.take_left];have : (u ++ 46 :: f).drop (u.length + [(46 : UInt8)].length) = f:=by
  rw [← List.drop_drop,List.drop_left];rfl
 rw [this]
theorem dec_ok (n:Nat) : decOk (decDigits n) = true:=by
 have hne : decDigits n ≠ []:=by have:=decDigits_pos n; intro e; rw [e] at this; simp at this
 unfold decOk;rw [only_digs hne (dec_digs n),Bool.true_and,Bool.or_eq_true,decide_eq_true_eq,decide_eq_true_eq]
 by_cases h : n = 0
 ·subst h;exact .inl (by rw [dec_small (by decide)]; rfl)
 ·exact .inr (dec_head n h)
theorem numR_whole (n:Nat) (h : (decDigits n).length ≤ 600) : numR (decDigits n) = .whole n:=by
 have hd:=dec_digs n;have hx:=no_pre (k:=120) ⟨dig_not.1,by decide⟩ (fun c hc => .inl (hd c hc));have hb:=no_pre (k:=98) ⟨dig_not.2.1,by decide⟩ (fun c hc => .inl (hd c hc));have hc:=cut_none (fun c hc => ne46 (hd c hc));unfold numR;rw [if_neg (by omega),hx,if_neg (by simp),hb,if_neg (by simp),hc,if_pos ⟨dec_ok n,rfl⟩,dec_numV]
theorem padP_len (p:Nat) (s : List UInt8) : p + 1 ≤ (padP p s).length∧(p + 1 ≤ s.length → padP p s = s)∧(s.length ≤ p + 1 → (padP p s).length = p + 1):=by
 unfold padP;refine ⟨by rw [List.length_append,List.length_replicate]; omega,fun h => ?_,fun h => by rw [List.length_append,List.length_replicate]; omega⟩;rw [show p + 1 - s.length = 0 by omega];rfl
theorem numV_zeros (k:Nat) (s : List UInt8) : numV 10 (List.replicate k 48 ++ s) = numV 10 s:=by
 have h : numV 10 (List.replicate k 48) = 0:=by
  induction k with
  | zero => rfl
  | succ k ih =>
   rw [List.replicate_succ',numV_snoc,ih];rfl
 rw [numV_app,h];omega
theorem numR_point (N p:Nat) (hp : 0 < p) (h : (pointed p (decDigits N)).length ≤ 600) : numR (pointed p (decDigits N)) = .point N p:=by
 have hd:=dec_digs N;have hpl:=padP_len p (decDigits N);have hpd : ∀ c ∈ padP p (decDigits N),isDg 10 c = true:=by
  intro c hc;unfold padP at hc;rcases List.mem_append.1 hc with hc | hc
  ·rw [(List.mem_replicate.1 hc).2]; decide
  ·exact hd c hc
 have hV : numV 10 (padP p (decDigits N)) = N:=by
  unfold padP;rw [numV_zeros,dec_numV]
 have hu0 : ∀ Z : List UInt8,padP p (decDigits N) = Z → decOk (Z.take (Z.length - p)) = true:=by
  rintro Z rfl;have hone : onlyV ((padP p (decDigits N)).take ((padP p (decDigits N)).length - p)) fg10 = true:=only_digs (by
   intro e;have:=congrArg List.length e;rw [List.length_take,List.length_nil] at this;omega) (fun c hc => hpd c (List.mem_of_mem_take hc))
  unfold decOk;rw [hone,Bool.true_and,Bool.or_eq_true,decide_eq_true_eq,decide_eq_true_eq];rcases Nat.lt_or_ge p (decDigits N).length with h1 | h1
  ·rw [hpl.2.1 h1]
   by_cases hN : N = 0
   ·subst hN;rw [dec_small (by decide)] at h1;simp at h1;omega
   ·refine .inr fun e => dec_head N hN ?_;rcases hz : decDigits N with _ | ⟨x,r⟩
    ·rw [hz] at h1; simp at h1
    ·rw [hz] at e h1;rw [show (x :: r).length - p = ((x :: r).length - p - 1) + 1 by omega,List.take_succ_cons] at e;exact e
  ·left;rw [hpl.2.2 (by omega),show p + 1 - p = 1 by omega];unfold padP;rw [show p + 1 - (decDigits N).length = (p - (decDigits N).length) + 1 by omega,List.replicate_succ];rfl
 unfold pointed at h ⊢;obtain ⟨Z,hZ⟩ : ∃ Z,padP p (decDigits N) = Z:=⟨_,rfl⟩;have hu:=hu0 Z hZ;rw [hZ] at h hpd hV hpl ⊢;clear hu0;have hf : onlyV (Z.drop (Z.length - p)) fg10 = true:=only_digs (by
  intro e;have:=congrArg List.length e;rw [List.length_drop,List.length_nil] at this;omega) (fun c hc => hpd c (List.mem_of_mem_drop hc))
 have hfl : (Z.drop (Z.length - p)).length = p:=by rw [List.length_drop]; omega
 have hud : ∀ c ∈ Z.take (Z.length - p),isDg 10 c = true:=fun c hc => hpd c (List.mem_of_mem_take hc);have hfd : ∀ c ∈ Z.drop (Z.length - p),isDg 10 c = true:=fun c hc => hpd c (List.mem_of_mem_drop hc);have huf:=List.take_append_drop (Z.length - p) Z;obtain ⟨u,hU⟩ : ∃ u,Z.take (Z.length - p) = u:=⟨_,rfl⟩;obtain ⟨f,hF⟩ : ∃ f,Z.drop (Z.length - p) = f:=⟨_,rfl⟩;rw [hU] at hu hud huf h ⊢;rw [hF] at hf hfl hfd huf h ⊢;rw [show u ++ [46] ++ f = u ++ 46 :: f by simp] at h ⊢;have hall : ∀ c ∈ u ++ 46 :: f,isDg 10 c = true∨c = 46:=by
  intro c hc;rcases List.mem_append.1 hc with hc | hc
  ·exact .inl (hud c hc)
  ·rcases List.mem_cons.1 hc with hc | hc
   ·exact .inr hc
   ·exact .inl (hfd c hc)
 have hx:=no_pre (k:=120) ⟨dig_not.1,by decide⟩ hall;have hb:=no_pre (k:=98) ⟨dig_not.2.1,by decide⟩ hall;have hc:=cut_at (f:=f) (fun c hc => ne46 (hud c hc));unfold numR;rw [if_neg (by omega),hx,if_neg (by simp),hb,if_neg (by simp),hc,if_neg (by simp),if_pos ⟨hu,hf⟩];simp only;rw [huf,hV,hfl]
theorem red_mul (B:Nat) (hB : 2 ≤ B) (m c j:Nat) (hm : m ≠ 0) : ∀ k,k ≤ j → redI B k (m * B ^ j,c) = (m * B ^ (j - k),c)
 | 0,_ => rfl
 | k + 1,h => by
  rw [redI,red_mul B hB m c j hm k (by omega)];unfold redS;have h1 : B ^ (j - k) = B ^ (j - (k + 1)) * B:=(by rw [← Nat.pow_succ]; congr 1; omega);have h2 : m * B ^ (j - k) ≠ 0:=Nat.mul_ne_zero hm (by have:=Nat.pow_pos (n:=j - k) (show 0 < B by omega); omega);rw [if_neg h2,if_pos (by rw [h1,← Nat.mul_assoc]; exact Nat.mul_mod_left _ _)];simp only;rw [h1,← Nat.mul_assoc,Nat.mul_div_cancel _ (by omega)]
theorem red_stay (B:Nat) (m c:Nat) (hm : m ≠ 0) (hmB : m % B ≠ 0) : ∀ k,redI B k (m,c) = (m,c * B ^ k)
 | 0 => by simp [redI]
 | k + 1 => by
  rw [redI,red_stay B m c hm hmB k];unfold redS;rw [if_neg hm,if_neg hmB];simp only;rw [Nat.pow_succ,Nat.mul_assoc]
theorem red_add (B:Nat) (x : Nat × Nat) (j:Nat) : ∀ k,redI B (j + k) x = redI B k (redI B j x)
 | 0 => rfl
 | k + 1 => by
  show redS B (redI B (j + k) x) = redS B (redI B k (redI B j x));rw [red_add B x j k]
theorem red_full (B:Nat) (hB : 2 ≤ B) (m c p a:Nat) (hm : m ≠ 0) (ha : a ≤ p) (h : 0 < a → m % B ≠ 0) : redI B p (m * B ^ (p - a),c) = (m,c * B ^ a):=by
 have h1 : redI B (p - a + a) (m * B ^ (p - a),c) = (m,c * B ^ a):=by
  rw [red_add,red_mul B hB m c (p - a) hm (p - a) (Nat.le_refl _),Nat.sub_self,Nat.pow_zero,Nat.mul_one];rcases Nat.eq_zero_or_pos a with h0 | h0
  ·subst h0;simp [redI]
  ·exact red_stay B m c hm (h h0) a
 rwa [Nat.sub_add_cancel ha] at h1
theorem outS_back (n a b p:Nat) (hn : n ≠ 0) (ha : a ≤ p) (hb : b ≤ p) (h2 : 0 < a → n % 2 ≠ 0) (h5 : 0 < b → n % 5 ≠ 0) : outS (n * 2 ^ (p - a) * 5 ^ (p - b)) p 2 = (n,2 ^ a * 5 ^ b):=by
 have e : outS (n * 2 ^ (p - a) * 5 ^ (p - b)) p 2 = redI 5 p (redI 2 p (n * 2 ^ (p - a) * 5 ^ (p - b),1)):=rfl;have h0 : n * 5 ^ (p - b) ≠ 0:=Nat.mul_ne_zero hn (by have:=Nat.pow_pos (n:=p - b) (show 0 < 5 by decide); omega);rw [e,Nat.mul_right_comm,red_full 2 (by decide) (n * 5 ^ (p - b)) 1 p a h0 ha (fun h => ?_),red_full 5 (by decide) n _ p b hn hb h5,Nat.one_mul];rw [Nat.mul_mod,Nat.pow_mod];have:=h2 h;simp;omega
theorem mult_unique {p d m a m' a' : Nat} (hp : 2 ≤ p) (h : d = m * p ^ a) (hm : m % p ≠ 0∨m = 0) (h0 : d = 0 → a = 0) (h' : d = m' * p ^ a') (hm' : m' % p ≠ 0∨m' = 0) (h0' : d = 0 → a' = 0) : m = m'∧a = a':=by
 have key : ∀ {m a m' a' : Nat},d = m * p ^ a → (m % p ≠ 0∨m = 0) → d = m' * p ^ a' → d ≠ 0 → a < a' → False:=by
  intro m a m' a' h hm h' hd hlt;have hpp : 0 < p ^ a:=Nat.pow_pos (by omega);have e : m = m' * p ^ (a' - a):=by
   refine Nat.eq_of_mul_eq_mul_right hpp ?_;rw [Nat.mul_assoc,← Nat.pow_add,Nat.sub_add_cancel (Nat.le_of_lt hlt),← h,← h']
  have e2 : p ^ (a' - a) = p ^ (a' - a - 1) * p:=(by rw [← Nat.pow_succ]; congr 1; omega);rcases hm with hm | hm
  ·refine hm ?_;rw [e,e2,← Nat.mul_assoc];exact Nat.mul_mod_left _ _
  ·rw [hm,Nat.zero_mul] at h;exact hd h
 by_cases hd : d = 0
 ·have e1:=h0 hd;have e2:=h0' hd;subst e1 e2;rw [Nat.pow_zero,Nat.mul_one] at h h';exact ⟨by omega,rfl⟩
 ·have e1 : a = a':=by
   rcases Nat.lt_trichotomy a a' with h1 | h1 | h1
   ·exact (key h hm h' hd h1).elim
   ·exact h1
   ·exact (key h' hm' h hd h1).elim
  subst e1;exact ⟨Nat.eq_of_mul_eq_mul_right (Nat.pow_pos (n:=a) (show 0 < p by omega)) (by rw [← h,← h']),rfl⟩
theorem FinP.one {n d : Nat} {R R' : Except Int (List UInt8)} (h : FinP n d R) (h' : FinP n d R') : R = R':=by
 obtain ⟨a,m1,b,m,h1,h2,h3,h4,h5,h6,h7⟩:=h;obtain ⟨a',m1',b',m',h1',h2',h3',h4',h5',h6',h7'⟩:=h';obtain ⟨rfl,rfl⟩:=mult_unique (by decide) h1 h2 h3 h1' h2' h3';obtain ⟨rfl,rfl⟩:=mult_unique (by decide) h4 h5 h6 h4' h5' h6';rw [h7,h7']
theorem numK_point {n d : Nat} {t : List UInt8} (h : FinP n d (.ok t)) (hl : t.length ≤ 600) : numK (numR t) = ⟨3,lg n,lg d,[],0,0⟩:=by
 obtain ⟨a,m1,b,m,h1,h2,h3,h4,h5,h6,h7⟩:=h;split at h7
 ·cases h7
 ·rename_i hm;have hm1 : m = 1:=(by omega);subst hm1;split at h7
  ·cases h7
  ·rename_i hc;injection h7 with h7;subst h7;have ha : 0 < a → n % 2 ≠ 0:=fun h e => hc (.inr (.inl ⟨h,e⟩));have hb : 0 < b → n % 5 ≠ 0:=fun h e => hc (.inr (.inr ⟨h,e⟩));have hab : a + b ≠ 0:=fun e => hc (.inl e);have hn : n ≠ 0:=by
    rintro rfl;rcases Nat.eq_zero_or_pos a with h | h
    ·exact hb (by omega) rfl
    ·exact ha h rfl
   have hd : d = 2 ^ a * 5 ^ b:=(by rw [h1,h4,Nat.one_mul,Nat.mul_comm]);have hd1 : 2 ^ a * 5 ^ b ≠ 1:=by
    intro e;rcases Nat.eq_zero_or_pos a with h | h
    ·subst h;rw [Nat.pow_zero,Nat.one_mul,Nat.pow_eq_one] at e;omega
    ·obtain ⟨k,rfl⟩ : ∃ k,a = k + 1:=⟨a - 1,by omega⟩;have h1 : 2 ^ (k + 1) * 5 ^ b = 2 * (2 ^ k * 5 ^ b):=(by rw [Nat.pow_succ,Nat.mul_comm (2 ^ k),Nat.mul_assoc]);rw [h1] at e;omega
   have ho:=outS_back n a b (max a b) hn (by omega) (by omega) ha hb;rw [numR_point _ _ (by omega) hl];show (if (outS (n * 2 ^ (max a b - a) * 5 ^ (max a b - b)) (max a b) 2).2 = 1 then (⟨2,lg (outS (n * 2 ^ (max a b - a) * 5 ^ (max a b - b)) (max a b) 2).1,[],[],0,0⟩ : Cst) else ⟨3,lg (outS (n * 2 ^ (max a b - a) * 5 ^ (max a b - b)) (max a b) 2).1,lg (outS (n * 2 ^ (max a b - a) * 5 ^ (max a b - b)) (max a b) 2).2,[],0,0⟩) = _;rw [ho];simp only;rw [if_neg hd1,← hd]
structure RuneOk (r:Nat) : Prop where
 lt : r < 1114112
 dec : ∀ t,decodeL (runeB r ++ t) = (r,(runeB r).length)
 asc : r < 128 → runeB r = [UInt8.ofNat r]
 hi : 128 ≤ r → ∀ c ∈ runeB r,128 ≤ c.toNat
theorem runeB_ascii {r : Nat} (h : r < 128) : runeB r = [UInt8.ofNat r]:=by
 have : ∀ i : Fin 128,runeB i.val = [UInt8.ofNat i.val]:=by decide
 exact this ⟨r,h⟩
theorem rune_ascii {r : Nat} (h : r < 128) : RuneOk r:=by
 refine ⟨by omega,fun t => ?_,fun _ => runeB_ascii h,fun h2 => by omega⟩;rw [runeB_ascii h];have hb : bAt ([UInt8.ofNat r] ++ t) 0 = r:=by
  show (UInt8.ofNat r).toNat = r;simp; omega
 rcases decodeL_head ([UInt8.ofNat r] ++ t) (by simp) with ⟨h1,h2⟩ | ⟨_,h1,_,_,h2⟩
 ·rw [h2,hb]; rfl
 ·have:=h2 0 (by omega);omega
theorem rune_err : RuneOk 65533:=by
 have he : runeB 65533 = [239,191,189]:=by decide
 refine ⟨by decide,fun t => ?_,fun h => by omega,fun _ => by rw [he]; decide⟩;rw [he,decodeL_eq];show decodeN (t.length + 1 + 1 + 1) 239 191 189 (bAt ([239,191,189] ++ t) 3) = _;simp [decodeN]
theorem rune_ok (l : List UInt8) (hne : l ≠ []) : RuneOk (decodeL l).1:=by
 rcases decodeL_head l hne with ⟨h1,h2⟩ | ⟨h128,hw1,hwl,hw4,hall⟩
 ·rw [h2];exact rune_ascii h1
 ·by_cases hv : (decodeL l).1 = 65533∧(decodeL l).2 = 1
  ·rw [hv.1];exact rune_err
  ·have hb : badL l = false:=by
    unfold badL;rw [decide_eq_false (by omega),Bool.false_and,Bool.false_or]
    by_cases h3 : (decodeL l).1 = 65533
    ·have h4 : (decodeL l).2 ≠ 1:=fun h => hv ⟨h3,h⟩;simp [h4]
    ·simp [h3]
   obtain ⟨hc,_,hlen,hd⟩:=chr_of l hne hb;have he : runeB (decodeL l).1 = l.take (decodeL l).2:=encode_decode l hne hv;refine ⟨decodeL_lt l,fun t => ?_,fun h => by omega,fun _ c hcm => ?_⟩
   ·rw [he,hc.dec t,hd]
   ·rw [he] at hcm;obtain ⟨j,hj,hjc⟩:=List.getElem_of_mem hcm;rw [List.getElem_take] at hjc;have:=hall j (by rw [hlen] at hj; exact hj);unfold bAt at this;rw [List.getD_eq_getElem?_getD,List.getElem?_eq_getElem (by rw [hlen] at hj; omega),hjc] at this;exact this
theorem runesF_ok : ∀ (f:Nat) (l : List UInt8),∀ r ∈ runesF f l,RuneOk r
 | 0,l,r,h => by cases h
 | f + 1,l,r,h => by
  unfold runesF at h;split at h
  ·cases h
  ·rename_i hne;rcases List.mem_cons.1 h with h | h
   ·rw [h]; exact rune_ok l hne
   ·exact runesF_ok f _ r h
theorem runes_ok (l : List UInt8) : ∀ r ∈ runesL l,RuneOk r:=runesF_ok _ l
def twice (r:Nat) : List UInt8:=runeB r ++ (if r = 123∨r = 125 then runeB r else [])
theorem ctl_256 (r:Nat) (h : ctlB r = true) : r < 256:=by have:=ctlB_lt r h; omega
theorem esc_low : ∀ i : Fin 10,(at0 [10,110,9,116,92,92,34,34,39,39] i.val).toNat < 128:=by decide
theorem ib_high : ∀ (t : List UInt8) (c : UInt8),(∀ x ∈ t,x ≠ c) → Lib.indexByte t c = -1
 | [],c,_ => rfl
 | x :: t,c,h => by
  unfold Lib.indexByte;rw [if_neg (by have:=h x (by simp); simpa using this)];rw [ib_high t c (fun y hy => h y (by simp [hy]))];rfl
theorem ir_high (r:Nat) (hr : RuneOk r) (h128 : 128 ≤ r) : IrOk r:=by
 intro W;have hul:=runeB_len r;have hhi:=hr.hi h128;have hlt:=hr.lt;have b1 : decide ((0:Int) ≤ (r:Int)) = true:=decide_eq_true (by omega);have b2 : decide ((r:Int) < 128) = false:=decide_eq_false (by omega)
 by_cases he : r = 65533
 ·subst he;clear hul hhi hlt hr b1 b2;have HAT:=hid (fun (k:Nat) (hk : k < 10) => esc_low ⟨k,hk⟩);go_enter Tryz.func78,Tryz.ntmps78;go_wp2_with fail
  go_loopw [5,6] (fun _ _ wr => ∃ pos : Nat,pos ≤ 10∧wr.heap[W.heap.size]? = some (.stringIter ⟨#[10,110,9,116,92,92,34,34,39,39]⟩ pos)∧Below W.heap.size W wr) (fun _ _ wr => 10 - wr.iterPos W.heap.size)
  case atStart => exact ⟨0,Nat.zero_le _,World.iter_heap W _ 0,(Below.refl _ W).alloc (Nat.le_refl _) _⟩
  case round =>
   obtain ⟨pos,hpl,hit,hb⟩:=hrel
   by_cases hp : pos < 10
   ·have hnx : ∀ ty,(Instr.next (.pointer (some ⟨W.heap.size,0,none⟩)) true ty).run Tryz.prog wr = _:=fun ty => run_next_any_at wr W.heap.size ⟨#[10,110,9,116,92,92,34,34,39,39]⟩ pos ty hit (by show pos < 10; exact hp);have hd : Utf8.decode ⟨#[10,110,9,116,92,92,34,34,39,39]⟩ pos = ((at0 [10,110,9,116,92,92,34,34,39,39] pos).toNat,1):=by
     have : ∀ i : Fin 10,Utf8.decode ⟨#[10,110,9,116,92,92,34,34,39,39]⟩ i.val = ((at0 [10,110,9,116,92,92,34,34,39,39] i.val).toNat,1):=(by decide);exact this ⟨pos,hp⟩
    rw [hd] at hnx;have hlo:=HAT.out pos hp;obtain ⟨c,hc⟩ : ∃ c,(at0 [10,110,9,116,92,92,34,34,39,39] pos).toNat = c:=⟨_,rfl⟩;rw [hc] at hnx hlo;have bc : ((c:Int) == 65533) = false:=(by rw [beq_eq_false_iff_ne]; omega);have HI:=hid hit;clear hd hc hit
    go_upto_region 39 with fail
    obtain ⟨W1,hW1⟩ : ∃ W1,wr.iterAt W.heap.size ⟨#[10,110,9,116,92,92,34,34,39,39]⟩ (pos + 1) = W1:=⟨_,rfl⟩;have hb1 : Below W.heap.size W W1:=(by rw [← hW1]; exact below_iterAt hb (Nat.le_refl _) _ _);have hit1 : W1.heap[W.heap.size]? = some (.stringIter ⟨#[10,110,9,116,92,92,34,34,39,39]⟩ (pos + 1)):=(by rw [← hW1]; exact iterAt_heap _ _ _ _ _ HI.out);rw [hW1];have HI1:=hid hit1;clear hW1 hnx hit1 hb;go_wp2_with fail;go_roundw
    case rel => exact ⟨pos + 1,by omega,HI1.out,hb1⟩
    case measure =>
     unfold World.iterPos;rw [HI1.out,HI.out];simp only;omega
   ·have hnx : ∀ ty,(Instr.next (.pointer (some ⟨W.heap.size,0,none⟩)) true ty).run Tryz.prog wr = _:=fun ty => run_next_end_at wr W.heap.size ⟨#[10,110,9,116,92,92,34,34,39,39]⟩ pos ty hit (by show ¬ pos < 10; exact hp);clear hit;go_wp2_with fail;go_ret;exact ⟨-1,rfl,hb,fun h => absurd h (by decide)⟩
 ·have be : ((r:Int) == 65533) = false:=(by rw [beq_eq_false_iff_ne]; omega);have HV:=hid (validR_any r W);have hcv:=fun W => run_rune_str r W;cases hv : validR r
  ·rw [hv] at HV;clear hv hul hhi hcv;go_enter Tryz.func78,Tryz.ntmps78;go_wp2_with fail;refine HV.out.mono ?_;rintro e w2 ⟨rfl,rfl⟩;go_wp2_with fail;go_ret;exact ⟨-1,rfl,Below.refl _ _,fun h => absurd h (by omega)⟩
  ·rw [hv] at HV;obtain ⟨U,hU⟩ : ∃ U,runeB r = U:=⟨_,rfl⟩;rw [hU] at hcv hul hhi;obtain ⟨i,hi⟩ : ∃ i,U.length = i + 1:=⟨U.length - 1,by omega⟩;have hi4 : i < 4:=(by omega);have hc : at0 U i ∈ U:=(by rw [at0_lt U i (by omega)]; exact List.getElem_mem _);have hc128:=hhi _ hc;have hx2:=run_idx U i (by omega) (i:Int) rfl;have hx1:=run_idx [10,110,9,116,92,92,34,34,39,39] i (by simp; omega) (i:Int) rfl;have hlo:=esc_low ⟨i,by omega⟩;have ht:=run_tail [10,110,9,116,92,92,34,34,39,39] (i + 1) (by simp; omega) ((i:Int) + 1) (by omega);have hmem : ∀ x ∈ ([10,110,9,116,92,92,34,34,39,39] : List UInt8).drop (i + 1),x ≠ at0 U i:=by
    intro x hx e;have h1:=List.mem_of_mem_drop hx;have h2 : ∀ y ∈ ([10,110,9,116,92,92,34,34,39,39] : List UInt8),y.toNat < 128:=(by decide);have h3:=h2 x h1;rw [e] at h3;omega
   have HIB:=hid (fun W' => ib_at (([10,110,9,116,92,92,34,34,39,39] : List UInt8).drop (i + 1)) (at0 U i) (-1) (ib_high _ _ hmem) W');obtain ⟨D,hD⟩ : ∃ D,([10,110,9,116,92,92,34,34,39,39] : List UInt8).drop (i + 1) = D:=⟨_,rfl⟩;rw [hD] at ht HIB;simp only at hlo;obtain ⟨c,hce⟩ : ∃ c,at0 U i = c:=⟨_,rfl⟩;obtain ⟨d,hde⟩ : ∃ d,at0 [10,110,9,116,92,92,34,34,39,39] i = d:=⟨_,rfl⟩;rw [hce] at hx2 HIB hc128;rw [hde] at hx1 hlo;have hcd : ((d.toNat:Int) == (c.toNat:Int)) = false:=(by rw [beq_eq_false_iff_ne]; omega);have hcd2 : ((d.toNat:Int) != (c.toNat:Int)) = true:=(by rw [bne_iff_ne]; omega);have hui : (U.length:Int) - 1 = (i:Int):=(by omega);have hi10 : (i:Int) < 10:=(by omega);have wi : IntKind.i64.wrap ((i:Int) + 1) = (i:Int) + 1:=IntWalk.i64_in _ (by omega);clear hv hul hhi hU hc hmem hD hce hde;go_enter Tryz.func78,Tryz.ntmps78;go_wp2_with fail;refine HV.out.mono ?_;rintro e w2 ⟨rfl,rfl⟩;go_wp2_with fail;refine wp_scope_straight ?_;go_wp2_with fail;refine wp_loop_rounds 1 ?_;rw [rounds_succ];go_wp2_with fail;refine wp_scope_straight ?_;go_wp2_with fail;go_quiet (fail);go_wp2_with fail;generalize hw : World.drewN W _ = W2;have HW:=hid hw;clear hw;go_quiet ((go_at_call 87; exact quiet_left (HIB.out _)));go_wp2_with fail;simp only [Exit.noGoto,Exit.inBlock,Exit.then];go_ret;exact ⟨-1,rfl,below_drewN (by rw [← HW.out]; exact below_drewN (Below.refl _ _) _) _,fun h => absurd h (by omega)⟩
end
end Go.Proofs.YtonehlkiackhcaaGreatDoor