/- The reference's comparison of parts. The literals: slices.Equal over parts. Nothing is claimed here. -/
import Derived.Test.YtonehlkiackhcaaGreatDoorLitJo
set_option linter.unusedVariables false
set_option linter.unusedSimpArgs false
set_option maxRecDepth 100000
set_option maxHeartbeats 16000000
namespace Go.Proofs.YtonehlkiackhcaaGreatDoor
section
open Go.RowKit Go.Lib Go.Sort
theorem fin_half {R : Except Int (List UInt8)} (h : FinP 5 2 R) : R = .ok [50,46,53]:=by
 obtain ⟨a,m1,b,m,h1,h2,h3,h4,h5,h6,h7⟩:=h;have ha : a < 2:=by
  rcases Nat.lt_or_ge a 2 with h | h
  ·exact h
  ·have hp : 2 ^ 2 ≤ 2 ^ a:=Nat.pow_le_pow_right (by decide) h;rcases Nat.eq_zero_or_pos m1 with h0 | h0
   ·subst h0; omega
   ·have:=Nat.mul_le_mul h0 hp;omega
 have ha1 : a = 1:=by
  rcases (show a = 0∨a = 1 by omega) with h | h
  ·subst h; simp at h1; omega
  ·exact h
 subst ha1;have hm1 : m1 = 1:=by omega
 subst hm1;have hb : b = 0:=by
  rcases b with _ | b
  ·rfl
  ·rw [Nat.pow_succ,← Nat.mul_assoc] at h4;omega
 subst hb;have hm : m = 1:=by omega
 subst hm;rw [h7,if_neg (by decide),if_neg (by decide)];show Except.ok (pointed 1 (decDigits 25)) = _;rw [decDigits_two (by decide) (by decide)];rfl
theorem lg_small {n : Nat} (h0 : n ≠ 0) (h : n < 4294967296) : lg n = [n]:=by
 unfold lg;rw [dig_pos (by decide) h0,Nat.mod_eq_of_lt h,Nat.div_eq_of_lt h,dig_zero]
theorem num_sp : numR [50,46,53,48] = .point 250 2:=by kernel_rfl
theorem out_sp : outS 250 2 2 = (5,2):=by decide
theorem str_sp : strS [98,34,92,120,52,49,122,34] = .ok (5,[65,122]):=by kernel_rfl
def prsSp : List Prt:=[⟨false,[97,123],0,[]⟩,⟨true,[120],114,[62,53]⟩]
theorem parts_sp : partsS [102,34,97,123,123,123,120,33,114,58,62,53,125,34] = .ok prsSp:=by kernel_rfl
theorem join_sp : ljoinR prsSp = ([102,39,97,123,123,123,120,33,114,58,62,53,125,39],0,0):=by kernel_rfl
theorem spells_any (w : World) (he : REnv w) (htab : Lib.TabIs Tryz.prog w "internal/strconv.uint64pow10" .u64 Lib.pow10Tab) :
  Calls Tryz.prog 7 #[] w fun e w' => e = .returned (.bool true)∧Below w.heap.size w w':=by
 go_enter Tryz.func7,Tryz.ntmps7;go_wp2_with fail;refine (litnum_any [50,46,53,48] w (by decide) he.lim).mono ?_;rintro e w1 ⟨hb1,hpost⟩;rw [num_sp] at hpost;obtain ⟨v,rfl,A,c,hr1,hif⟩:=hpost;rw [out_sp] at hr1 hif;rw [if_neg (by decide)] at hif;obtain ⟨A',c',hr2,rfl⟩:=hif;simp only at hr1 hr2 ⊢;have he1:=he.keepB hb1;have ht1:=tab_keep htab hb1;clear he htab;unfold valD flt;go_wp2_with fail;have hV:=(Blk.new w1 26 #[.int .i64 3,.bool false,.slice A (lg 5).length c,.bool false,.slice A' (lg 2).length c',.string ⟨#[]⟩,.int .i64 0]);have hF1:=Blk.new (w1.alloc (.cells #[.int .i64 3,.bool false,.slice A (lg 5).length c,.bool false,.slice A' (lg 2).length c',.string ⟨#[]⟩,.int .i64 0] 26)) 29 #[.int .i64 0,.int .i64 0];have ba1:=(Below.refl w1.heap.size w1).alloc (Nat.le_refl _) (.cells #[.int .i64 3,.bool false,.slice A (lg 5).length c,.bool false,.slice A' (lg 2).length c',.string ⟨#[]⟩,.int .i64 0] 26);have ba:=ba1.alloc ba1.size (.cells #[.int .i64 0,.int .i64 0] 29);rw [show (w1.alloc (.cells #[.int .i64 3,.bool false,.slice A (lg 5).length c,.bool false,.slice A' (lg 2).length c',.string ⟨#[]⟩,.int .i64 0] 26)).heap.size = w1.heap.size + 1 from by simp] at hF1;obtain ⟨w2,hw2⟩ : ∃ w2,(w1.alloc (.cells #[.int .i64 3,.bool false,.slice A (lg 5).length c,.bool false,.slice A' (lg 2).length c',.string ⟨#[]⟩,.int .i64 0] 26)).alloc (.cells #[.int .i64 0,.int .i64 0] 29) = w2:=⟨_,rfl⟩;rw [hw2] at hF1 ba ⊢;have he2:=he1.keepB ba;have ht2:=tab_keep ht1 ba;have hr21:=hr1.keepB ba;have hr22:=hr2.keepB ba;have hb2:=below_then hb1 ba hb1.size;clear hw2 ba ba1 hV he1 ht1 hb1 hr1 hr2;refine (lprint3_any 5 2 A A' c c' (by rw [lg_small (by decide) (by decide)]; decide) (by rw [lg_small (by decide) (by decide)]; decide) (by rw [lg_small (by decide) (by decide)]; decide) (by rw [lg_small (by decide) (by decide)]; decide) hr21 hr22 ht2).mono ?_;rintro e w3 ⟨ba,R,hR,hpost⟩;obtain rfl:=fin_half hR;have hpost : e = .returned (.tuple #[.string ⟨#[50,46,53]⟩,flt 0 0]):=hpost;obtain rfl:=hpost;have he3:=he2.keepB ba;have hF13:=hF1.belowS ba;have hb3:=below_then hb2 ba hb2.size;clear ba he2 ht2 hb2 hF1 hr21 hr22 hR;obtain ⟨bf,hbf⟩ : ∃ bf,w1.heap.size + 1 = bf:=⟨_,rfl⟩;rw [hbf] at hF13 ⊢;clear hbf;unfold flt;go_wp2_with fail;have hF3:=hF13.alloc (.cells #[.int .i64 0,.int .i64 0] 29);have hG3:=Blk.new w3 29 #[.int .i64 0,.int .i64 0];have ba:=(Below.refl w3.heap.size w3).alloc (Nat.le_refl _) (.cells #[.int .i64 0,.int .i64 0] 29);obtain ⟨bg,hbg⟩ : ∃ bg,w3.heap.size = bg:=⟨_,rfl⟩;rw [hbg] at hG3;obtain ⟨w4,hw4⟩ : ∃ w4,w3.alloc (.cells #[.int .i64 0,.int .i64 0] 29) = w4:=⟨_,rfl⟩;rw [hw4] at hF3 hG3 ba ⊢;rw [hbg];have he4:=he3.keepB ba;have hb4:=below_then hb3 ba hb3.size;clear hbg hw4 ba he3 hb3 hF13;refine (string_any [98,34,92,120,52,49,122,34] w4 (by decide) he4.c.l).mono ?_;rintro e w5 ⟨ba,hpost⟩;rw [str_sp] at hpost;obtain rfl:=hpost;have he5:=he4.keepB ba;have hb5:=below_then hb4 ba hb4.size;have hF5:=hF3.belowS ba;have hG5:=hG3.belowS ba;clear ba he4 hb4 hF3 hG3;unfold valC flt;go_wp2_with fail;have hF6:=(hF5.alloc (.cells #[.int .i64 5,.bool false,.slice none 0 0,.bool false,.slice none 0 0,.string ⟨#[65,122]⟩,.int .i64 0] 26)).alloc (.cells #[.int .i64 0,.int .i64 0] 29);have hG6:=(hG5.alloc (.cells #[.int .i64 5,.bool false,.slice none 0 0,.bool false,.slice none 0 0,.string ⟨#[65,122]⟩,.int .i64 0] 26)).alloc (.cells #[.int .i64 0,.int .i64 0] 29);have hV6:=(Blk.new w5 26 #[.int .i64 5,.bool false,.slice none 0 0,.bool false,.slice none 0 0,.string ⟨#[65,122]⟩,.int .i64 0]).alloc (.cells #[.int .i64 0,.int .i64 0] 29);have hH6:=Blk.new (w5.alloc (.cells #[.int .i64 5,.bool false,.slice none 0 0,.bool false,.slice none 0 0,.string ⟨#[65,122]⟩,.int .i64 0] 26)) 29 #[.int .i64 0,.int .i64 0];have ba1:=(Below.refl w5.heap.size w5).alloc (Nat.le_refl _) (.cells #[.int .i64 5,.bool false,.slice none 0 0,.bool false,.slice none 0 0,.string ⟨#[65,122]⟩,.int .i64 0] 26)
 have ba:=ba1.alloc ba1.size (.cells #[.int .i64 0,.int .i64 0] 29);rw [show (w5.alloc (.cells #[.int .i64 5,.bool false,.slice none 0 0,.bool false,.slice none 0 0,.string ⟨#[65,122]⟩,.int .i64 0] 26)).heap.size = w5.heap.size + 1 from by simp] at hH6;obtain ⟨w6,hw6⟩ : ∃ w6,(w5.alloc (.cells #[.int .i64 5,.bool false,.slice none 0 0,.bool false,.slice none 0 0,.string ⟨#[65,122]⟩,.int .i64 0] 26)).alloc (.cells #[.int .i64 0,.int .i64 0] 29) = w6:=⟨_,rfl⟩;rw [hw6] at hF6 hG6 hV6 hH6 ba ⊢;have he6:=he5.keepB ba;have hb6:=below_then hb5 ba hb5.size;clear hw6 ba ba1 he5 hb5 hF5 hG5;obtain ⟨bh,hbh⟩ : ∃ bh,w5.heap.size + 1 = bh:=⟨_,rfl⟩;rw [hbh] at hH6 ⊢;obtain ⟨bw,hbw⟩ : ∃ bw,w5.heap.size = bw:=⟨_,rfl⟩;rw [hbw] at hV6 ⊢;clear hbh hbw;refine (parts_any [102,34,97,123,123,123,120,33,114,58,62,53,125,34] w6 (by decide) he6.c.l).mono ?_;rintro e w7 ⟨ba,hpost⟩;rw [parts_sp] at hpost;obtain ⟨vt,rfl,hown⟩:=hpost;obtain ⟨P,pc,rfl,_,_⟩:=own_form hown;have hrp:=Row.of_own hown;have he7:=he6.keepB ba;have hb7:=below_then hb6 ba hb6.size;have hF7:=hF6.belowS ba;have hG7:=hG6.belowS ba;have hV7:=hV6.belowS ba;have hH7:=hH6.belowS ba;clear ba he6 hb6 hF6 hG6 hV6 hH6 hown;unfold flt;rw [show prsSp.length = 2 from rfl];go_wp2_with fail;have hF8:=hF7.alloc (.cells #[.int .i64 0,.int .i64 0] 29);have hG8:=hG7.alloc (.cells #[.int .i64 0,.int .i64 0] 29);have hV8:=hV7.alloc (.cells #[.int .i64 0,.int .i64 0] 29);have hH8:=hH7.alloc (.cells #[.int .i64 0,.int .i64 0] 29);have hI8:=Blk.new w7 29 #[.int .i64 0,.int .i64 0];have ba:=(Below.refl w7.heap.size w7).alloc (Nat.le_refl _) (.cells #[.int .i64 0,.int .i64 0] 29);obtain ⟨w8,hw8⟩ : ∃ w8,w7.alloc (.cells #[.int .i64 0,.int .i64 0] 29) = w8:=⟨_,rfl⟩;rw [hw8] at hF8 hG8 hV8 hH8 hI8 ba ⊢;have he8:=he7.keepB ba;have hb8:=below_then hb7 ba hb7.size;have hr8:=hrp.keepB ba;obtain ⟨bi,hbi⟩ : ∃ bi,w7.heap.size = bi:=⟨_,rfl⟩;rw [hbi] at hI8 ⊢;clear hbi hw8 ba he7 hb7 hF7 hG7 hV7 hH7 hrp;refine (ljoin_any P pc prsSp w8 (by decide) (by decide) (by
  intro p hp;unfold prsSp at hp;rcases List.mem_cons.1 hp with rfl | hp
  ·refine ⟨by decide,by decide,fun _ r hr => ir_ascii r ?_⟩;have : ∀ r ∈ runesL [97,123],r < 128:=(by decide);exact this r hr
  ·rw [List.mem_singleton.1 hp];exact ⟨by decide,by decide,fun h => by cases h⟩) hr8 he8.c.l).mono ?_
 rintro e w9 ⟨rfl,ba⟩;rw [join_sp];have hb9:=below_then hb8 ba hb8.size;have hF9:=(hF8.belowS ba).alloc (.cells #[.int .i64 0,.int .i64 0] 29);have hG9:=(hG8.belowS ba).alloc (.cells #[.int .i64 0,.int .i64 0] 29);have hV9:=(hV8.belowS ba).alloc (.cells #[.int .i64 0,.int .i64 0] 29);have hH9:=(hH8.belowS ba).alloc (.cells #[.int .i64 0,.int .i64 0] 29);have hI9:=(hI8.belowS ba).alloc (.cells #[.int .i64 0,.int .i64 0] 29);have hJ9:=Blk.new w9 29 #[.int .i64 0,.int .i64 0];have hbz:=hb9.alloc hb9.size (.cells #[.int .i64 0,.int .i64 0] 29);clear ba hb8 hF8 hG8 hV8 hH8 hI8 hr8 he8 hb9;obtain ⟨f1,f2,f3⟩:=hF9.rules;obtain ⟨g1,g2,g3⟩:=hG9.rules;obtain ⟨v1,v2,v3⟩:=hV9.rules;obtain ⟨h1,h2,h3⟩:=hH9.rules;obtain ⟨i1,i2,i3⟩:=hI9.rules;obtain ⟨j1,j2,j3⟩:=hJ9.rules;unfold flt;go_wp2_with fail;go_ret;exact ⟨rfl,hbz⟩
structure RuneOk (r:Nat) : Prop where
 lt : r < 1114112
 dec : ∀ t,decodeL (runeB r ++ t) = (r,(runeB r).length)
 asc : r < 128 → runeB r = [UInt8.ofNat r]
 hi : 128 ≤ r → ∀ c ∈ runeB r,128 ≤ c.toNat
theorem runeB_ascii {r : Nat} (h : r < 128) : runeB r = [UInt8.ofNat r]:=by
 have : ∀ i : Fin 128,runeB i.val = [UInt8.ofNat i.val]:=by decide
 exact this ⟨r,h⟩
theorem rune_ascii {r : Nat} (h : r < 128) : RuneOk r:=by
 refine ⟨by omega,fun t => ?_,fun _ => runeB_ascii h,fun h2 => by omega⟩;rw [runeB_ascii h];have hb : bAt ([UInt8.ofNat r] ++ t) 0 = r:=by
  show (UInt8.ofNat r).toNat = r;simp; omega
 rcases decodeL_head ([UInt8.ofNat r] ++ t) (by simp) with ⟨h1,h2⟩ | ⟨_,h1,_,_,h2⟩
 ·rw [h2,hb]; rfl
 ·have:=h2 0 (by omega);omega
theorem rune_err : RuneOk 65533:=by
 have he : runeB 65533 = [239,191,189]:=by decide
 refine ⟨by decide,fun t => ?_,fun h => by omega,fun _ => by rw [he]; decide⟩;rw [he,decodeL_eq];show decodeN (t.length + 1 + 1 + 1) 239 191 189 (bAt ([239,191,189] ++ t) 3) = _;simp [decodeN]
theorem rune_ok (l : List UInt8) (hne : l ≠ []) : RuneOk (decodeL l).1:=by
 rcases decodeL_head l hne with ⟨h1,h2⟩ | ⟨h128,hw1,hwl,hw4,hall⟩
 ·rw [h2];exact rune_ascii h1
 ·by_cases hv : (decodeL l).1 = 65533∧(decodeL l).2 = 1
  ·rw [hv.1];exact rune_err
  ·have hb : badL l = false:=by
    unfold badL;rw [decide_eq_false (by omega),Bool.false_and,Bool.false_or]
    by_cases h3 : (decodeL l).1 = 65533
    ·have h4 : (decodeL l).2 ≠ 1:=fun h => hv ⟨h3,h⟩;simp [h4]
    ·simp [h3]
   obtain ⟨hc,_,hlen,hd⟩:=chr_of l hne hb;have he : runeB (decodeL l).1 = l.take (decodeL l).2:=encode_decode l hne hv;refine ⟨decodeL_lt l,fun t => ?_,fun h => by omega,fun _ c hcm => ?_⟩
   ·rw [he,hc.dec t,hd]
   ·rw [he] at hcm;obtain ⟨j,hj,hjc⟩:=List.getElem_of_mem hcm;rw [List.getElem_take] at hjc;have:=hall j (by rw [hlen] at hj; exact hj);unfold bAt at this;rw [List.getD_eq_getElem?_getD,List.getElem?_eq_getElem (by rw [hlen] at hj; omega),hjc] at this;exact this
theorem runesF_ok : ∀ (f:Nat) (l : List UInt8),∀ r ∈ runesF f l,RuneOk r
 | 0,l,r,h => by cases h
 | f + 1,l,r,h => by
  unfold runesF at h;split at h
  ·cases h
  ·rename_i hne;rcases List.mem_cons.1 h with h | h
   ·rw [h]; exact rune_ok l hne
   ·exact runesF_ok f _ r h
theorem runes_ok (l : List UInt8) : ∀ r ∈ runesL l,RuneOk r:=runesF_ok _ l
theorem runesF_cat : ∀ (rs : List Nat) (f:Nat),(∀ r ∈ rs,RuneOk r) → (rs.flatMap runeB).length ≤ f → runesF f (rs.flatMap runeB) = rs
 | [],f,_,_ => by cases f <;> simp [runesF]
 | r :: rs,f,h,hf => by
  have hr:=h r (by simp);have hl:=runeB_len r;rw [List.flatMap_cons,List.length_append] at hf;obtain ⟨f',rfl⟩ : ∃ f',f = f' + 1:=⟨f - 1,by omega⟩;have hne : runeB r ++ rs.flatMap runeB ≠ []:=by
   intro e;have h0 : (runeB r ++ rs.flatMap runeB).length = 0:=(by rw [e]; rfl);rw [List.length_append] at h0;omega
  rw [List.flatMap_cons,runesF,if_neg hne,hr.dec,List.drop_left,runesF_cat rs f' (fun q hq => h q (by simp [hq])) (by omega)]
theorem runesL_cat (rs : List Nat) (h : ∀ r ∈ rs,RuneOk r) : runesL (rs.flatMap runeB) = rs:=runesF_cat rs _ h (Nat.le_refl _)
def twice (r:Nat) : List UInt8:=runeB r ++ (if r = 123∨r = 125 then runeB r else [])
theorem repl_app (a b : List UInt8) : repl (a ++ b) = repl a ++ repl b:=by unfold repl; rw [List.flatMap_append]
theorem repl_high : ∀ (l : List UInt8),(∀ c ∈ l,128 ≤ c.toNat) → repl l = l
 | [],_ => rfl
 | c :: l,h => by
  have hc:=h c (by simp);unfold repl;rw [List.flatMap_cons,if_neg (by rintro (rfl | rfl) <;> exact absurd hc (by decide))];show c :: repl l = _;rw [repl_high l (fun d hd => h d (by simp [hd]))]
theorem repl_rune {r : Nat} (h : RuneOk r) : repl (runeB r) = twice r:=by
 unfold twice
 by_cases h1 : r < 128
 ·rw [h.asc h1];have : ∀ i : Fin 128,repl [UInt8.ofNat i.val] = [UInt8.ofNat i.val] ++ (if i.val = 123∨i.val = 125 then [UInt8.ofNat i.val] else []):=(by decide);exact this ⟨r,h1⟩
 ·rw [if_neg (by omega),List.append_nil];exact repl_high _ (h.hi (by omega))
theorem twice_cat : ∀ (rs : List Nat),(∀ r ∈ rs,RuneOk r) → rs.flatMap twice = repl (rs.flatMap runeB)
 | [],_ => rfl
 | r :: rs,h => by
  rw [List.flatMap_cons,List.flatMap_cons,repl_app,repl_rune (h r (by simp)),twice_cat rs (fun q hq => h q (by simp [hq]))]
theorem charQ_runes {Q : Nat} {hid : Nat → Bool} (hh : ∀ r,hid r = true → r < 256) (r:Nat) (h : RuneOk r) : ∃ rs : List Nat,charQ Q hid r = rs.flatMap runeB∧∀ q ∈ rs,RuneOk q:=by
 have two : ∀ a b : Nat,a < 128 → b < 128 → ∃ rs : List Nat,[UInt8.ofNat a,UInt8.ofNat b] = rs.flatMap runeB∧∀ q ∈ rs,RuneOk q:=fun a b ha hb => ⟨[a,b],by simp [runeB_ascii ha,runeB_ascii hb],fun q hq => by
  simp only [List.mem_cons,List.mem_nil_iff,or_false] at hq;rcases hq with rfl | rfl
  ·exact rune_ascii ha
  ·exact rune_ascii hb⟩
 have self : ∃ rs : List Nat,runeB r = rs.flatMap runeB∧∀ q ∈ rs,RuneOk q:=⟨[r],by simp,fun q hq => by rw [List.mem_singleton.1 hq]; exact h⟩;unfold charQ;split
 ·exact self
 ·split
  ·exact two 92 110 (by decide) (by decide)
  ·split
   ·exact two 92 116 (by decide) (by decide)
   ·split
    ·exact two 92 92 (by decide) (by decide)
    ·split
     ·exact two 92 34 (by decide) (by decide)
     ·split
      ·exact two 92 39 (by decide) (by decide)
      ·split
       ·rename_i hr;have h256:=hh r hr;have hx : ∀ i : Fin 16,(hexC i.val).toNat < 128:=(by decide);have e1 : hexC (r / 16) = UInt8.ofNat (hexC (r / 16)).toNat:=(by simp);have e2 : hexC (r % 16) = UInt8.ofNat (hexC (r % 16)).toNat:=(by simp);have l1:=hx ⟨r / 16,by omega⟩;have l2:=hx ⟨r % 16,by omega⟩;simp only at l1 l2;obtain ⟨a,ha⟩ : ∃ a,(hexC (r / 16)).toNat = a:=⟨_,rfl⟩;obtain ⟨b,hb⟩ : ∃ b,(hexC (r % 16)).toNat = b:=⟨_,rfl⟩;rw [ha] at e1 l1;rw [hb] at e2 l2;rw [e1,e2];refine ⟨[92,120,a,b],?_,fun q hq => ?_⟩
        ·simp [runeB_ascii l1,runeB_ascii l2,runeB_ascii (show 92 < 128 by decide),runeB_ascii (show 120 < 128 by decide)]
        ·simp only [List.mem_cons,List.mem_nil_iff,or_false] at hq;rcases hq with rfl | rfl | rfl | rfl
         ·exact rune_ascii (by decide)
         ·exact rune_ascii (by decide)
         ·exact rune_ascii l1
         ·exact rune_ascii l2
       ·exact self
theorem charQ_all {Q : Nat} {hid : Nat → Bool} (hh : ∀ r,hid r = true → r < 256) : ∀ (rs : List Nat),(∀ r ∈ rs,RuneOk r) → ∃ qs : List Nat,rs.flatMap (charQ Q hid) = qs.flatMap runeB∧∀ q ∈ qs,RuneOk q
 | [],_ => ⟨[],rfl,fun q hq => by cases hq⟩
 | r :: rs,h => by
  obtain ⟨a,ha,hao⟩:=charQ_runes (Q:=Q) hh r (h r (by simp));obtain ⟨b,hb,hbo⟩:=charQ_all (Q:=Q) hh rs (fun q hq => h q (by simp [hq]));refine ⟨a ++ b,?_,fun q hq => ?_⟩
  ·rw [List.flatMap_cons,ha,hb,List.flatMap_append]
  ·rcases List.mem_append.1 hq with h1 | h1
   ·exact hao q h1
   ·exact hbo q h1
theorem ctl_256 (r:Nat) (h : ctlB r = true) : r < 256:=by have:=ctlB_lt r h; omega
theorem braces_same (s : List UInt8) : (runesL ((runesL s).flatMap (charQ 39 ctlB))).flatMap twice = repl ((runesL s).flatMap (charQ 39 ctlB)):=by
 obtain ⟨qs,hq,hqo⟩:=charQ_all (Q:=39) ctl_256 (runesL s) (runes_ok s);rw [hq,runesL_cat qs hqo,twice_cat qs hqo]
def shownV (Q : UInt8) (r:Nat) (h : Bool) : List UInt8 :=
 if r = 10 then [92,110] else if r = 9 then [92,116] else if r = 92∨runeB r = [Q] then 92 :: runeB r
 else if h = true then [92,120,hexC (r / 16),hexC (r % 16)] else runeB r
theorem run_hexs (x:Nat) (h : x < 16) (W : World) : (Instr.slice 9 (.string ⟨#[48,49,50,51,52,53,54,55,56,57,97,98,99,100,101,102]⟩) (some (.int .i32 (x:Int))) (some (.int .i32 ((x:Int) + 1))) none).run Tryz.prog W = .ok (.string ⟨#[hexC x]⟩) W:=by
 rw [run_slice_string W 9 ⟨#[48,49,50,51,52,53,54,55,56,57,97,98,99,100,101,102]⟩ .i32 .i32 _ _ Tryz.underlying9 (by omega) (by omega) (by simp [ByteArray.size]; omega)];have h2 : ∀ i : Fin 16,(⟨#[48,49,50,51,52,53,54,55,56,57,97,98,99,100,101,102]⟩ : ByteArray).extract (i.val:Int).toNat ((i.val:Int) + 1).toNat = ⟨#[hexC i.val]⟩:=by
  intro i
  match i with
  | ⟨0,_⟩ => rfl
  | ⟨1,_⟩ => rfl
  | ⟨2,_⟩ => rfl
  | ⟨3,_⟩ => rfl
  | ⟨4,_⟩ => rfl
  | ⟨5,_⟩ => rfl
  | ⟨6,_⟩ => rfl
  | ⟨7,_⟩ => rfl
  | ⟨8,_⟩ => rfl
  | ⟨9,_⟩ => rfl
  | ⟨10,_⟩ => rfl
  | ⟨11,_⟩ => rfl
  | ⟨12,_⟩ => rfl
  | ⟨13,_⟩ => rfl
  | ⟨14,_⟩ => rfl
  | ⟨15,_⟩ => rfl
  | ⟨n + 16,h⟩ => exact absurd h (by omega)
 rw [h2 ⟨x,h⟩]
theorem shown_any (Q : UInt8) (r:Nat) (h : Bool) (w : World) (hr : r < 1114112) (hh : h = true → r < 256) :
  Calls Tryz.prog 35 #[.int .i32 (r:Int),.string ⟨#[Q]⟩,.bool h] w fun e w' => e = .returned (.string ⟨(shownV Q r h).toArray⟩)∧∃ n,w' = w.drewN n:=by
 obtain ⟨R,hR⟩ : ∃ R,shownV Q r h = R:=⟨_,rfl⟩;rw [hR];unfold shownV at hR;have hcv:=fun W => run_rune_str r W;have hul:=runeB_len r
 by_cases h10 : r = 10
 ·rw [if_pos h10] at hR;subst hR;subst h10;clear hcv;go_enter Tryz.func35,Tryz.ntmps35;go_wp2_with fail;go_ret;exact ⟨rfl,0,rfl⟩
 ·rw [if_neg h10] at hR;have b10 : ((r:Int) == 10) = false:=by rw [beq_eq_false_iff_ne]; omega
  by_cases h9 : r = 9
  ·rw [if_pos h9] at hR;subst hR;subst h9;clear hcv b10;go_enter Tryz.func35,Tryz.ntmps35;go_wp2_with fail;go_ret;exact ⟨rfl,0,rfl⟩
  ·rw [if_neg h9] at hR;have b9 : ((r:Int) == 9) = false:=by rw [beq_eq_false_iff_ne]; omega
   by_cases h92 : r = 92
   ·rw [if_pos (.inl h92)] at hR;subst hR;subst h92;have e92 : runeB 92 = [92]:=(by decide);rw [e92] at hcv ⊢;clear hul b10 b9;go_enter Tryz.func35,Tryz.ntmps35;go_wp2_with fail;go_ret;exact ⟨rfl,0,rfl⟩
   ·have b92 : ((r:Int) == 92) = false:=(by rw [beq_eq_false_iff_ne]; omega);obtain ⟨U,hU⟩ : ∃ U,runeB r = U:=⟨_,rfl⟩;rw [hU] at hcv hul hR;clear hU
    by_cases hq : U = [Q]
    ·rw [if_pos (.inr hq)] at hR;have bq : (U == [Q]) = true:=(by rw [beq_iff_eq]; exact hq);have hadd : ∀ W : World,(Op.stringOp .add ⟨#[92]⟩ ⟨U.toArray⟩).run Tryz.prog W = .ok (.string ⟨(92 :: U).toArray⟩) W:=fun W => run_string_add_lists W [92] U (by simp) (by omega);rw [hR] at hadd;clear hq h10 h9 h92 hR;go_enter Tryz.func35,Tryz.ntmps35;go_wp2_with fail;go_ret;exact ⟨rfl,0,rfl⟩
    ·rw [if_neg (by rintro (h | h); exact h92 h; exact hq h)] at hR;have bq : (U == [Q]) = false:=(by rw [beq_eq_false_iff_ne]; exact hq);clear hq;cases h with
     | false =>
      rw [if_neg (by decide)] at hR;subst hR;clear h10 h9 h92;go_enter Tryz.func35,Tryz.ntmps35;go_wp2_with fail;go_ret;exact ⟨rfl,0,rfl⟩
     | true =>
      rw [if_pos rfl] at hR;have h256:=hh rfl;have hq1 : ((r:Int)).tdiv 16 = ((r / 16:Nat):Int):=(by rw [Int.tdiv_eq_ediv_of_nonneg (by omega)]; rfl);have hq2 : ((r:Int)) / 16 = ((r / 16:Nat):Int):=rfl;have hm1 : ((r:Int)).tmod 16 = ((r % 16:Nat):Int):=(by rw [Int.tmod_eq_emod_of_nonneg (by omega)]; rfl);have hm2 : ((r:Int)) % 16 = ((r % 16:Nat):Int):=rfl;have hql : r / 16 < 16:=(by omega);have hml : r % 16 < 16:=(by omega);obtain ⟨q,hqe⟩ : ∃ q,r / 16 = q:=⟨_,rfl⟩;obtain ⟨m,hme⟩ : ∃ m,r % 16 = m:=⟨_,rfl⟩;rw [hqe] at hq1 hq2 hql hR;rw [hme] at hm1 hm2 hml hR;have s1:=run_hexs q hql;have s2:=run_hexs m hml;obtain ⟨a,ha⟩ : ∃ a,hexC q = a:=⟨_,rfl⟩;obtain ⟨b,hb⟩ : ∃ b,hexC m = b:=⟨_,rfl⟩;rw [ha] at s1 hR;rw [hb] at s2 hR;have a1 : ∀ W : World,(Op.stringOp .add ⟨#[92,120]⟩ ⟨#[a]⟩).run Tryz.prog W = .ok (.string ⟨#[92,120,a]⟩) W:=fun W => run_string_add_lists W [92,120] [a] (by simp) (by simp);have a2 : ∀ W : World,(Op.stringOp .add ⟨#[92,120,a]⟩ ⟨#[b]⟩).run Tryz.prog W = .ok (.string ⟨#[92,120,a,b]⟩) W:=fun W => run_string_add_lists W [92,120,a] [b] (by simp) (by simp);have w1 : IntKind.i32.wrap (q:Int) = (q:Int):=IntWalk.i32_in _ (by omega);have w2 : IntKind.i32.wrap (m:Int) = (m:Int):=IntWalk.i32_in _ (by omega);have w3 : IntKind.i32.wrap ((q:Int) + 1) = (q:Int) + 1:=IntWalk.i32_in _ (by omega);have w4 : IntKind.i32.wrap ((m:Int) + 1) = (m:Int) + 1:=IntWalk.i32_in _ (by omega);subst hR;clear hqe hme ha hb h10 h9 h92 h256 hh;go_enter Tryz.func35,Tryz.ntmps35;go_wp2_with fail;go_quiet (fail);go_wp2_with fail;go_ret;exact ⟨rfl,_,rfl⟩
theorem shownV_len (Q : UInt8) (r:Nat) (h : Bool) : (shownV Q r h).length ≤ 4:=by
 have hl:=runeB_len r;unfold shownV;split
 ·decide
 ·split
  ·decide
  ·split
   ·rename_i h1;rcases h1 with rfl | h1
    ·decide
    ·rw [h1]; simp
   ·split
    ·exact Nat.le_refl 4
    ·omega
def textV (Q : UInt8) (rs : List Nat) : List UInt8:=Q :: rs.flatMap (fun r => shownV Q r (ctlB r)) ++ [Q]
theorem textShown_any (Q : UInt8) (l : List UInt8) (w : World) (hl : l.length ≤ 1048576) :
  Calls Tryz.prog 34 #[.string ⟨l.toArray⟩,.string ⟨#[Q]⟩] w fun e w' => e = .returned (.string ⟨(textV Q (runesL l)).toArray⟩)∧Below w.heap.size w w':=by
 obtain ⟨E,hE⟩ : ∃ E,Q :: (runesL l).flatMap (fun r => shownV Q r (ctlB r)) = E:=⟨_,rfl⟩;have HF : Hid (textV Q (runesL l) = E ++ [Q]):=hid (by unfold textV; rw [hE]);have HE0 : Hid ([Q] ++ (runesF l.length (l.drop 0)).flatMap (fun r => shownV Q r (ctlB r)) = E):=hid (by rw [List.drop_zero]; exact hE);clear hE;go_enter Tryz.func34,Tryz.ntmps34;go_wp2_with fail
 go_loopw [5,7] (fun s5 _ wr => ∃ (pos f:Nat) (t : List UInt8),wr.heap[w.heap.size]? = some (.stringIter ⟨l.toArray⟩ pos)∧Below w.heap.size w wr∧l.length ≤ pos + f∧pos ≤ l.length∧s5 = .string ⟨t.toArray⟩∧Hid (t ++ (runesF f (l.drop pos)).flatMap (fun r => shownV Q r (ctlB r)) = E)∧t.length ≤ 1 + 4 * pos) (fun _ _ wr => l.length - wr.iterPos w.heap.size)
 case atStart => exact ⟨0,l.length,[Q],World.iter_heap w ⟨l.toArray⟩ 0,(Below.refl _ w).alloc (Nat.le_refl _) _,by omega,Nat.zero_le _,rfl,HE0,by simp⟩
 case round =>
  obtain ⟨pos,f,t,hit,hb,hf,hpl,rfl,HE,htl⟩:=hrel
  by_cases hp : pos < l.length
  ·have hne : l.drop pos ≠ []:=(by intro e; have:=congrArg List.length e; rw [List.length_drop,List.length_nil] at this; omega);obtain ⟨r,n,hd⟩ : ∃ r n,decodeL (l.drop pos) = (r,n):=⟨_,_,rfl⟩;have hnx : ∀ ty,(Instr.next (.pointer (some ⟨w.heap.size,0,none⟩)) true ty).run Tryz.prog wr = _:=fun ty => run_next_any_at wr w.heap.size ⟨l.toArray⟩ pos ty hit hp;rw [decode_drop,hd] at hnx;have hw1:=width_pos _ hne;have hw2:=decodeL_width_le _ hne;have hrl:=decodeL_lt (l.drop pos);rw [hd] at hw1 hw2 hrl;rw [List.length_drop] at hw2;dsimp only at hw1 hw2 hrl;obtain ⟨f',rfl⟩ : ∃ f',f = f' + 1:=⟨f - 1,by omega⟩;have hE1 : (t ++ shownV Q r (ctlB r)) ++ (runesF f' (l.drop (pos + n))).flatMap (fun r => shownV Q r (ctlB r)) = E:=by
    rw [← HE.out,runesF,if_neg hne,hd,List.flatMap_cons,List.drop_drop,List.append_assoc]
   have hsl:=shownV_len Q r (ctlB r);obtain ⟨V,hV⟩ : ∃ V,shownV Q r (ctlB r) = V:=⟨_,rfl⟩;rw [hV] at hE1 hsl;have hadd : ∀ W : World,(Op.stringOp .add ⟨t.toArray⟩ ⟨V.toArray⟩).run Tryz.prog W = .ok (.string ⟨(t ++ V).toArray⟩) W:=fun W => run_string_add_lists W t V (by omega) (by omega);obtain ⟨T,hT⟩ : ∃ T,t ++ V = T:=⟨_,rfl⟩;have hTl : T.length ≤ 1 + 4 * (pos + n):=(by rw [← hT,List.length_append]; omega);rw [hT] at hadd hE1;have HE2:=hid hE1;have HV:=hid hV;have HI:=hid hit;have hpn : pos + n ≤ l.length:=(by omega);clear hE1 hT hV hd hit HE
   go_upto_region 4 with fail
   obtain ⟨W1,hW1⟩ : ∃ W1,wr.iterAt w.heap.size ⟨l.toArray⟩ (pos + n) = W1:=⟨_,rfl⟩;have hb1 : Below w.heap.size w W1:=(by rw [← hW1]; exact below_iterAt hb (Nat.le_refl _) _ _);have hit1 : W1.heap[w.heap.size]? = some (.stringIter ⟨l.toArray⟩ (pos + n)):=(by rw [← hW1]; exact iterAt_heap _ _ _ _ _ HI.out);rw [hW1];have HI1:=hid hit1;clear hW1 hnx hit1 hb
   by_cases h32 : r < 32
   ·have HSV : Hid (shownV Q r true = V):=hid (by rw [← HV.out,show ctlB r = true from by unfold ctlB; rw [decide_eq_true h32]; rfl]);have d1 : decide ((r:Int) < 32) = true:=decide_eq_true (by omega);go_wp2_with fail;refine (shown_any Q r true _ hrl (fun _ => (by omega))).mono ?_;rintro e w4 ⟨rfl,nn,rfl⟩;rw [HSV.out];go_wp2_with fail;have hit4 : (W1.drewN nn).heap[w.heap.size]? = some (.stringIter ⟨l.toArray⟩ (pos + n)):=HI1.out;go_roundw
    case rel => exact ⟨pos + n,f',T,hit4,below_drewN hb1 _,by omega,hpn,rfl,HE2,hTl⟩
    case measure =>
     unfold World.iterPos;rw [hit4,HI.out];simp only;omega
   ·have d1 : decide ((r:Int) < 32) = false:=decide_eq_false (by omega)
    by_cases h127 : 127 ≤ r
    ·have d2 : decide ((127:Int) ≤ (r:Int)) = true:=decide_eq_true (by omega)
     by_cases h160 : r < 160
     ·have HSV : Hid (shownV Q r true = V):=hid (by rw [← HV.out,show ctlB r = true from by unfold ctlB; rw [decide_eq_true h127,decide_eq_true h160,decide_eq_false h32]; rfl]);have d3 : decide ((r:Int) < 160) = true:=decide_eq_true (by omega);go_wp2_with fail;refine (shown_any Q r true _ hrl (fun _ => (by omega))).mono ?_;rintro e w4 ⟨rfl,nn,rfl⟩;rw [HSV.out];go_wp2_with fail;have hit4 : (W1.drewN nn).heap[w.heap.size]? = some (.stringIter ⟨l.toArray⟩ (pos + n)):=HI1.out;go_roundw
      case rel => exact ⟨pos + n,f',T,hit4,below_drewN hb1 _,by omega,hpn,rfl,HE2,hTl⟩
      case measure =>
       unfold World.iterPos;rw [hit4,HI.out];simp only;omega
     ·have HSV : Hid (shownV Q r false = V):=hid (by rw [← HV.out,show ctlB r = false from by unfold ctlB; rw [decide_eq_false h32,decide_eq_false h160,Bool.and_false]; rfl]);have d3 : decide ((r:Int) < 160) = false:=decide_eq_false (by omega);go_wp2_with fail;refine (shown_any Q r false _ hrl (fun h => (by cases h))).mono ?_;rintro e w4 ⟨rfl,nn,rfl⟩;rw [HSV.out];go_wp2_with fail;have hit4 : (W1.drewN nn).heap[w.heap.size]? = some (.stringIter ⟨l.toArray⟩ (pos + n)):=HI1.out;go_roundw
      case rel => exact ⟨pos + n,f',T,hit4,below_drewN hb1 _,by omega,hpn,rfl,HE2,hTl⟩
      case measure =>
       unfold World.iterPos;rw [hit4,HI.out];simp only;omega
    ·have d2 : decide ((127:Int) ≤ (r:Int)) = false:=decide_eq_false (by omega);have HSV : Hid (shownV Q r false = V):=hid (by rw [← HV.out,show ctlB r = false from by unfold ctlB; rw [decide_eq_false h32,decide_eq_false h127]; rfl]);go_wp2_with fail;refine (shown_any Q r false _ hrl (fun h => (by cases h))).mono ?_;rintro e w4 ⟨rfl,nn,rfl⟩;rw [HSV.out];go_wp2_with fail;have hit4 : (W1.drewN nn).heap[w.heap.size]? = some (.stringIter ⟨l.toArray⟩ (pos + n)):=HI1.out;go_roundw
     case rel => exact ⟨pos + n,f',T,hit4,below_drewN hb1 _,by omega,hpn,rfl,HE2,hTl⟩
     case measure =>
      unfold World.iterPos;rw [hit4,HI.out];simp only;omega
  ·have hnx : ∀ ty,(Instr.next (.pointer (some ⟨w.heap.size,0,none⟩)) true ty).run Tryz.prog wr = _:=fun ty => run_next_end_at wr w.heap.size ⟨l.toArray⟩ pos ty hit hp;obtain rfl : pos = l.length:=(by omega);have hEt : E = t:=by
    rw [← HE.out,List.drop_length];cases f <;> simp [runesF]
   have HET:=hid hEt;have hadd : ∀ W : World,(Op.stringOp .add ⟨t.toArray⟩ ⟨#[Q]⟩).run Tryz.prog W = .ok (.string ⟨(t ++ [Q]).toArray⟩) W:=fun W => run_string_add_lists W t [Q] (by omega) (by simp);clear hEt HE hit;go_wp2_with fail;go_ret;exact ⟨by rw [HF.out,HET.out]; rfl,hb⟩
theorem sameParts_all {w : World} (a b : List Prt) (A B : Option Addr) (c d:Nat) (ha : a.length ≤ 9223372036854775807) (hb : b.length ≤ 9223372036854775807) (hra : Row w A (a.flatMap prtc)) (hrb : Row w B (b.flatMap prtc)) :
  Calls Tryz.prog 17 #[.slice A a.length c,.slice B b.length d] w fun e w' => e = .returned (.bool (decide (a = b)))∧Below w.heap.size w w':=by
 by_cases hlen : a.length = b.length
 ·have h0 : ((a.length:Int) != b.length) = false:=(by simp [hlen]);have HLN:=hid hlen;clear hlen;go_enter Tryz.func17,Tryz.ntmps17;go_wp2_with fail
  go_loopw [5,13] (fun i5 i wr => ∃ k n : Nat,k ≤ a.length∧i = .int .i64 (k:Int)∧wr = w.drewN n∧a.take k = b.take k) (fun _ i _ => a.length - (RowKit.intOf i).toNat)
  case atStart => exact ⟨0,0,Nat.zero_le _,rfl,rfl,by simp⟩
  case round =>
   obtain ⟨k,n,hk,rfl,rfl,htk⟩:=hrel;have HTK:=hid htk;clear htk
   by_cases hlt : k < a.length
   ·have hlt2 : k < b.length:=(by rw [← HLN.out]; exact hlt);obtain ⟨b1,o1,rfl,hb1,h1⟩:=hra.elem (f:=prtc) (s:=4) (fun _ => rfl) (by omega) hlt;obtain ⟨b2,o2,rfl,hb2,h2⟩:=hrb.elem (f:=prtc) (s:=4) (fun _ => rfl) (by omega) hlt2;obtain ⟨p,hp⟩ : ∃ p,a[k] = p:=⟨_,rfl⟩;obtain ⟨q,hq⟩ : ∃ q,b[k] = q:=⟨_,rfl⟩;rw [hp] at h1;rw [hq] at h2;have HAK:=hid (show a[k]? = some p from by rw [List.getElem?_eq_getElem hlt,hp]);have HBK:=hid (show b[k]? = some q from by rw [List.getElem?_eq_getElem hlt2,hq]);clear hp hq;obtain ⟨pf,pt,pc,ps⟩:=p;obtain ⟨qf,qt,qc,qs⟩:=q;have e0:=h1 0 (.bool pf) (by omega) rfl;have e1:=h1 1 (.string ⟨pt.toArray⟩) (by omega) rfl;have e2:=h1 2 (.int .i64 pc) (by omega) rfl;have e3:=h1 3 (.string ⟨ps.toArray⟩) (by omega) rfl;have d0:=h2 0 (.bool qf) (by omega) rfl;have d1:=h2 1 (.string ⟨qt.toArray⟩) (by omega) rfl;have d2:=h2 2 (.int .i64 qc) (by omega) rfl;have d3:=h2 3 (.string ⟨qs.toArray⟩) (by omega) rfl;rw [Nat.add_zero] at e0 d0;clear h1 h2;have i1 : (k:Int) < a.length:=(by omega);have i2 : (k:Int) < b.length:=(by omega);cases c1 : (pf == qf)
    ·have hne : ¬ a = b:=by
      intro h;have h1:=HAK.out;rw [h,HBK.out] at h1;cases h1;simp at c1
     have HNE:=hid hne;clear hne;go_wp2_with fail;go_quiet (fail);go_wp2_with fail;go_ret;refine ⟨ret_bool ?_,below_drewN (below_drewN (Below.refl _ _) _) _⟩;rw [eq_comm,decide_eq_false_iff_not];exact HNE.out
    ·cases c2 : (pt == qt)
     ·have hne : ¬ a = b:=by
       intro h;have h1:=HAK.out;rw [h,HBK.out] at h1;cases h1;simp at c2
      have HNE:=hid hne;clear hne;go_wp2_with fail;go_quiet (fail);go_wp2_with fail;go_ret;refine ⟨ret_bool ?_,below_drewN (below_drewN (Below.refl _ _) _) _⟩;rw [eq_comm,decide_eq_false_iff_not];exact HNE.out
     ·cases c3 : (pc == qc)
      ·have hne : ¬ a = b:=by
        intro h;have h1:=HAK.out;rw [h,HBK.out] at h1;cases h1;simp at c3
       have HNE:=hid hne;clear hne;go_wp2_with fail;go_quiet (fail);go_wp2_with fail;go_ret;refine ⟨ret_bool ?_,below_drewN (below_drewN (Below.refl _ _) _) _⟩;rw [eq_comm,decide_eq_false_iff_not];exact HNE.out
      ·cases c4 : (ps == qs)
       ·have hne : ¬ a = b:=by
         intro h;have h1:=HAK.out;rw [h,HBK.out] at h1;cases h1;simp at c4
        have HNE:=hid hne;clear hne;go_wp2_with fail;go_quiet (fail);go_wp2_with fail;go_ret;refine ⟨ret_bool ?_,below_drewN (below_drewN (Below.refl _ _) _) _⟩;rw [eq_comm,decide_eq_false_iff_not];exact HNE.out
       ·have hpq : a.take (k + 1) = b.take (k + 1):=by
         rw [take_next HAK.out,take_next HBK.out,HTK.out];rw [beq_iff_eq] at c1 c2 c3 c4;subst c1 c2 c3 c4;rfl
        have HPQ:=hid hpq;clear hpq;go_wp2_with fail;go_quiet (fail);go_wp2_with fail;go_roundw
        case rel => exact ⟨k + 1,_,by omega,by go_num,rfl,HPQ.out⟩
        case measure => simp [RowKit.intOf]; omega
   ·go_wp2_with fail;go_ret;refine ⟨ret_bool ?_,below_drewN (Below.refl _ _) _⟩;have h:=HTK.out;rw [List.take_of_length_le (by omega),List.take_of_length_le (by have:=HLN.out; omega)] at h;rw [eq_comm,decide_eq_true_iff];exact h
 ·have h0 : ((a.length:Int) != b.length) = true:=by
   rw [bne_iff_ne]; omega
  have HLN:=hid hlen;clear hlen;go_enter Tryz.func17,Tryz.ntmps17;go_wp2_with fail;go_ret;refine ⟨ret_bool ?_,Below.refl _ _⟩;rw [eq_comm,decide_eq_false_iff_not];exact fun h => HLN.out (by rw [h])
end
end Go.Proofs.YtonehlkiackhcaaGreatDoor