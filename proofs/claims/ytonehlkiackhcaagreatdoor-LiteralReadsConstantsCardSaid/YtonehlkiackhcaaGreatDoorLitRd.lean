/- The literals: the reference reads a numeral. Nothing is claimed here. -/
import Derived.Maps.RangeWalk
import Derived.Test.YtonehlkiackhcaaGreatDoorRefB
import Derived.Test.YtonehlkiackhcaaGreatDoorLitNg
import Derived.Test.YtonehlkiackhcaaGreatDoorLitRp
set_option linter.unusedVariables false
set_option maxRecDepth 100000
set_option maxHeartbeats 16000000
namespace Go.Proofs.YtonehlkiackhcaaGreatDoor
open Go.RowKit Go.Lib Go.Sort Go.Maps
theorem whole_any {w : World} (n : Nat) (A : Option Addr) (c : Nat) (hlen : (dig 10 n).length ≤ 10000) (hr : Row w A (i64s (dig 10 n))) :
  Calls Tryz.prog 49 #[.slice A (dig 10 n).length c] w fun e w' => (∃ A' c',e = .returned (.agg (valD 2 false (.slice A' (lg n).length c') false (.slice none 0 0) [] 0)) ∧ Row w' A' (u32s (lg n))) ∧ Below w.heap.size w w':=by
 have hB:=Blk.new w 26 #[.int .i64 0,.bool false,.slice none 0 0,.bool false,.slice none 0 0,.string ⟨#[]⟩,.int .i64 0];have hbel:=(Below.refl w.heap.size w).alloc (Nat.le_refl _) (.cells #[.int .i64 0,.bool false,.slice none 0 0,.bool false,.slice none 0 0,.string ⟨#[]⟩,.int .i64 0] 26);have hr1:=hr.keepB hbel;go_enter Tryz.func49,Tryz.ntmps49;go_wp2_with fail;refine (dlimbs_any n A c hlen hr1).mono ?_;rintro e w2 ⟨⟨A',c',rfl,hr2⟩,hbb⟩;have hB2:=hB.belowS hbb;have hb2:=below_then hbel hbb hbel.size;clear hB hbel hbb hr1;go_wp2_with (refine wpList_store_row rfl 26 (.tmp 2) (.tmp 6) rfl w.heap.size (valD 2 false (.slice A' (lg n).length c') false (.slice none 0 0) [] 0) rfl rfl 26 #[.int .i64 0,.bool false,.slice none 0 0,.bool false,.slice none 0 0,.string ⟨#[]⟩,.int .i64 0] hB2 (by kernel_rfl) rfl (by simp [Value.oneCell',valD]) ?_);exact ret_blk rfl rfl (hB2.setRow _) _ Tryz.underlying26 rfl (by kernel_rfl) rfl ⟨⟨A',c',rfl,row_setRow hr2 hB2 _⟩,Go.below_setRow hb2 (Nat.le_refl _) _⟩
def preD : DataW Unit:=((DataW.map []).put (.string [48,120]) (.lit (.int .i64 16))).put (.string [48,98]) (.lit (.int .i64 2))
theorem pre_has (kl : Lit) (h : Maps.has preD kl = true) : kl = .string [48,120] ∨ kl = .string [48,98]:=by
 by_cases h1 : kl = .string [48,98]
 ·exact .inr h1
 ·by_cases h2 : kl = .string [48,120]
  ·exact .inl h2
  ·unfold preD at h;rw [Maps.has_put_other h1,Maps.has_put_other h2] at h;cases h
theorem pre_is : Maps.has preD (.string [48,120]) = true ∧ Maps.has preD (.string [48,98]) = true:=⟨by kernel_rfl,by kernel_rfl⟩
theorem pre_at : (∀ zd,preD.atKey (.string [48,120]) zd = .lit (.int .i64 16)) ∧ (∀ zd,preD.atKey (.string [48,98]) zd = .lit (.int .i64 2)):=⟨fun zd => by kernel_rfl,fun zd => by kernel_rfl⟩
theorem pres_laid (w : World) : ∃ w1 w2 w3,((Instr.mapUpdate 75 (.map (some w.heap.size)) (.string ⟨#[48,120]⟩) (.int .i64 16)).run Tryz.prog (w.alloc (.map #[] 0)) = .ok () w1 ∧
  (Instr.mapUpdate 75 (.map (some w.heap.size)) (.string ⟨#[48,98]⟩) (.int .i64 2)).run Tryz.prog w1 = .ok () w2 ∧
  (Instr.range 75 (.map (some w.heap.size))).run Tryz.prog w2 = .ok (.pointer (some ⟨w2.heap.size,0,none⟩)) w3) ∧
  w3.ranges Tryz.prog 9 (plainElem (H:=Unit) Tryz.prog 3) w.heap.size w2.heap.size 2 preD (Maps.has preD) (Maps.size preD) ∧ Below w.heap.size w w3 ∧ w.heap.size < w2.heap.size:=by
 have hM:=World.ownsMap_made w Tryz.prog 9 (plainElem (H:=Unit) Tryz.prog 3);have hb:=(Below.refl w.heap.size w).alloc (Nat.le_refl _) (.map #[] 0);obtain ⟨w1,r1,o1,g1⟩:=hM.update law Tryz.underlying75 (by decide) (key:=.string ⟨#[48,120]⟩) (val:=.int .i64 16) (kl:=.string [48,120]) (by kernel_rfl) (plainElem_int Tryz.underlying3 (by decide));obtain ⟨w2,r2,o2,g2⟩:=o1.update law Tryz.underlying75 (by decide) (key:=.string ⟨#[48,98]⟩) (val:=.int .i64 2) (kl:=.string [48,98]) (by kernel_rfl) (plainElem_int Tryz.underlying3 (by decide));have b1:=hb.grown g1 hb.size (fun g e => by injection e with e; omega);have b2:=b1.grown g2 b1.size (fun g e => by injection e with e; omega);obtain ⟨w3,r3,h3,g3,s3⟩:=o2.range law Tryz.underlying75;have b3:=b2.grown g3 b2.size (fun g e => by cases e);exact ⟨w1,w2,w3,⟨r1,r2,r3⟩,h3,b3,o2.lt⟩
structure RnC (w : World) (qb : Nat) (wi : World) : Prop where
 v : Blk wi w.heap.size 26 #[.int .i64 0,.bool false,.slice none 0 0,.bool false,.slice none 0 0,.string ⟨#[]⟩,.int .i64 0]
 p : Blk wi (w.heap.size + 1) 29 #[.int .i64 0,.int .i64 0]
 hq : w.heap.size + 2 ≤ qb
 q : Blk wi qb 29 #[.int .i64 1,.int .i64 (-1)]
 bel : Below w.heap.size w wi
theorem RnC.step {w wi wj : World} {qb : Nat} (h : RnC w qb wi) (hb : Below wi.heap.size wi wj) : RnC w qb wj:=by
 obtain ⟨h1,h2,h3,h4,h5⟩:=h;exact ⟨h1.belowS hb,h2.belowS hb,h3,h4.belowS hb,below_then h5 hb h5.size⟩
theorem res_num2 {w : World} {tmps : Array Value} {p : Nat} {cs : Array Value} {c i : Int} (hs : cs.size = 7) (h2 : tmps.getD 2 undef = .pointer (some ⟨p,0,none⟩)) (h3 : tmps.getD 3 undef = .pointer (some ⟨p + 1,0,none⟩)) (hP : Blk w p 26 cs) (hQ : Blk w (p + 1) 29 #[.int .i64 c,.int .i64 i]) :
  (results Tryz.f13 tmps).run Tryz.prog w = .ok (.tuple #[.agg cs,flt c i]) w:=by
 have h2' : tmps[2]?.getD undef = .pointer (some ⟨p,0,none⟩):=by simpa using h2
 have h3' : tmps[3]?.getD undef = .pointer (some ⟨p + 1,0,none⟩):=by simpa using h3
 have hv:=run_loadVar_row w p 26 26 cs (0,0) _ hP Tryz.underlying26 rfl (by rw [hs]; kernel_rfl);have hd:=run_loadVar_row w (p + 1) 29 29 #[.int .i64 c,.int .i64 i] (0,0) _ hQ Tryz.underlying29 rfl (by kernel_rfl);simp [results,Tryz.results13,h2',h3',asAddr,hv,hd,flt]
def PreL (left : Lit → Bool) : Prop:=∀ kl,left kl = true → kl = .string [48,120] ∨ kl = .string [48,98]
def PreN (s : List UInt8) (left : Lit → Bool) : Prop:=∀ kl,Maps.has preD kl = true → left kl = false → (kl = .string [48,120] ∧ hasPrefix s [48,120] = false) ∨ (kl = .string [48,98] ∧ hasPrefix s [48,98] = false)
theorem PreL.next {left : Lit → Bool} (h : PreL left) (k0 : Lit) : PreL (fun x => left x && !x.sameKey k0):=by
 intro kl hk;simp only [Bool.and_eq_true] at hk;exact h kl hk.1
theorem PreN.nextx {s : List UInt8} {left : Lit → Bool} (h : PreN s left) (hp : hasPrefix s [48,120] = false) : PreN s (fun x => left x && !x.sameKey (.string [48,120])):=by
 intro kl h1 h2
 by_cases h3 : kl = .string [48,120]
 ·exact .inl ⟨h3,hp⟩
 ·simp only [sameKey_ne h3,Bool.not_false,Bool.and_true] at h2;exact h kl h1 h2
theorem PreN.nextb {s : List UInt8} {left : Lit → Bool} (h : PreN s left) (hp : hasPrefix s [48,98] = false) : PreN s (fun x => left x && !x.sameKey (.string [48,98])):=by
 intro kl h1 h2
 by_cases h3 : kl = .string [48,98]
 ·exact .inr ⟨h3,hp⟩
 ·simp only [sameKey_ne h3,Bool.not_false,Bool.and_true] at h2;exact h kl h1 h2
theorem PreN.all {s : List UInt8} {left : Lit → Bool} (h : PreN s left) (hl : ∀ kl,left kl = false) : hasPrefix s [48,120] = false ∧ hasPrefix s [48,98] = false:=by
 constructor
 ·rcases h _ pre_is.1 (hl _) with ⟨_,h⟩ | ⟨h,_⟩
  ·exact h
  ·injection h with h;exact absurd h (by decide)
 ·rcases h _ pre_is.2 (hl _) with ⟨h,_⟩ | ⟨_,h⟩
  ·injection h with h;exact absurd h (by decide)
  ·exact h
theorem RnC.next {w wi wj : World} {qb mb rb n : Nat} {D : DataW Unit} {left : Lit → Bool} {cnt : Nat} {R : Value → Option (DataW Unit × List MemPlace)} (h : RnC w qb wi) (hr : wi.ranges Tryz.prog 9 R mb rb n D left cnt) (hg : wi.grownBy wj (some rb)) (hle : w.heap.size ≤ rb) : RnC w qb wj:=by
 obtain ⟨h1,h2,h3,h4,h5⟩:=h;obtain ⟨es,clock,since,seen,c0,-,-,-,-,hit,-⟩:=hr;have hk : ∀ {g t : Nat} {cs : Array Value},Blk wi g t cs → Blk wj g t cs:=by
  intro g t cs hb;refine (hg.block g hb.lt (fun e => ?_)).trans hb;injection e with e;subst e;rw [hb] at hit;cases hit
 exact ⟨hk h1,hk h2,h3,hk h4,h5.grown hg h5.size (fun g e => by injection e with e; omega)⟩
theorem pre_form {s : List UInt8} {a b : UInt8} (h : hasPrefix s [a,b] = true) : ∃ r,s = a :: b :: r:=by
 unfold hasPrefix at h;obtain ⟨r,hr⟩:=List.isPrefixOf_iff_prefix.1 h;exact ⟨r,hr.symm⟩
theorem idx_cons {c : UInt8} (r : List UInt8) (h : c ≠ 46) : index (c :: r) [46] = if index r [46] = -1 then -1 else index r [46] + 1:=by
 show (if [46].isPrefixOf (c :: r) then 0 else if index r [46] == -1 then -1 else index r [46] + 1) = _;rw [if_neg (by simp [List.isPrefixOf]; exact fun e => h e.symm)]
 by_cases h1 : index r [46] = -1
 ·rw [if_pos h1,h1]; rfl
 ·rw [if_neg h1,if_neg (by simpa using h1)]
theorem pre_dec {s : List UInt8} {k : UInt8} (hk : k = 120 ∨ k = 98) (h : hasPrefix s [48,k] = true) : decOk (cut s [46]).1 = false:=by
 obtain ⟨r,rfl⟩:=pre_form h;have hcut : ∃ r',(cut (48 :: k :: r) [46]).1 = 48 :: k :: r':=by
  unfold cut;split
  ·rename_i h0;rw [idx_cons _ (by decide),idx_cons _ (by rcases hk with rfl | rfl <;> decide)] at h0 ⊢;have hg:=index_ge r [46]
   by_cases h2 : index r [46] = -1
   ·rw [if_pos h2,if_pos rfl] at h0;omega
   ·rw [if_neg h2,if_neg (by omega)];obtain ⟨j,hj⟩ : ∃ j : Nat,index r [46] + 1 + 1 = ((j + 1 + 1 : Nat) : Int):=⟨(index r [46]).toNat,by omega⟩;rw [hj,Int.toNat_natCast];exact ⟨r.take j,by simp⟩
  ·exact ⟨r,rfl⟩
 obtain ⟨r',hr'⟩:=hcut;rw [hr'];unfold decOk onlyV fg10;rcases hk with rfl | rfl <;> simp
theorem rif_x {s : List UInt8} (hp : hasPrefix s [48,120] = true) : (if hasPrefix s [48,120] = true ∧ onlyV (s.drop 2) fg16 = true then NumR.whole (numV 16 (s.drop 2))
  else if hasPrefix s [48,98] = true ∧ onlyV (s.drop 2) fg2 = true then .whole (numV 2 (s.drop 2))
  else if decOk (cut s [46]).1 = true ∧ (cut s [46]).2.2 = false then .whole (numV 10 s)
  else if decOk (cut s [46]).1 = true ∧ onlyV (cut s [46]).2.1 fg10 = true then .point (numV 10 ((cut s [46]).1 ++ (cut s [46]).2.1)) (cut s [46]).2.1.length
  else .fault 1) = if onlyV (s.drop 2) fg16 = true then .whole (numV 16 (s.drop 2)) else .fault 1:=by
 have hb : hasPrefix s [48,98] = false:=by
  obtain ⟨r,rfl⟩:=pre_form hp;rfl
 rw [pre_dec (.inl rfl) hp,hb,hp];simp
theorem rif_b {s : List UInt8} (hp : hasPrefix s [48,98] = true) : (if hasPrefix s [48,120] = true ∧ onlyV (s.drop 2) fg16 = true then NumR.whole (numV 16 (s.drop 2))
  else if hasPrefix s [48,98] = true ∧ onlyV (s.drop 2) fg2 = true then .whole (numV 2 (s.drop 2))
  else if decOk (cut s [46]).1 = true ∧ (cut s [46]).2.2 = false then .whole (numV 10 s)
  else if decOk (cut s [46]).1 = true ∧ onlyV (cut s [46]).2.1 fg10 = true then .point (numV 10 ((cut s [46]).1 ++ (cut s [46]).2.1)) (cut s [46]).2.1.length
  else .fault 1) = if onlyV (s.drop 2) fg2 = true then .whole (numV 2 (s.drop 2)) else .fault 1:=by
 have hb : hasPrefix s [48,120] = false:=by
  obtain ⟨r,rfl⟩:=pre_form hp;rfl
 rw [pre_dec (.inr rfl) hp,hb,hp];simp
theorem bad_end {w wi : World} {pv : Nat} (hv : Blk wi pv 26 #[.int .i64 0,.bool false,.slice none 0 0,.bool false,.slice none 0 0,.string ⟨#[]⟩,.int .i64 0]) (hp : Blk wi (pv + 1) 29 #[.int .i64 0,.int .i64 0]) (hb : Below pv w wi) :
  Blk (((((((((wi.setCell ⟨pv,0,none⟩ (.int .i64 0)).setCell ⟨pv,1,none⟩ (.bool false)).setCell ⟨pv,2,none⟩ (.slice none 0 0)).setCell ⟨pv,3,none⟩ (.bool false)).setCell ⟨pv,4,none⟩ (.slice none 0 0)).setCell ⟨pv,5,none⟩ (.string ⟨#[]⟩)).setCell ⟨pv,6,none⟩ (.int .i64 0)).setCell ⟨pv + 1,0,none⟩ (.int .i64 1)).setCell ⟨pv + 1,1,none⟩ (.int .i64 (-1))).drew pv 26 #[.int .i64 0,.bool false,.slice none 0 0,.bool false,.slice none 0 0,.string ⟨#[]⟩,.int .i64 0] ∧
  Blk (((((((((wi.setCell ⟨pv,0,none⟩ (.int .i64 0)).setCell ⟨pv,1,none⟩ (.bool false)).setCell ⟨pv,2,none⟩ (.slice none 0 0)).setCell ⟨pv,3,none⟩ (.bool false)).setCell ⟨pv,4,none⟩ (.slice none 0 0)).setCell ⟨pv,5,none⟩ (.string ⟨#[]⟩)).setCell ⟨pv,6,none⟩ (.int .i64 0)).setCell ⟨pv + 1,0,none⟩ (.int .i64 1)).setCell ⟨pv + 1,1,none⟩ (.int .i64 (-1))).drew (pv + 1) 29 #[.int .i64 1,.int .i64 (-1)] ∧
  Below pv w (((((((((wi.setCell ⟨pv,0,none⟩ (.int .i64 0)).setCell ⟨pv,1,none⟩ (.bool false)).setCell ⟨pv,2,none⟩ (.slice none 0 0)).setCell ⟨pv,3,none⟩ (.bool false)).setCell ⟨pv,4,none⟩ (.slice none 0 0)).setCell ⟨pv,5,none⟩ (.string ⟨#[]⟩)).setCell ⟨pv,6,none⟩ (.int .i64 0)).setCell ⟨pv + 1,0,none⟩ (.int .i64 1)).setCell ⟨pv + 1,1,none⟩ (.int .i64 (-1))).drew:=by
 have hn : pv ≠ pv + 1:=by omega
 have hm : pv + 1 ≠ pv:=by omega
 refine ⟨?_,?_,?_⟩
 ·have h:=((((((hv.set_ 0 (.int .i64 0)).set_ 1 (.bool false)).set_ 2 (.slice none 0 0)).set_ 3 (.bool false)).set_ 4 (.slice none 0 0)).set_ 5 (.string ⟨#[]⟩)).set_ 6 (.int .i64 0);exact ((h.far (p:=⟨pv + 1,0,none⟩) hn (.int .i64 1)).far (p:=⟨pv + 1,1,none⟩) hn (.int .i64 (-1))).drew
 ·have h:=((((((hp.far (p:=⟨pv,0,none⟩) hm (.int .i64 0)).far (p:=⟨pv,1,none⟩) hm (.bool false)).far (p:=⟨pv,2,none⟩) hm (.slice none 0 0)).far (p:=⟨pv,3,none⟩) hm (.bool false)).far (p:=⟨pv,4,none⟩) hm (.slice none 0 0)).far (p:=⟨pv,5,none⟩) hm (.string ⟨#[]⟩)).far (p:=⟨pv,6,none⟩) hm (.int .i64 0);exact ((h.set_ 0 (.int .i64 1)).set_ 1 (.int .i64 (-1))).drew
 ·exact (((((((((hb.setCell (p:=⟨pv,0,none⟩) (Nat.le_refl _) _).setCell (p:=⟨pv,1,none⟩) (Nat.le_refl _) _).setCell (p:=⟨pv,2,none⟩) (Nat.le_refl _) _).setCell (p:=⟨pv,3,none⟩) (Nat.le_refl _) _).setCell (p:=⟨pv,4,none⟩) (Nat.le_refl _) _).setCell (p:=⟨pv,5,none⟩) (Nat.le_refl _) _).setCell (p:=⟨pv,6,none⟩) (Nat.le_refl _) _).setCell (p:=⟨pv + 1,0,none⟩) (Nat.le_succ _) _).setCell (p:=⟨pv + 1,1,none⟩) (Nat.le_succ _) _).drew
theorem dec_not {u : List UInt8} (h : onlyV u fg10 = false) : decOk u = false:=by unfold decOk; rw [h]; rfl
theorem only_ne {u : List UInt8} {cs : List UInt8} (h : onlyV u cs = true) : ∃ x r,u = x :: r:=by
 cases u with
 | nil => cases h
 | cons x r => exact ⟨x,r,rfl⟩
theorem dec_long {x y : UInt8} {r : List UInt8} (h : onlyV (x :: y :: r) fg10 = true) : decOk (x :: y :: r) = decide (x ≠ 48):=by
 unfold decOk;rw [h];simp
theorem dec_short {x : UInt8} (h : onlyV [x] fg10 = true) : decOk [x] = true:=by
 unfold decOk;rw [h]
 by_cases hx : x = 48
 ·subst hx; rfl
 ·simp [hx]
theorem eq48 (x : UInt8) : (((x.toNat : Nat) : Int) == 48) = decide (x = 48):=by
 by_cases hx : x = 48
 ·subst hx; rfl
 ·have h1 : x.toNat ≠ 48:=fun h => hx (UInt8.toNat_inj.1 h);rw [decide_eq_false hx,beq_eq_false_iff_ne];omega
theorem cut_nof {s u f : List UInt8} (h : cut s [46] = (u,f,false)) : u = s ∧ f = []:=by
 unfold cut at h;split at h
 ·cases h
 ·cases h; exact ⟨rfl,rfl⟩
structure RfM (w : World) (qb bb : Nat) (x : Nat × Nat) (v12 v16 : Value) (wr : World) : Prop where
 a : ∃ A c,v12 = .slice A (dig 10 x.1).length c ∧ Row wr A (i64s (dig 10 x.1))
 b : ∃ A c,v16 = .slice A (dig 10 x.2).length c ∧ Row wr A (i64s (dig 10 x.2))
 c0 : wr.cell? ⟨bb,0,none⟩ = some (.int .i64 2)
 c1 : wr.cell? ⟨bb,1,none⟩ = some (.int .i64 5)
 hbb : bb < wr.heap.size
 R : RnC w qb wr
theorem RfM.step {w wr w2 : World} {qb bb : Nat} {x : Nat × Nat} {v12 v16 : Value} (h : RfM w qb bb x v12 v16 wr) (hb : Below wr.heap.size wr w2) : RfM w qb bb x v12 v16 w2:=by
 obtain ⟨⟨A,c,h1,h2⟩,⟨A',c',h3,h4⟩,h5,h6,h7,h8⟩:=h;exact ⟨⟨A,c,h1,h2.keepB hb⟩,⟨A',c',h3,h4.keepB hb⟩,(hb.cell (p:=⟨bb,0,none⟩) h7).trans h5,(hb.cell (p:=⟨bb,1,none⟩) h7).trans h6,Nat.lt_of_lt_of_le h7 hb.size,h8.step hb⟩
def RfIn (w : World) (qb bb p B : Nat) (X : Nat × Nat) (v12 v16 i : Value) (wr : World) : Prop:=∃ j : Nat,j ≤ p ∧ i = .int .i64 (j : Int) ∧ RfM w qb bb (refI B j X) v12 v16 wr
def RfOut (w : World) (qb bb n p : Nat) (v12 v16 i : Value) (wr : World) : Prop:=∃ k : Nat,k ≤ 2 ∧ i = .int .i64 (k : Int) ∧ RfM w qb bb (refO n p k) v12 v16 wr
theorem RnC.new {w wi : World} (h : NuC w wi) : RnC w wi.heap.size (wi.alloc (.cells #[.int .i64 1,.int .i64 (-1)] 29)):=by
 obtain ⟨h1,h2,h3⟩:=h;refine ⟨h1.alloc _,h2.alloc _,?_,Blk.new wi 29 _,h3.alloc h3.size _⟩;have:=h2.lt;omega
theorem only_digO {t : List UInt8} {B : Nat} {cs : List UInt8} (hb : ∀ i : Fin 256,cs.contains (UInt8.ofNat i.val) = isDg B (UInt8.ofNat i.val)) : digO B t = if onlyV t cs = true then some (numV B t) else none:=by
 have h : t.all (isDg B) = t.all (cs.contains ·):=by
  induction t with
  | nil => rfl
  | cons c r ih =>
   have:=hb ⟨c.toNat,c.toNat_lt⟩;simp only [UInt8.ofNat_toNat] at this;rw [List.all_cons,List.all_cons,ih,this]
 unfold digO onlyV
 by_cases h0 : t = []
 ·subst h0; rfl
 ·rw [h];simp [h0]
theorem fg_16 : ∀ i : Fin 256,fg16.contains (UInt8.ofNat i.val) = isDg 16 (UInt8.ofNat i.val):=by decide
theorem fg_10 : ∀ i : Fin 256,fg10.contains (UInt8.ofNat i.val) = isDg 10 (UInt8.ofNat i.val):=by decide
theorem fg_2 : ∀ i : Fin 256,fg2.contains (UInt8.ofNat i.val) = isDg 2 (UInt8.ofNat i.val):=by decide
theorem numof_any (s : List UInt8) (w : World) (hl : s.length ≤ 9223372036854775807) (hm : Lim w) :
  Calls Tryz.prog 13 #[.string ⟨s.toArray⟩] w (NuPost w (numR s)):=by
 obtain ⟨R,hR⟩ : ∃ R,numR s = R:=⟨_,rfl⟩;rw [hR];unfold numR at hR;have hC:=NuC.new w;go_enter Tryz.func13,Tryz.ntmps13;go_wp2_with fail;refine (atR_any 1 (-1) _).mono ?_;rintro e w1 ⟨rfl,hbb⟩;have hC1:=RnC.new (hC.step hbb);clear hC hbb;unfold flt
 by_cases h6 : 600 < s.length
 ·rw [if_pos h6] at hR;subst hR;have h6i : (600 : Int) < (s.length : Int):=(by omega);go_wp2_with fail;refine (atR_any 3 (-1) _).mono ?_;rintro e w2 ⟨rfl,hbb⟩;have hC2:=hC1.step hbb;clear hC1 hbb;unfold flt;go_wp2_with (first | refine wpList_store_row rfl 26 (.tmp 2) (.tmp 27) rfl w.heap.size #[.int .i64 0,.bool false,.slice none 0 0,.bool false,.slice none 0 0,.string ⟨#[]⟩,.int .i64 0] rfl rfl 26 #[.int .i64 0,.bool false,.slice none 0 0,.bool false,.slice none 0 0,.string ⟨#[]⟩,.int .i64 0] hC2.v (by kernel_rfl) rfl (by simp [Value.oneCell']) ?_ | refine wpList_store_row rfl 29 (.tmp 3) (.tmp 28) rfl (w.heap.size + 1) #[.int .i64 3,.int .i64 (-1)] rfl rfl 29 #[.int .i64 0,.int .i64 0] (hC2.p.farRow (by omega) _) (by kernel_rfl) rfl (by simp [Value.oneCell']) ?_);exact bodyPost_ret (res_num2 (p:=w.heap.size) rfl rfl rfl ((hC2.v.setRow _).farRow (by omega) _) ((hC2.p.farRow (by omega) _).setRow _)) rfl ⟨below_setRow (below_setRow hC2.bel (Nat.le_refl _) _) (Nat.le_succ _) _,rfl⟩
 ·have h6i : ¬ (600 : Int) < (s.length : Int):=(by omega);rw [if_neg h6] at hR;have HR:=Lib.hid hR;have hs6 : s.length ≤ 600:=(by omega);clear h6 hR
  go_upto_region 4 with fail
  rw [show decide ((600 : Int) < (s.length : Int)) = false from decide_eq_false (by omega)];obtain ⟨wq,hwq⟩ : ∃ wq,w1.alloc (.cells #[.int .i64 1,.int .i64 (-1)] 29) = wq:=⟨_,rfl⟩;obtain ⟨qb,hqb⟩ : ∃ qb,w1.heap.size = qb:=⟨_,rfl⟩;have hmm:=@run_makeMap Tryz.prog;obtain ⟨wm1,wm2,wm3,⟨r1,r2,r3⟩,hrg,hbm,hmlt⟩:=pres_laid wq;have hC2:=hC1.step (by rw [hwq]; exact hbm);have hrbw : w.heap.size ≤ wm2.heap.size:=(by have:=hC2.bel.size; have:=hC1.bel.size; rw [hwq] at this; omega);obtain ⟨mb,hmb⟩ : ∃ mb,wq.heap.size = mb:=⟨_,rfl⟩;obtain ⟨rb,hrb⟩ : ∃ rb,wm2.heap.size = rb:=⟨_,rfl⟩;rw [hmb] at r1 r2 r3 hrg;rw [hrb] at r3 hrg hrbw;rw [hqb] at hC2;rw [hwq,hqb];clear hC1 hbm hmlt hwq hqb;go_wp2_with fail
  go_loopw [5,6,7,8] (fun _ _ _ _ wr => ∃ (left : Lit → Bool) (cnt : Nat),wr.ranges Tryz.prog 9 (plainElem (H:=Unit) Tryz.prog 3) mb rb 2 preD left cnt ∧ RnC w qb wr ∧ PreL left ∧ PreN s left) (fun _ _ _ _ wr => wr.rangeLeft mb rb)
  case atStart => exact ⟨_,_,hrg,hC2,pre_has,fun kl h1 h2 => by rw [h1] at h2; cases h2⟩
  case round =>
   clear hrg hC2 r1 r2 r3 hmb hrb;obtain ⟨left,cnt,hR2,hC3,HL,HN⟩:=hrel;rcases hR2.next law 0 with ⟨-,hall,hrun⟩ | ⟨key,v,kl,y,w',cnt',hkey,hlk,hv,hat,hrun,hrg,hlt,hgr,hsz,hen⟩
   ·obtain ⟨hpx,hpb⟩:=HN.all hall
    have HR2 : Hid ((if decOk (cut s [46]).1 = true ∧ (cut s [46]).2.2 = false then NumR.whole (numV 10 s) --
        else if decOk (cut s [46]).1 = true ∧ onlyV (cut s [46]).2.1 fg10 = true then .point (numV 10 ((cut s [46]).1 ++ (cut s [46]).2.1)) (cut s [46]).2.1.length
        else .fault 1) = R):=Lib.hid (by have:=HR.out; rw [if_neg (by rw [hpx]; simp),if_neg (by rw [hpb]; simp)] at this; exact this)
    have hm3:=hm.keepB hC3.bel;have HCU:=Lib.hid (fun W (h : Lim W) => scut_any s W (by omega) h);obtain ⟨⟨u,f,b⟩,hcu⟩ : ∃ x,cut s [46] = x:=⟨_,rfl⟩;rw [hcu] at HR2 HCU;have HCE:=Lib.hid hcu;dsimp only at HR2 HCU;have hufl : u.length + f.length ≤ 600:=Nat.le_trans (cut_yes hcu) hs6;clear hpx hpb hcu HR HN HL hall;go_wp2_with fail;refine (HCU.out _ hm3).mono ?_;rintro e w4 ⟨rfl,nn,rfl⟩;have hC4:=hC3.step (below_drewN (Below.refl _ _) nn);generalize hW4 : World.drewN _ nn = w4 at hC4 ⊢;clear hW4 hC3 hrun hR2 hm3 HCU;have HU:=Lib.hid (fun W => digitsOf_any u 10 W (by omega) (by omega));have HFd:=Lib.hid (fun W => digitsOf_any f 10 W (by omega) (by omega));rw [only_digO fg_10] at HU HFd;cases hu : onlyV u fg10
    ·rw [hu,if_neg (by decide)] at HU;have HRF : Hid (R = .fault 1):=Lib.hid (by rw [← HR2.out,dec_not hu]; simp);clear hu HR2 HCE;go_wp2_with fail;refine (HU.out _).mono ?_;rintro e w5 ⟨hbb,rfl⟩;have hC5:=hC4.step hbb;clear hC4 hbb;cases hf : onlyV f fg10
     ·rw [hf,if_neg (by decide)] at HFd;clear hf;go_wp2_with fail;refine (HFd.out _).mono ?_;rintro e w6 ⟨hbb,rfl⟩;have hC6:=hC5.step hbb;clear hC5 hbb;go_wp2_with fail;obtain ⟨hv9,hp9,hqb9,hQ9,hb9⟩:=hC6;obtain ⟨v1,v2,v3⟩:=hv9.rules;obtain ⟨p1,p2,p3⟩:=hp9.rules;obtain ⟨q1,q2,q3⟩:=hQ9.rules;obtain ⟨pv,hpv⟩ : ∃ pv,w.heap.size = pv:=⟨_,rfl⟩;rw [hpv] at hv9 hp9 hqb9 hb9 v1 v2 v3 p1 p2 p3 ⊢;have hE:=bad_end hv9 hp9 hb9;have HPV:=Lib.hid hpv;clear hv9 hp9 hQ9 hb9 hpv;go_region
      all_goals go_wp2_with fail
      all_goals rw [HRF.out]
      all_goals
       obtain ⟨E1,E2,E3⟩:=hE;refine bodyPost_ret (res_num2 (p:=pv) (cs:=#[.int .i64 0,.bool false,.slice none 0 0,.bool false,.slice none 0 0,.string ⟨#[]⟩,.int .i64 0]) (c:=1) (i:=-1) rfl rfl rfl E1 E2) rfl ?_;exact ⟨by rw [HPV.out]; exact E3,rfl⟩
     ·rw [hf,if_pos rfl] at HFd;clear hf;go_wp2_with fail;refine (HFd.out _).mono ?_;rintro e w6 ⟨hbb,A2,c2,rfl,hcap2,hrow2⟩;have hC6:=hC5.step hbb;clear hC5 hbb hrow2;go_wp2_with fail;obtain ⟨hv9,hp9,hqb9,hQ9,hb9⟩:=hC6;obtain ⟨v1,v2,v3⟩:=hv9.rules;obtain ⟨p1,p2,p3⟩:=hp9.rules;obtain ⟨q1,q2,q3⟩:=hQ9.rules;obtain ⟨pv,hpv⟩ : ∃ pv,w.heap.size = pv:=⟨_,rfl⟩;rw [hpv] at hv9 hp9 hqb9 hb9 v1 v2 v3 p1 p2 p3 ⊢;have hE:=bad_end hv9 hp9 hb9;have HPV:=Lib.hid hpv;clear hv9 hp9 hQ9 hb9 hpv;go_region
      all_goals go_wp2_with fail
      all_goals rw [HRF.out]
      all_goals
       obtain ⟨E1,E2,E3⟩:=hE;refine bodyPost_ret (res_num2 (p:=pv) (cs:=#[.int .i64 0,.bool false,.slice none 0 0,.bool false,.slice none 0 0,.string ⟨#[]⟩,.int .i64 0]) (c:=1) (i:=-1) rfl rfl rfl E1 E2) rfl ?_;exact ⟨by rw [HPV.out]; exact E3,rfl⟩
    ·rw [hu,if_pos rfl] at HU;cases b
     ·obtain ⟨rfl,rfl⟩:=cut_nof HCE.out;rw [show onlyV [] fg10 = false from rfl,if_neg (by decide)] at HFd;go_wp2_with fail;refine (HU.out _).mono ?_;rintro e w5 ⟨hbb,A1,c1,rfl,hcap1,hrow1⟩;have hC5:=hC4.step hbb;clear hC4 hbb HU;go_wp2_with fail;refine (HFd.out _).mono ?_;rintro e w6 ⟨hbb,rfl⟩;have hC6:=hC5.step hbb
      go_upto_region 15 with fail
      go_cut [88] from 70 to 88 (fun s88 wx => s88 = .bool (!decOk u) ∧ wx = w6)
      case first =>
       obtain ⟨x,r,rfl⟩:=only_ne hu;rcases r with _ | ⟨y,r⟩
       ·have HD:=Lib.hid (dec_short hu);go_wp2_with fail;go_meet;exact ⟨by rw [HD.out]; rfl,rfl⟩
       ·have HD:=Lib.hid (dec_long hu);have hix:=run_idx (x :: y :: r) 0 (by simp) 0 rfl;rw [show at0 (x :: y :: r) 0 = x from rfl] at hix;have hxb:=eq48 x
        by_cases hx : x = 48
        ·rw [decide_eq_true hx] at hxb;rw [decide_eq_false (by simpa using hx)] at HD;clear hx;go_wp2_with fail;go_meet;exact ⟨by rw [HD.out]; rfl,rfl⟩
        ·rw [decide_eq_false hx] at hxb;rw [decide_eq_true (by simpa using hx)] at HD;clear hx;go_wp2_with fail;go_meet;exact ⟨by rw [HD.out]; rfl,rfl⟩
      case rest =>
       obtain ⟨rfl,rfl⟩:=hcut;cases hd : decOk u
       ·have HRF : Hid (R = .fault 1):=Lib.hid (by rw [← HR2.out,hd]; simp);clear hd HR2 HCE hu hC5 hbb hrow1;go_wp2_with fail;obtain ⟨hv9,hp9,hqb9,hQ9,hb9⟩:=hC6;obtain ⟨v1,v2,v3⟩:=hv9.rules;obtain ⟨p1,p2,p3⟩:=hp9.rules;obtain ⟨q1,q2,q3⟩:=hQ9.rules;obtain ⟨pv,hpv⟩ : ∃ pv,w.heap.size = pv:=⟨_,rfl⟩;rw [hpv] at hv9 hp9 hqb9 hb9 v1 v2 v3 p1 p2 p3 ⊢;have hE:=bad_end hv9 hp9 hb9;have HPV:=Lib.hid hpv;clear hv9 hp9 hQ9 hb9 hpv;go_region
        all_goals go_wp2_with fail
        all_goals rw [HRF.out]
        all_goals
         obtain ⟨E1,E2,E3⟩:=hE;refine bodyPost_ret (res_num2 (p:=pv) (cs:=#[.int .i64 0,.bool false,.slice none 0 0,.bool false,.slice none 0 0,.string ⟨#[]⟩,.int .i64 0]) (c:=1) (i:=-1) rfl rfl rfl E1 E2) rfl ?_;exact ⟨by rw [HPV.out]; exact E3,rfl⟩
       ·have HRW : Hid (R = .whole (numV 10 u)):=Lib.hid (by rw [← HR2.out,hd]; simp);clear hd HR2 HCE;have hrow16:=hrow1.keepB hbb;obtain ⟨n,hn⟩ : ∃ n,numV 10 (u) = n:=⟨_,rfl⟩;have hng : (dig 10 n).length ≤ 10000:=(by rw [← hn]; exact Nat.le_trans (dig10_len 10 (by decide) (u) (only_dg dg10 hu)) (by omega));rw [hn] at hrow16 ⊢;have HN:=Lib.hid hn;clear hn hC5 hbb hrow1 hu;go_wp2_with fail;refine (whole_any n A1 c1 hng hrow16).mono ?_;rintro e w7 ⟨⟨A',c',rfl,hr7⟩,hbb⟩;have hC7:=hC6.step hbb;clear hC6 hbb hrow16;unfold valD;go_wp2_with (first | refine wpList_store_row rfl 26 (.tmp 2) (.tmp 94) rfl w.heap.size #[.int .i64 2,.bool false,.slice A' (lg n).length c',.bool false,.slice none 0 0,.string ⟨#[]⟩,.int .i64 0] rfl rfl 26 #[.int .i64 0,.bool false,.slice none 0 0,.bool false,.slice none 0 0,.string ⟨#[]⟩,.int .i64 0] hC7.v (by kernel_rfl) rfl (by simp [Value.oneCell']) ?_ | refine wpList_store_row rfl 29 (.tmp 3) (.tmp 95) rfl (w.heap.size + 1) #[.int .i64 0,.int .i64 0] rfl rfl 29 #[.int .i64 0,.int .i64 0] (hC7.p.farRow (by omega) _) (by kernel_rfl) rfl (by simp [Value.oneCell']) ?_);rw [HRW.out,HN.out];exact bodyPost_ret (res_num2 (p:=w.heap.size) rfl rfl rfl ((hC7.v.setRow _).farRow (by omega) _) ((hC7.p.farRow (by omega) _).setRow _)) rfl ⟨below_setRow (below_setRow hC7.bel (Nat.le_refl _) _) (Nat.le_succ _) _,_,rfl,A',c',row_setRowF (row_setRow hr7 hC7.v _) (hC7.p.farRow (by omega) _) _,(by rw [if_pos rfl]; rfl)⟩
     ·cases hf : onlyV f fg10
      ·have HRF : Hid (R = .fault 1):=Lib.hid (by rw [← HR2.out]; simp [hf]);rw [hf,if_neg (by decide)] at HFd;clear hf HR2 HCE hu;go_wp2_with fail;refine (HU.out _).mono ?_;rintro e w5 ⟨hbb,A1,c1,rfl,hcap1,hrow1⟩;have hC5:=hC4.step hbb;clear hC4 hbb HU;go_wp2_with fail;refine (HFd.out _).mono ?_;rintro e w6 ⟨hbb,rfl⟩;have hC6:=hC5.step hbb;clear hC5 hbb hrow1;go_wp2_with fail;obtain ⟨hv9,hp9,hqb9,hQ9,hb9⟩:=hC6;obtain ⟨v1,v2,v3⟩:=hv9.rules;obtain ⟨p1,p2,p3⟩:=hp9.rules;obtain ⟨q1,q2,q3⟩:=hQ9.rules;obtain ⟨pv,hpv⟩ : ∃ pv,w.heap.size = pv:=⟨_,rfl⟩;rw [hpv] at hv9 hp9 hqb9 hb9 v1 v2 v3 p1 p2 p3 ⊢;have hE:=bad_end hv9 hp9 hb9;have HPV:=Lib.hid hpv;clear hv9 hp9 hQ9 hb9 hpv;go_region
       all_goals go_wp2_with fail
       all_goals rw [HRF.out]
       all_goals
        obtain ⟨E1,E2,E3⟩:=hE;refine bodyPost_ret (res_num2 (p:=pv) (cs:=#[.int .i64 0,.bool false,.slice none 0 0,.bool false,.slice none 0 0,.string ⟨#[]⟩,.int .i64 0]) (c:=1) (i:=-1) rfl rfl rfl E1 E2) rfl ?_;exact ⟨by rw [HPV.out]; exact E3,rfl⟩
      ·rw [hf,if_pos rfl] at HFd;have hfd:=only_dg dg10 hf;go_wp2_with fail;refine (HU.out _).mono ?_;rintro e w5 ⟨hbb,A1,c1,rfl,hcap1,hrow1⟩;have hC5:=hC4.step hbb;clear hC4 hbb HU;go_wp2_with fail;refine (HFd.out _).mono ?_;rintro e w6 ⟨hbb,A2,c2,rfl,hcap2,hrow2⟩;have hC6:=hC5.step hbb
       go_upto_region 15 with fail
       go_cut [88] from 70 to 88 (fun s88 wx => s88 = .bool (!decOk u) ∧ wx = w6)
       case first =>
        obtain ⟨x,r,rfl⟩:=only_ne hu;rcases r with _ | ⟨y,r⟩
        ·have HD:=Lib.hid (dec_short hu);go_wp2_with fail;go_meet;exact ⟨by rw [HD.out]; rfl,rfl⟩
        ·have HD:=Lib.hid (dec_long hu);have hix:=run_idx (x :: y :: r) 0 (by simp) 0 rfl;rw [show at0 (x :: y :: r) 0 = x from rfl] at hix;have hxb:=eq48 x
         by_cases hx : x = 48
         ·rw [decide_eq_true hx] at hxb;rw [decide_eq_false (by simpa using hx)] at HD;clear hx;go_wp2_with fail;go_meet;exact ⟨by rw [HD.out]; rfl,rfl⟩
         ·rw [decide_eq_false hx] at hxb;rw [decide_eq_true (by simpa using hx)] at HD;clear hx;go_wp2_with fail;go_meet;exact ⟨by rw [HD.out]; rfl,rfl⟩
       case rest =>
        obtain ⟨rfl,rfl⟩:=hcut;cases hd : decOk u
        ·have HRF : Hid (R = .fault 1):=Lib.hid (by rw [← HR2.out,hd]; simp);clear hd HR2 HCE hu hC5 hbb hrow1 hrow2 hf hfd;go_wp2_with fail;obtain ⟨hv9,hp9,hqb9,hQ9,hb9⟩:=hC6;obtain ⟨v1,v2,v3⟩:=hv9.rules;obtain ⟨p1,p2,p3⟩:=hp9.rules;obtain ⟨q1,q2,q3⟩:=hQ9.rules;obtain ⟨pv,hpv⟩ : ∃ pv,w.heap.size = pv:=⟨_,rfl⟩;rw [hpv] at hv9 hp9 hqb9 hb9 v1 v2 v3 p1 p2 p3 ⊢;have hE:=bad_end hv9 hp9 hb9;have HPV:=Lib.hid hpv;clear hv9 hp9 hQ9 hb9 hpv;go_region
         all_goals go_wp2_with fail
         all_goals rw [HRF.out]
         all_goals
          obtain ⟨E1,E2,E3⟩:=hE;refine bodyPost_ret (res_num2 (p:=pv) (cs:=#[.int .i64 0,.bool false,.slice none 0 0,.bool false,.slice none 0 0,.string ⟨#[]⟩,.int .i64 0]) (c:=1) (i:=-1) rfl rfl rfl E1 E2) rfl ?_;exact ⟨by rw [HPV.out]; exact E3,rfl⟩
        ·have HRW : Hid (R = .point (numV 10 (u ++ f)) f.length):=Lib.hid (by rw [← HR2.out,hd,hf]; simp);clear hd HR2 HCE hf;have hrow16:=hrow1.keepB hbb;have hnl : (dig 10 (numV 10 (u))).length ≤ 6000:=Nat.le_trans (dig10_len 10 (by decide) (u) (only_dg dg10 hu)) (by omega);have hml : (dig 10 (numV 10 f)).length ≤ 6000:=Nat.le_trans (dig10_len 10 (by decide) f hfd) (by omega);have hfl : f.length ≤ 600:=(by omega);have HNP:=Lib.hid (numV_app 10 (u) f);obtain ⟨n0,hn0⟩ : ∃ n0,numV 10 (u) = n0:=⟨_,rfl⟩;obtain ⟨m0,hm0⟩ : ∃ m0,numV 10 f = m0:=⟨_,rfl⟩;rw [hn0] at hrow16 hnl HNP ⊢;rw [hm0] at hrow2 hml HNP ⊢;have HDU:=Lib.hid (only_dg dg10 hu);have HDF:=Lib.hid hfd;clear hn0 hm0 hC5 hbb hrow1 hu hfd;rw [show (!true) = false from rfl];go_wp2_with fail;have hden:=Row.new wc #[.int .i64 1] 3;have hba:=(Below.refl wc.heap.size wc).alloc (Nat.le_refl _) (.cells #[.int .i64 1] 3);have hC7:=hC6.step hba;have hr17:=hrow16.keepB hba;have hr27:=hrow2.keepB hba;obtain ⟨w7,hw7⟩ : ∃ w7,wc.alloc (.cells #[.int .i64 1] 3) = w7:=⟨_,rfl⟩;obtain ⟨qd,hqd⟩ : ∃ qd,wc.heap.size = qd:=⟨_,rfl⟩;rw [hw7,hqd] at hden;rw [hw7] at hC7 hr17 hr27 ⊢;rw [hqd];clear hw7 hqd hba hC6 hrow16 hrow2;rw [show #[.int .i64 1].toList = i64s (dig 10 1) from by rw [dig_one10]; rfl] at hden
         go_loopw [12,16,99] (fun v12 v16 i wr => ∃ (k : Nat) (A3 A4 : Option Addr) (c3 c4 : Nat),k ≤ f.length ∧ i = .int .i64 (k : Int) ∧ v12 = .slice A3 (dig 10 (n0 * 10 ^ k)).length c3 ∧ Row wr A3 (i64s (dig 10 (n0 * 10 ^ k))) ∧ v16 = .slice A4 (dig 10 (10 ^ k)).length c4 ∧ Row wr A4 (i64s (dig 10 (10 ^ k))) ∧ Row wr A2 (i64s (dig 10 m0)) ∧ RnC w qb wr) (fun _ _ i _ => f.length - (RowKit.intOf i).toNat)
         case atStart => exact ⟨0,A1,some ⟨qd,0,none⟩,c1,1,Nat.zero_le _,rfl,by rw [Nat.pow_zero,Nat.mul_one],by rw [Nat.pow_zero,Nat.mul_one]; exact hr17,by rw [Nat.pow_zero,dig_one10]; rfl,by rw [Nat.pow_zero]; exact hden,hr27,hC7⟩
         case round =>
          clear hr17 hr27 hC7 hden;obtain ⟨k,A3,A4,c3,c4,hk,rfl,rfl,hr3,rfl,hr4,hr2,hC8⟩:=hrel;have hb3:=digs_mul n0 k;have hb4:=digs_pow k
          by_cases hlt : k < f.length
          ·go_wp2_with fail;refine (affine_any (n0 * 10 ^ k) 10 0 A3 c3 (by omega) (by decide) (by decide) hr3).mono ?_;rintro e w8 ⟨⟨A5,c5,rfl,hc5,hr5⟩,hbb⟩;have hC9:=hC8.step hbb;have hr42:=hr4.keepB hbb;have hr22:=hr2.keepB hbb;rw [Nat.add_zero,Nat.mul_assoc,← Nat.pow_succ] at hr5 hc5 ⊢;clear hC8 hbb hr3 hr4 hr2 hc5;go_wp2_with fail;refine (affine_any (10 ^ k) 10 0 A4 c4 (by omega) (by decide) (by decide) hr42).mono ?_;rintro e w9 ⟨⟨A6,c6,rfl,hc6,hr6⟩,hbb⟩;have hC10:=hC9.step hbb;have hr52:=hr5.keepB hbb;have hr23:=hr22.keepB hbb;rw [Nat.add_zero,← Nat.pow_succ] at hr6 hc6 ⊢;clear hC9 hbb hr5 hr42 hr22 hc6;go_wp2_with fail;go_roundw
           case rel => exact ⟨k + 1,A5,A6,c5,c6,by omega,by go_num,rfl,hr52,rfl,hr6,hr23,hC10⟩
           case measure => simp [RowKit.intOf]; omega
          ·obtain rfl : k = f.length:=(by omega);have HPL:=Lib.hid (fun W h1 h2 => dplus_any (w:=W) (n0 * 10 ^ f.length) m0 A3 A2 c3 c2 (by omega) (by omega) h1 h2);rw [← HNP.out] at HPL;have hnx : (dig 10 (numV 10 (u ++ f))).length ≤ 10000:=Nat.le_trans (dig10_len 10 (by decide) (u ++ f) (fun c hc => by
            rcases List.mem_append.1 hc with h | h
            ·exact HDU.out c h
            ·exact HDF.out c h)) (by rw [List.length_append]; omega)
           obtain ⟨N,hN⟩ : ∃ N,numV 10 (u ++ f) = N:=⟨_,rfl⟩;rw [hN] at HPL hnx;have HNN:=Lib.hid hN;obtain ⟨p,hp⟩ : ∃ p,f.length = p:=⟨_,rfl⟩;have HPP:=Lib.hid hp;rw [hp] at hr4 hb4 hfl ⊢;rw [hp] at hr3 HPL;clear hb3 hN hp;go_wp2_with fail;refine (HPL.out _ hr3 hr2).mono ?_;rintro e w8 ⟨⟨A5,c5,rfl,hc5,hr5⟩,hbb⟩;have hC9:=hC8.step hbb;have hr42:=hr4.keepB hbb;clear hC8 hbb hr3 hr4 hr2 hc5 HPL;go_wp2_with fail;have hB:=Blk.new w8 3 #[.int .i64 2,.int .i64 5];have hba:=(Below.refl w8.heap.size w8).alloc (Nat.le_refl _) (.cells #[.int .i64 2,.int .i64 5] 3);have hM : RfM w qb w8.heap.size (refO N p 0) (.slice A5 (dig 10 N).length c5) (.slice A4 (dig 10 (10 ^ p)).length c4) (w8.alloc (.cells #[.int .i64 2,.int .i64 5] 3)):=⟨⟨A5,c5,rfl,hr5.keepB hba⟩,⟨A4,c4,rfl,hr42.keepB hba⟩,hB.cell 0,hB.cell 1,hB.lt,hC9.step hba⟩;obtain ⟨w9,hw9⟩ : ∃ w9,w8.alloc (.cells #[.int .i64 2,.int .i64 5] 3) = w9:=⟨_,rfl⟩;obtain ⟨bb,hbb2⟩ : ∃ bb,w8.heap.size = bb:=⟨_,rfl⟩;rw [hw9,hbb2] at hM;rw [hw9,hbb2];have hpfi : (f.length : Int) = (p : Int):=(by rw [HPP.out]);clear hw9 hbb2 hba hB hC9 hr5 hr42
           go_loopw [12,16,18,19,20,21,22,111] (fun v12 v16 _ _ _ _ _ i wr => RfOut w qb bb N p v12 v16 i wr) (fun _ _ _ _ _ _ _ i _ => 2 - (RowKit.intOf i).toNat)
           case atStart => exact ⟨0,by omega,rfl,hM⟩
           case round =>
            clear hM;obtain ⟨k,hk,rfl,hM⟩:=hrel
            by_cases hlt : k < 2
            ·have hc : wr.cell? ⟨bb,k,none⟩ = some (.int .i64 (baseK k : Int)):=by
              rcases (show k = 0 ∨ k = 1 by omega) with rfl | rfl
              ·exact hM.c0
              ·exact hM.c1
             have HNX:=Lib.hid (refO_next N p hlt);have hle:=refO_le N p (k:=k) (by omega);have hB1 : 2 ≤ baseK k ∧ baseK k ≤ 5:=(by unfold baseK; split <;> decide);have HIL:=Lib.hid (fun j => refI_le (baseK k) (refO N p k) j);obtain ⟨B,hB⟩ : ∃ B,baseK k = B:=⟨_,rfl⟩;obtain ⟨X,hX⟩ : ∃ X,refO N p k = X:=⟨_,rfl⟩;rw [hB] at hc HNX hB1 HIL;rw [hX] at HNX hM hle HIL;obtain ⟨hle1,hle2⟩:=hle;obtain ⟨hB2,hB5⟩:=hB1;clear hB hX;obtain ⟨wo,rfl⟩ : ∃ wo : World,wo = wr:=⟨_,rfl⟩;have hki : (k : Int) < 2:=(by omega);have hkd : decide ((k : Int) < 2) = true:=(by simpa using hki);go_wp2_with fail
             go_loopw [12,16,19,20,21,22,117] (fun v12 v16 _ _ _ _ i wr => RfIn w qb bb p B X v12 v16 i wr) (fun _ _ _ _ _ _ i _ => p - (RowKit.intOf i).toNat)
             case atStart => exact ⟨0,Nat.zero_le _,rfl,hM⟩
             case round =>
              obtain ⟨j,hj,rfl,hMj⟩:=hrel;clear hM hc
              by_cases hlj : j < p
              ·have hx1:=Nat.le_trans (HIL.out j).1 hle1;have hx2:=Nat.le_trans (HIL.out j).2 hle2;obtain ⟨⟨A1,c1,rfl,hr1⟩,⟨A2,c2,rfl,hr2⟩,_,_,_,_⟩:=id hMj;have HST:=Lib.hid (show refI B (j + 1) X = refS B (refI B j X) from rfl);obtain ⟨Y,hY⟩ : ∃ Y,refI B j X = Y:=⟨_,rfl⟩;rw [hY] at hx1 hx2 hr1 hr2 HST hMj ⊢;clear hY;obtain ⟨y1,y2⟩:=Y;dsimp only at hx1 hx2 hr1 hr2 ⊢;have hl1:=Nat.le_trans (dig10_mono hx1) hnx;have hl2:=Nat.le_trans (dig10_mono hx2) hb4;clear hx1 hx2;go_wp2_with fail;refine (dquo_any y1 B A1 c1 (by omega) (by omega) (by omega) hr1).mono ?_;rintro e w2 ⟨⟨c3,rfl,hc3,hr3⟩,hbb⟩;have hM2:=hMj.step hbb;have hr12:=hr1.keepB hbb;have hr22:=hr2.keepB hbb;obtain ⟨q3,hq3⟩ : ∃ q3,wr.heap.size = q3:=⟨_,rfl⟩;rw [hq3] at hr3;rw [hq3];clear hMj hbb hr1 hr2 hq3;have HUN:=Lib.hid (show refS B (y1,y2) = if y1 % B = 0 ∧ y2 % B = 0 then (y1 / B,y2 / B) else (y1,y2) from rfl);obtain ⟨r1,hr1e⟩ : ∃ r1,y1 % B = r1:=⟨_,rfl⟩;rw [hr1e] at HUN;rw [hr1e];clear hr1e;go_wp2_with fail;refine (dquo_any y2 B A2 c2 (by omega) (by omega) (by omega) hr22).mono ?_;rintro e w3 ⟨⟨c4,rfl,hc4,hr4⟩,hbb⟩;have hM3:=hM2.step hbb;have hr13:=hr12.keepB hbb;have hr23:=hr22.keepB hbb;have hr33:=hr3.keepB hbb;obtain ⟨q4,hq4⟩ : ∃ q4,w2.heap.size = q4:=⟨_,rfl⟩;rw [hq4] at hr4;rw [hq4];obtain ⟨r2,hr2e⟩ : ∃ r2,y2 % B = r2:=⟨_,rfl⟩;rw [hr2e] at HUN;rw [hr2e];clear hM2 hbb hr12 hr22 hr3 hq4 hr2e
               by_cases h1 : r1 = 0
               ·have h1b : ((r1 : Int) == 0) = true:=by rw [beq_iff_eq]; omega
                by_cases h2 : r2 = 0
                ·have h2b : ((r2 : Int) == 0) = true:=(by rw [beq_iff_eq]; omega);rw [if_pos ⟨h1,h2⟩] at HUN;clear h1 h2;go_wp2_with fail;go_roundw
                 case rel => exact ⟨j + 1,by omega,by go_num,by rw [HST.out,HUN.out]; exact ⟨⟨_,c3,rfl,hr33⟩,⟨_,c4,rfl,hr4⟩,hM3.c0,hM3.c1,hM3.hbb,hM3.R⟩⟩
                 case measure => simp [RowKit.intOf]; omega
                ·have h2b : ((r2 : Int) == 0) = false:=(by rw [beq_eq_false_iff_ne]; omega);rw [if_neg (fun h => h2 h.2)] at HUN;clear h1 h2;go_wp2_with fail;go_roundw
                 case rel => exact ⟨j + 1,by omega,by go_num,by rw [HST.out,HUN.out]; exact ⟨⟨_,c1,rfl,hr13⟩,⟨_,c2,rfl,hr23⟩,hM3.c0,hM3.c1,hM3.hbb,hM3.R⟩⟩
                 case measure => simp [RowKit.intOf]; omega
               ·have h1b : ((r1 : Int) == 0) = false:=(by rw [beq_eq_false_iff_ne]; omega);rw [if_neg (fun h => h1 h.1)] at HUN;clear h1;go_wp2_with fail;go_roundw
                case rel => exact ⟨j + 1,by omega,by go_num,by rw [HST.out,HUN.out]; exact ⟨⟨_,c1,rfl,hr13⟩,⟨_,c2,rfl,hr23⟩,hM3.c0,hM3.c1,hM3.hbb,hM3.R⟩⟩
                case measure => simp [RowKit.intOf]; omega
              ·have hjp : j = p:=(by omega);subst hjp;go_wp2_with fail;go_roundw
               case rel => exact ⟨k + 1,by omega,by go_num,by rw [← HNX.out]; exact hMj⟩
               case measure => simp [RowKit.intOf]; omega
            ·obtain rfl : k = 2:=(by omega);obtain ⟨⟨A1,c1,rfl,hr1⟩,⟨A2,c2,rfl,hr2⟩,-,-,-,hC⟩:=hM;have hlo:=refO_le N p (Nat.le_refl 2);have HO1:=Lib.hid (fun h => ref_out N p h);have HO2:=Lib.hid (ref_zero p);have HNV : Hid (∀ w' v,NumVal w' v (outS N p 2) → NumVal w' v (outS (numV 10 (u ++ f)) f.length 2)):=Lib.hid (by rw [HNN.out,HPP.out]; exact fun _ _ h => h);obtain ⟨⟨y1,y2⟩,hX⟩ : ∃ X,refO N p 2 = X:=⟨_,rfl⟩;have HOX : Hid ((y2 = 1 → outS N p 2 = (y1,1)) ∧ (y1 = 0 → outS N p 2 = (y1,1)) ∧ (y1 ≠ 0 → y2 ≠ 1 → outS N p 2 = (y1,y2))):=Lib.hid (by
              by_cases h0 : N = 0
              ·subst h0;have h3:=HO2.out;rw [hX] at h3;obtain ⟨h4,h5⟩:=h3;simp only at h4;rw [h5,h4];exact ⟨fun _ => rfl,fun _ => rfl,fun h => absurd rfl h⟩
              ·obtain ⟨h3,h4⟩:=HO1.out h0;rw [← h3,hX] at h4;rw [← h3,hX];exact ⟨fun h => by rw [h],fun h => absurd h h4,fun _ _ => rfl⟩)
             rw [hX] at hr1 hr2 hlo;rw [hX];clear hX HO1 HO2;obtain ⟨hlo1,hlo2⟩:=hlo;dsimp only at hr1 hr2 hlo1 hlo2 ⊢;have hl1:=Nat.le_trans (dig10_mono hlo1) hnx;have hl2:=Nat.le_trans (dig10_mono hlo2) hb4;have hds:=dec_is1 y2;have HDS:=Lib.hid (fun W h => dstring_any (w:=W) y2 A2 c2 (by omega) h);obtain ⟨S,hS⟩ : ∃ S,decDigits y2 = S:=⟨_,rfl⟩;rw [hS] at hds HDS;clear hS hlo1 hlo2
             by_cases hy2 : y2 = 1
             ·rw [decide_eq_true hy2] at hds;have HOY:=Lib.hid (HOX.out.1 hy2);clear hy2;go_wp2_with fail;refine (HDS.out _ hr2).mono ?_;rintro e w10 ⟨rfl,rfl⟩;go_wp2_with fail;refine (whole_any y1 A1 c1 hl1 hr1).mono ?_;rintro e w11 ⟨⟨A',c',rfl,hr11⟩,hbb⟩;have hC2:=hC.step hbb;clear hC hbb hr1 hr2;unfold valD;go_wp2_with (first | refine wpList_store_row rfl 26 (.tmp 2) (.tmp 150) rfl w.heap.size #[.int .i64 2,.bool false,.slice A' (lg y1).length c',.bool false,.slice none 0 0,.string ⟨#[]⟩,.int .i64 0] rfl rfl 26 #[.int .i64 0,.bool false,.slice none 0 0,.bool false,.slice none 0 0,.string ⟨#[]⟩,.int .i64 0] hC2.v (by kernel_rfl) rfl (by simp [Value.oneCell']) ?_ | refine wpList_store_row rfl 29 (.tmp 3) (.tmp 151) rfl (w.heap.size + 1) #[.int .i64 0,.int .i64 0] rfl rfl 29 #[.int .i64 0,.int .i64 0] (hC2.p.farRow (by omega) _) (by kernel_rfl) rfl (by simp [Value.oneCell']) ?_);rw [HRW.out];exact bodyPost_ret (res_num2 (p:=w.heap.size) rfl rfl rfl ((hC2.v.setRow _).farRow (by omega) _) ((hC2.p.farRow (by omega) _).setRow _)) rfl ⟨below_setRow (below_setRow hC2.bel (Nat.le_refl _) _) (Nat.le_succ _) _,_,rfl,HNV.out _ _ (by rw [HOY.out]; exact ⟨A',c',row_setRowF (row_setRow hr11 hC2.v _) (hC2.p.farRow (by omega) _) _,(by rw [if_pos rfl]; rfl)⟩)⟩
             ·rw [decide_eq_false hy2] at hds
              by_cases hy1 : y1 = 0
              ·have hlz : (((dig 10 y1).length : Int) == 0) = true:=(by rw [dig_len0.2 hy1]; rfl);have hlz2 : ((dig 10 y1).length : Int) = 0:=(by rw [dig_len0.2 hy1]; rfl);have HOY:=Lib.hid (HOX.out.2.1 hy1);clear hy1 hy2;go_wp2_with fail;refine (HDS.out _ hr2).mono ?_;rintro e w10 ⟨rfl,rfl⟩;go_wp2_with fail;refine (whole_any y1 A1 c1 hl1 hr1).mono ?_;rintro e w11 ⟨⟨A',c',rfl,hr11⟩,hbb⟩;have hC2:=hC.step hbb;clear hC hbb hr1 hr2;unfold valD;go_wp2_with (first | refine wpList_store_row rfl 26 (.tmp 2) (.tmp 150) rfl w.heap.size #[.int .i64 2,.bool false,.slice A' (lg y1).length c',.bool false,.slice none 0 0,.string ⟨#[]⟩,.int .i64 0] rfl rfl 26 #[.int .i64 0,.bool false,.slice none 0 0,.bool false,.slice none 0 0,.string ⟨#[]⟩,.int .i64 0] hC2.v (by kernel_rfl) rfl (by simp [Value.oneCell']) ?_ | refine wpList_store_row rfl 29 (.tmp 3) (.tmp 151) rfl (w.heap.size + 1) #[.int .i64 0,.int .i64 0] rfl rfl 29 #[.int .i64 0,.int .i64 0] (hC2.p.farRow (by omega) _) (by kernel_rfl) rfl (by simp [Value.oneCell']) ?_);rw [HRW.out];exact bodyPost_ret (res_num2 (p:=w.heap.size) rfl rfl rfl ((hC2.v.setRow _).farRow (by omega) _) ((hC2.p.farRow (by omega) _).setRow _)) rfl ⟨below_setRow (below_setRow hC2.bel (Nat.le_refl _) _) (Nat.le_succ _) _,_,rfl,HNV.out _ _ (by rw [HOY.out]; exact ⟨A',c',row_setRowF (row_setRow hr11 hC2.v _) (hC2.p.farRow (by omega) _) _,(by rw [if_pos rfl]; rfl)⟩)⟩
              ·have hlz : (((dig 10 y1).length : Int) == 0) = false:=(by rw [beq_eq_false_iff_ne]; intro h; exact hy1 (dig_len0.1 (by omega)));have HOY:=Lib.hid (HOX.out.2.2 hy1 hy2);have HY2:=Lib.hid hy2;clear hy1 hy2;go_wp2_with fail;refine (HDS.out _ hr2).mono ?_;rintro e w10 ⟨rfl,rfl⟩;go_wp2_with fail;refine (dlimbs_any y1 A1 c1 hl1 hr1).mono ?_;rintro e w11 ⟨⟨A3',c3',rfl,hr11⟩,hbb⟩;have hC2:=hC.step hbb;have hr22:=hr2.keepB hbb;clear hC hbb hr1 hr2;go_wp2_with fail;refine (dlimbs_any y2 A2 c2 (by omega) hr22).mono ?_;rintro e w12 ⟨⟨A4',c4',rfl,hr12⟩,hbb⟩;have hC3:=hC2.step hbb;have hr112:=hr11.keepB hbb;clear hC2 hbb hr11 hr22;go_wp2_with (first | refine wpList_store_row rfl 26 (.tmp 2) (.tmp 158) rfl w.heap.size #[.int .i64 3,.bool false,.slice A3' (lg y1).length c3',.bool false,.slice A4' (lg y2).length c4',.string ⟨#[]⟩,.int .i64 0] rfl rfl 26 #[.int .i64 0,.bool false,.slice none 0 0,.bool false,.slice none 0 0,.string ⟨#[]⟩,.int .i64 0] hC3.v (by kernel_rfl) rfl (by simp [Value.oneCell']) ?_ | refine wpList_store_row rfl 29 (.tmp 3) (.tmp 159) rfl (w.heap.size + 1) #[.int .i64 0,.int .i64 0] rfl rfl 29 #[.int .i64 0,.int .i64 0] (hC3.p.farRow (by omega) _) (by kernel_rfl) rfl (by simp [Value.oneCell']) ?_);rw [HRW.out];exact bodyPost_ret (res_num2 (p:=w.heap.size) rfl rfl rfl ((hC3.v.setRow _).farRow (by omega) _) ((hC3.p.farRow (by omega) _).setRow _)) rfl ⟨below_setRow (below_setRow hC3.bel (Nat.le_refl _) _) (Nat.le_succ _) _,_,rfl,HNV.out _ _ (by rw [HOY.out]; exact ⟨A3',c3',row_setRowF (row_setRow hr112 hC3.v _) (hC3.p.farRow (by omega) _) _,(by rw [if_neg HY2.out]; exact ⟨A4',c4',row_setRowF (row_setRow hr12 hC3.v _) (hC3.p.farRow (by omega) _) _,rfl⟩)⟩)⟩
   ·have hCx:=hC3.next hR2 hgr hrbw;rcases HL kl hlk with rfl | rfl
    ·have hkey0:=law.inj hkey (show keyOf Tryz.prog 9 (.string ⟨#[48,120]⟩) = some (.string [48,120]) from by kernel_rfl);subst hkey0;obtain ⟨va,rfl,hy,-⟩:=plainElem_int_inv Tryz.underlying3 hv;have hva : va = 16:=by
      have h1:=hat (.lit (.int .i64 0));rw [pre_at.1,hy] at h1;simpa using h1.symm
     subst hva;have HPX:=Lib.hid (fun W => shasp_any s [48,120] W);clear hat hy hv hkey;cases hp : hasPrefix s [48,120]
     ·rw [hp] at HPX;have HPE:=Lib.hid hp;clear hp;go_wp2_with fail;refine (HPX.out _).mono ?_;rintro e w9 ⟨rfl,rfl⟩;go_wp2_with fail;go_roundw
      case rel => exact ⟨_,_,hrg,hCx,HL.next _,HN.nextx HPE.out⟩
      case measure => rw [hrg.left_eq,hR2.left_eq]; exact hlt
     ·rw [hp] at HPX;have h2 : 2 ≤ s.length:=pre_len hp;have hs2 : ∀ W : World,(Instr.slice 9 (.string ⟨s.toArray⟩) (some (.int .i64 2)) none none).run Tryz.prog W = .ok (.string ⟨(s.drop 2).toArray⟩) W:=fun W => drop2_run s h2 W;have h2i : (2 : Int) ≤ (s.length : Int):=(by omega);have hdl : (s.drop 2).length ≤ 600:=(by rw [List.length_drop]; omega);have HRX : Hid (R = if onlyV (s.drop 2) fg16 = true then .whole (numV 16 (s.drop 2)) else .fault 1):=Lib.hid (by rw [← HR.out]; exact rif_x hp);obtain ⟨D,hD⟩ : ∃ D,s.drop 2 = D:=⟨_,rfl⟩;rw [hD] at hs2 hdl HRX;have HDO:=Lib.hid (fun W => digitsOf_any D 16 W (by omega) (by omega));have HDG:=Lib.hid (fun (h : onlyV D fg16 = true) c hc => isDg_lt (only_dg dg16 h c hc));rw [only_digO fg_16] at HDO;have hRR:=hR2;clear hp hD hRR;go_wp2_with fail;refine (HPX.out _).mono ?_;rintro e w9 ⟨rfl,rfl⟩;cases ho : onlyV D fg16
      ·rw [ho,if_neg (by decide)] at HDO HRX;clear ho HDG;go_wp2_with fail;refine (HDO.out _).mono ?_;rintro e w10 ⟨hbb,rfl⟩;have hC4:=hCx.step hbb;clear hbb hCx hrg hR2 hgr hsz hen hrun hC3;go_wp2_with fail;obtain ⟨hv9,hp9,hqb9,hQ9,hb9⟩:=hC4;obtain ⟨v1,v2,v3⟩:=hv9.rules;obtain ⟨p1,p2,p3⟩:=hp9.rules;obtain ⟨q1,q2,q3⟩:=hQ9.rules;obtain ⟨pv,hpv⟩ : ∃ pv,w.heap.size = pv:=⟨_,rfl⟩;rw [hpv] at hv9 hp9 hqb9 hb9 v1 v2 v3 p1 p2 p3 ⊢;have hE:=bad_end hv9 hp9 hb9;have HPV:=Lib.hid hpv;clear hv9 hp9 hQ9 hb9 hpv;go_region
       all_goals go_wp2_with fail
       all_goals rw [HRX.out]
       all_goals
        obtain ⟨E1,E2,E3⟩:=hE;refine bodyPost_ret (res_num2 (p:=pv) (cs:=#[.int .i64 0,.bool false,.slice none 0 0,.bool false,.slice none 0 0,.string ⟨#[]⟩,.int .i64 0]) (c:=1) (i:=-1) rfl rfl rfl E1 E2) rfl ?_;exact ⟨by rw [HPV.out]; exact E3,rfl⟩
      ·rw [ho,if_pos rfl] at HDO HRX;have hng : (dig 10 (numV 16 D)).length ≤ 10000:=Nat.le_trans (dig10_len 16 (by decide) D (only_dg dg16 ho)) (by omega);obtain ⟨n,hn⟩ : ∃ n,numV 16 D = n:=⟨_,rfl⟩;rw [hn] at HDO HRX hng;clear hn ho HDG;go_wp2_with fail;refine (HDO.out _).mono ?_;rintro e w10 ⟨hbb,A,c,rfl,hcap,hrow⟩;have hC4:=hCx.step hbb;clear hbb hCx hrg hR2 hgr hsz hen hrun hC3;go_wp2_with fail;refine (whole_any n A c hng hrow).mono ?_;rintro e w11 ⟨⟨A',c',rfl,hr11⟩,hbb⟩;have hC5:=hC4.step hbb;clear hC4 hbb hrow;unfold valD;go_wp2_with (first | refine wpList_store_row rfl 26 (.tmp 2) (.tmp 52) rfl w.heap.size #[.int .i64 2,.bool false,.slice A' (lg n).length c',.bool false,.slice none 0 0,.string ⟨#[]⟩,.int .i64 0] rfl rfl 26 #[.int .i64 0,.bool false,.slice none 0 0,.bool false,.slice none 0 0,.string ⟨#[]⟩,.int .i64 0] hC5.v (by kernel_rfl) rfl (by simp [Value.oneCell']) ?_ | refine wpList_store_row rfl 29 (.tmp 3) (.tmp 53) rfl (w.heap.size + 1) #[.int .i64 0,.int .i64 0] rfl rfl 29 #[.int .i64 0,.int .i64 0] (hC5.p.farRow (by omega) _) (by kernel_rfl) rfl (by simp [Value.oneCell']) ?_);rw [HRX.out];exact bodyPost_ret (res_num2 (p:=w.heap.size) rfl rfl rfl ((hC5.v.setRow _).farRow (by omega) _) ((hC5.p.farRow (by omega) _).setRow _)) rfl ⟨below_setRow (below_setRow hC5.bel (Nat.le_refl _) _) (Nat.le_succ _) _,_,rfl,A',c',row_setRowF (row_setRow hr11 hC5.v _) (hC5.p.farRow (by omega) _) _,(by rw [if_pos rfl]; rfl)⟩
    ·have hkey0:=law.inj hkey (show keyOf Tryz.prog 9 (.string ⟨#[48,98]⟩) = some (.string [48,98]) from by kernel_rfl);subst hkey0;obtain ⟨va,rfl,hy,-⟩:=plainElem_int_inv Tryz.underlying3 hv;have hva : va = 2:=by
      have h1:=hat (.lit (.int .i64 0));rw [pre_at.2,hy] at h1;simpa using h1.symm
     subst hva;have HPX:=Lib.hid (fun W => shasp_any s [48,98] W);clear hat hy hv hkey;cases hp : hasPrefix s [48,98]
     ·rw [hp] at HPX;have HPE:=Lib.hid hp;clear hp;go_wp2_with fail;refine (HPX.out _).mono ?_;rintro e w9 ⟨rfl,rfl⟩;go_wp2_with fail;go_roundw
      case rel => exact ⟨_,_,hrg,hCx,HL.next _,HN.nextb HPE.out⟩
      case measure => rw [hrg.left_eq,hR2.left_eq]; exact hlt
     ·rw [hp] at HPX;have h2 : 2 ≤ s.length:=pre_len hp;have hs2 : ∀ W : World,(Instr.slice 9 (.string ⟨s.toArray⟩) (some (.int .i64 2)) none none).run Tryz.prog W = .ok (.string ⟨(s.drop 2).toArray⟩) W:=fun W => drop2_run s h2 W;have h2i : (2 : Int) ≤ (s.length : Int):=(by omega);have hdl : (s.drop 2).length ≤ 600:=(by rw [List.length_drop]; omega);have HRX : Hid (R = if onlyV (s.drop 2) fg2 = true then .whole (numV 2 (s.drop 2)) else .fault 1):=Lib.hid (by rw [← HR.out]; exact rif_b hp);obtain ⟨D,hD⟩ : ∃ D,s.drop 2 = D:=⟨_,rfl⟩;rw [hD] at hs2 hdl HRX;have HDO:=Lib.hid (fun W => digitsOf_any D 2 W (by omega) (by omega));have HDG:=Lib.hid (fun (h : onlyV D fg2 = true) c hc => isDg_lt (only_dg dg2 h c hc));rw [only_digO fg_2] at HDO;have hRR:=hR2;clear hp hD hRR;go_wp2_with fail;refine (HPX.out _).mono ?_;rintro e w9 ⟨rfl,rfl⟩;cases ho : onlyV D fg2
      ·rw [ho,if_neg (by decide)] at HDO HRX;clear ho HDG;go_wp2_with fail;refine (HDO.out _).mono ?_;rintro e w10 ⟨hbb,rfl⟩;have hC4:=hCx.step hbb;clear hbb hCx hrg hR2 hgr hsz hen hrun hC3;go_wp2_with fail;obtain ⟨hv9,hp9,hqb9,hQ9,hb9⟩:=hC4;obtain ⟨v1,v2,v3⟩:=hv9.rules;obtain ⟨p1,p2,p3⟩:=hp9.rules;obtain ⟨q1,q2,q3⟩:=hQ9.rules;obtain ⟨pv,hpv⟩ : ∃ pv,w.heap.size = pv:=⟨_,rfl⟩;rw [hpv] at hv9 hp9 hqb9 hb9 v1 v2 v3 p1 p2 p3 ⊢;have hE:=bad_end hv9 hp9 hb9;have HPV:=Lib.hid hpv;clear hv9 hp9 hQ9 hb9 hpv;go_region
       all_goals go_wp2_with fail
       all_goals rw [HRX.out]
       all_goals
        obtain ⟨E1,E2,E3⟩:=hE;refine bodyPost_ret (res_num2 (p:=pv) (cs:=#[.int .i64 0,.bool false,.slice none 0 0,.bool false,.slice none 0 0,.string ⟨#[]⟩,.int .i64 0]) (c:=1) (i:=-1) rfl rfl rfl E1 E2) rfl ?_;exact ⟨by rw [HPV.out]; exact E3,rfl⟩
      ·rw [ho,if_pos rfl] at HDO HRX;have hng : (dig 10 (numV 2 D)).length ≤ 10000:=Nat.le_trans (dig10_len 2 (by decide) D (only_dg dg2 ho)) (by omega);obtain ⟨n,hn⟩ : ∃ n,numV 2 D = n:=⟨_,rfl⟩;rw [hn] at HDO HRX hng;clear hn ho HDG;go_wp2_with fail;refine (HDO.out _).mono ?_;rintro e w10 ⟨hbb,A,c,rfl,hcap,hrow⟩;have hC4:=hCx.step hbb;clear hbb hCx hrg hR2 hgr hsz hen hrun hC3;go_wp2_with fail;refine (whole_any n A c hng hrow).mono ?_;rintro e w11 ⟨⟨A',c',rfl,hr11⟩,hbb⟩;have hC5:=hC4.step hbb;clear hC4 hbb hrow;unfold valD;go_wp2_with (first | refine wpList_store_row rfl 26 (.tmp 2) (.tmp 52) rfl w.heap.size #[.int .i64 2,.bool false,.slice A' (lg n).length c',.bool false,.slice none 0 0,.string ⟨#[]⟩,.int .i64 0] rfl rfl 26 #[.int .i64 0,.bool false,.slice none 0 0,.bool false,.slice none 0 0,.string ⟨#[]⟩,.int .i64 0] hC5.v (by kernel_rfl) rfl (by simp [Value.oneCell']) ?_ | refine wpList_store_row rfl 29 (.tmp 3) (.tmp 53) rfl (w.heap.size + 1) #[.int .i64 0,.int .i64 0] rfl rfl 29 #[.int .i64 0,.int .i64 0] (hC5.p.farRow (by omega) _) (by kernel_rfl) rfl (by simp [Value.oneCell']) ?_);rw [HRX.out];exact bodyPost_ret (res_num2 (p:=w.heap.size) rfl rfl rfl ((hC5.v.setRow _).farRow (by omega) _) ((hC5.p.farRow (by omega) _).setRow _)) rfl ⟨below_setRow (below_setRow hC5.bel (Nat.le_refl _) _) (Nat.le_succ _) _,_,rfl,A',c',row_setRowF (row_setRow hr11 hC5.v _) (hC5.p.farRow (by omega) _) _,(by rw [if_pos rfl]; rfl)⟩
end Go.Proofs.YtonehlkiackhcaaGreatDoor
