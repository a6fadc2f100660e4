/- The literals: where a specification and an expression of a field end, as the reference finds it. Nothing is claimed here. -/
import Derived.Test.YtonehlkiackhcaaGreatDoorLitX
import Derived.Shelf.Strings.CaseAny
set_option linter.unusedVariables false
set_option linter.unusedSimpArgs false
set_option maxRecDepth 100000
set_option maxHeartbeats 16000000
namespace Go.Proofs.YtonehlkiackhcaaGreatDoor
section
open Go.RowKit Go.Shelf Go.Lib
def runesF : Nat → List UInt8 → List Nat
 | 0,_ => []
 | f + 1,l => if l = [] then [] else (decodeL l).1 :: runesF f (l.drop (decodeL l).2)
def runesL (l : List UInt8) : List Nat:=runesF l.length l
def rcs (l : List Nat) : List Value:=l.map fun n : Nat => Value.int .i32 (n:Int)
theorem runesF_len : ∀ (f:Nat) (l : List UInt8),(runesF f l).length ≤ f
 | 0,l => Nat.le_refl _
 | f + 1,l => by
  unfold runesF;split
  ·exact Nat.zero_le _
  ·have:=runesF_len f (l.drop (decodeL l).2);simp;omega
theorem runesF_lt : ∀ (f:Nat) (l : List UInt8),∀ r ∈ runesF f l,r < 1114112
 | 0,l,r,h => by cases h
 | f + 1,l,r,h => by
  unfold runesF at h;split at h
  ·cases h
  ·rcases List.mem_cons.1 h with h | h
   ·rw [h]; exact decodeL_lt l
   ·exact runesF_lt f _ r h
theorem runesFrom_eq (l : List UInt8) : ∀ (f p:Nat) (acc : Array Value),p ≤ l.length → l.length ≤ p + f → Conv.runesFrom ⟨l.toArray⟩ f p acc = acc ++ (rcs (runesF f (l.drop p))).toArray
 | 0,p,acc,_,_ => by simp [Conv.runesFrom,runesF,rcs]
 | f + 1,p,acc,h1,h2 => by
  have e : (⟨l.toArray⟩ : ByteArray).size = l.length:=(by simp [ByteArray.size]);unfold Conv.runesFrom runesF
  by_cases hp : p < l.length
  ·have hne : l.drop p ≠ []:=(by intro e; have:=congrArg List.length e; rw [List.length_drop,List.length_nil] at this; omega);have hw:=width_pos _ hne;have hw2:=decodeL_width_le _ hne;rw [List.length_drop] at hw2;rw [if_pos (by rw [e]; exact hp),if_neg hne,decode_drop];simp only;rw [runesFrom_eq l f _ _ (by omega) (by omega),List.drop_drop];simp [rcs]
  ·rw [if_neg (by rw [e]; exact hp),if_pos (List.drop_eq_nil_of_le (by omega))];simp [rcs]
theorem runesFrom_all (l : List UInt8) : Conv.runesFrom ⟨l.toArray⟩ (⟨l.toArray⟩ : ByteArray).size 0 #[] = (rcs (runesL l)).toArray:=by
 have e : (⟨l.toArray⟩ : ByteArray).size = l.length:=by simp [ByteArray.size]
 rw [e,runesFrom_eq l l.length 0 #[] (by omega) (by omega)];simp [runesL]
def RRow (w : World) (A : Option Addr) (rs : List Nat) : Prop:=rs = []∨∃ g cells,A = some ⟨g,0,none⟩∧Blk w g 21 cells∧∀ (j n:Nat),rs[j]? = some n → cells[j]? = some (.int .i32 (n:Int))
theorem RRow.belowS {w w' : World} {A : Option Addr} {rs : List Nat} (h : RRow w A rs) (hb : Below w.heap.size w w') : RRow w' A rs:=by
 rcases h with h | ⟨g,cells,h1,h2,h3⟩
 ·exact .inl h
 ·exact .inr ⟨g,cells,h1,h2.belowS hb,h3⟩
theorem RRow.others {w w' : World} {A : Option Addr} {rs : List Nat} {b : Nat} {T : Array Value} (h : RRow w A rs) (hB : Blk w b 99 T) (ho : Lib.OthersKept 5 (some b) w w') : RRow w' A rs:=by
 rcases h with h | ⟨g,cells,h1,h2,h3⟩
 ·exact .inl h
 ·exact .inr ⟨g,cells,h1,h2.others ho (h2.ne_ hB (by decide)) (by decide),h3⟩
theorem Bld.blk {w : World} {b : Nat} {l : List UInt8} (h : Bld w b l) : ∃ T,Blk w b 99 T:=by
 obtain ⟨p,_,v,hb,_⟩:=h.at_;exact ⟨_,hb⟩
theorem RRow.at_ {w : World} {A : Option Addr} {rs : List Nat} (h : RRow w A rs) {k : Nat} (hk : k < rs.length) : ∃ g,A = some ⟨g,0,none⟩∧w.cell? ⟨g,k,none⟩ = some (.int .i32 (rs[k]:Int)):=by
 rcases h with h | ⟨g,cells,h1,h2,h3⟩
 ·subst h; simp at hk
 ·exact ⟨g,h1,(h2.cell k).trans (h3 k _ (List.getElem?_eq_getElem hk))⟩
def RunPost (w : World) (rs : List Nat) (e : Ending) (w' : World) : Prop:=∃ A c,e = .returned (.slice A rs.length c)∧RRow w' A rs∧Below w.heap.size w w'
theorem runes_any (l : List UInt8) (w : World) (hl : l.length ≤ 1099511627776) : Calls Tryz.prog 27 #[.string ⟨l.toArray⟩] w (RunPost w (runesL l)):=by
 have h:=run_runes_of_string (P:=Tryz.prog) w 9 118 21 ⟨l.toArray⟩ Tryz.underlying9 Tryz.underlying118 Tryz.underlying21 (by rw [runesFrom_all]; have:=runesF_len l.length l; simp [rcs,runesL]; omega);rw [runesFrom_all] at h;obtain ⟨cap,hcap⟩ : ∃ cap,grownCap w (rcs (runesL l)).toArray.size 0 21 = cap:=⟨_,rfl⟩;rw [hcap] at h;have hsz : (rcs (runesL l)).toArray.size = (runesL l).length:=by simp [rcs]
 obtain ⟨X,hX⟩ : ∃ X,(rcs (runesL l)).toArray ++ Array.replicate (cap - (rcs (runesL l)).toArray.size) (.int .i32 0) = X:=⟨_,rfl⟩;rw [hX,hsz] at h;have hB:=Blk.new w.drew 21 X;have hb:=((Below.refl w.heap.size w).drew).alloc (Nat.le_refl _) (.cells X 21);have hXj : ∀ (j n:Nat),(runesL l)[j]? = some n → X[j]? = some (.int .i32 (n:Int)):=fun j n hj => by
  obtain ⟨hlt,hv⟩:=List.getElem?_eq_some_iff.1 hj;rw [← hX,Array.getElem?_append_left (by rw [hsz]; exact hlt)];simp [rcs,hlt,hv]
 have HX:=hid hXj;clear hcap hX hXj hsz;go_enter Tryz.func27,Tryz.ntmps27;go_wp2_with fail;go_ret;exact ⟨_,_,rfl,.inr ⟨_,X,rfl,hB,HX.out⟩,hb⟩
def ctlB (n:Nat) : Bool:=decide (n < 32) || (decide (127 ≤ n) && decide (n < 160))
theorem control_any (n:Nat) (w : World) : Calls Tryz.prog 26 #[.int .i32 (n:Int)] w fun e w' => e = .returned (.bool (ctlB n))∧w = w':=by
 have HC:=hid (show ctlB n = (decide (n < 32) || (decide (127 ≤ n) && decide (n < 160))) from rfl);obtain ⟨B,hB⟩ : ∃ B,ctlB n = B:=⟨_,rfl⟩;rw [hB] at HC ⊢;clear hB
 by_cases h1 : n < 32
 ·have d1 : decide ((n:Int) < 32) = true:=decide_eq_true (by omega);have HV:=hid (show B = true from by rw [HC.out,decide_eq_true h1]; rfl);clear h1;go_enter Tryz.func26,Tryz.ntmps26;go_wp2_with fail;go_ret;exact ⟨by rw [HV.out]; rfl,rfl⟩
 ·have d1 : decide ((n:Int) < 32) = false:=decide_eq_false (by omega)
  by_cases h2 : 127 ≤ n
  ·have d2 : decide ((n:Int) ≥ 127) = true:=decide_eq_true (by omega)
   by_cases h3 : n < 160
   ·have d3 : decide ((n:Int) < 160) = true:=decide_eq_true (by omega);have HV:=hid (show B = true from by rw [HC.out,decide_eq_false h1,decide_eq_true h2,decide_eq_true h3]; rfl);clear h1 h2 h3;go_enter Tryz.func26,Tryz.ntmps26;go_wp2_with fail;go_ret;exact ⟨by rw [HV.out]; rfl,rfl⟩
   ·have d3 : decide ((n:Int) < 160) = false:=decide_eq_false (by omega);have HV:=hid (show B = false from by rw [HC.out,decide_eq_false h1,decide_eq_true h2,decide_eq_false h3]; rfl);clear h1 h2 h3;go_enter Tryz.func26,Tryz.ntmps26;go_wp2_with fail;go_ret;exact ⟨by rw [HV.out]; rfl,rfl⟩
  ·have d2 : decide ((n:Int) ≥ 127) = false:=decide_eq_false (by omega);have HV:=hid (show B = false from by rw [HC.out,decide_eq_false h1,decide_eq_false h2]; rfl);clear h1 h2;go_enter Tryz.func26,Tryz.ntmps26;go_wp2_with fail;go_ret;exact ⟨by rw [HV.out]; rfl,rfl⟩
end
section
open Go.Lib
def lowOk (x : CaseRow) : Bool:=decide (x.2.1 ≤ 127) || (if x.delta 1 > 1114111 then decide (103 ≤ x.1) else decide (103 ≤ (x.1:Int) + x.delta 1))
def digO (B:Nat) (t : List UInt8) : Option Nat:=if t ≠ []∧t.all (isDg B) = true then some (numV B t) else none
end
section
open Go.RowKit
def i64s (l : List Nat) : List Value:=l.map fun n : Nat => Value.int .i64 (n:Int)
theorem i64s_snoc (d : List Nat) (x:Nat) : i64s (d ++ [x]) = i64s d ++ [.int .i64 (x:Int)]:=by simp [i64s]
theorem i64s_len (l : List Nat) : (i64s l).length = l.length:=by simp [i64s]
theorem info_i64 : (Tryz.prog.info? 3).map (fun i => (i.zero,i.size,i.bytes)) = some (some (.int .i64 0),1,8):=by kernel_rfl
theorem row_i64 {w : World} {A : Option Addr} {m : List Nat} (h : Row w A (i64s m)) {j : Nat} (hj : j < m.length) : ∃ b off,A = some ⟨b,off,none⟩∧w.cell? ⟨b,off + j,none⟩ = some (.int .i64 (m[j]:Int)):=by
 obtain ⟨b,off,e,hlt,hc⟩:=h.at_ (k:=j) (by rw [i64s_len]; exact hj);exact ⟨b,off,e,hc j _ (by simp [i64s,hj])⟩
theorem row_take {w : World} {A : Option Addr} {xs : List Value} (h : Row w A xs) (k:Nat) : Row w A (xs.take k):=by
 rcases h with h | ⟨b,off,e,hlt,hc⟩
 ·subst h; exact .inl (by simp)
 ·refine .inr ⟨b,off,e,hlt,fun j u hu => hc j u ?_⟩;rw [List.getElem?_take] at hu;split at hu
  ·exact hu
  ·cases hu
theorem trimZ_take (l : List Nat) : trimZ l = l.take (trimZ l).length:=by
 unfold trimZ;obtain ⟨t,ht⟩:=List.dropWhile_suffix (· == 0) (l:=l.reverse);obtain ⟨u,hu⟩ : ∃ u,List.dropWhile (· == 0) l.reverse = u:=⟨_,rfl⟩;rw [hu] at ht ⊢;have h2 : l = u.reverse ++ t.reverse:=by
  rw [← List.reverse_append,ht,List.reverse_reverse]
 rw [h2,List.take_left]
theorem dtrim_any {w : World} (l : List Nat) (A : Option Addr) (c:Nat) (hlen : l.length ≤ 100000) (hc : l.length ≤ c) (hr : Row w A (i64s l)) :
  Calls Tryz.prog 90 #[.slice A l.length c] w fun e w' => e = .returned (.slice A (trimZ l).length c)∧w = w':=by
 go_enter Tryz.func90,Tryz.ntmps90;go_wp2_with fail
 go_loop [0] (fun v => ∃ k : Nat,k ≤ l.length∧v = .slice A k c∧Hid (trimZ (l.take k) = trimZ l)) (fun v => lenOf v)
 case atStart => exact ⟨l.length,Nat.le_refl _,rfl,Lib.hid (by rw [List.take_length])⟩
 case round =>
  obtain ⟨k,hk,rfl,HT⟩:=hrel;have htl : (l.take k).length = k:=(by rw [List.length_take]; omega);rcases k with _ | j
  ·have HF:=Lib.hid (show trimZ l = [] from by rw [← HT.out]; rfl);go_wp2_with fail;go_ret;exact ⟨by rw [HF.out]; rfl,rfl⟩
  ·obtain ⟨b0,off,rfl,hcell⟩:=row_i64 hr (j:=j) (by omega);obtain ⟨z,hz⟩ : ∃ z,l[j]'(by omega) = z:=⟨_,rfl⟩;rw [hz] at hcell;have hts : l.take (j + 1) = l.take j ++ [z]:=by rw [List.take_add_one,List.getElem?_eq_getElem (by omega),hz]; rfl
   by_cases h0 : z = 0
   ·subst h0;have HT2:=Lib.hid (show trimZ (l.take j) = trimZ l from by rw [← HT.out,hts,trimZ_snoc_zero]);clear hts hz;go_wp2_with fail
    go_round
    case rel => exact ⟨j,by omega,by go_num,HT2⟩
    case measure => simp [lenOf]
   ·have h1 : ((z:Int) == 0) = false:=(by rw [beq_eq_false_iff_ne]; omega);have HF:=Lib.hid (show trimZ l = l.take (j + 1) from by rw [← HT.out,hts,trimZ_snoc _ h0]);clear hts hz;go_wp2_with fail;go_ret;exact ⟨by rw [HF.out,htl]; rfl,rfl⟩
theorem mulGo_bd (m C:Nat) (hm : m ≤ C) : ∀ (l : List Nat) (c:Nat),(∀ x ∈ l,x < 10) → c ≤ C → (mulGo 10 m l c).2 ≤ C
 | [],c,_,hc => hc
 | x :: l,c,hl,hc => by
  unfold mulGo;have hx:=hl x (by simp);have h1 : x * m ≤ 9 * C:=Nat.mul_le_mul (by omega) hm;exact mulGo_bd m C hm l _ (fun y hy => hl y (by simp [hy])) (by omega)
theorem mulGo_all (N m n:Nat) (L : List Nat) (hL : L = dig 10 N) : trimZ ((mulGo 10 m L n).1 ++ dig 10 (mulGo 10 m L n).2) = dig 10 (N * m + n):=by
 subst hL;rw [trimZ_dig (B:=10) (by decide)]
 ·congr 1
  rw [V_append,mulGo_len,V_dig (by decide)];have:=mulGo_V 10 m (dig 10 N) n;rw [V_dig (by decide)] at this;exact this
 ·intro x hx;rcases List.mem_append.1 hx with h | h
  ·exact mulGo_lt (by decide) _ _ x h
  ·exact dig_lt (by decide) _ x h
theorem affine_any {w : World} (N m n:Nat) (A : Option Addr) (c:Nat) (hlen : (dig 10 N).length ≤ 10000) (hm : m ≤ 4294967296) (hn : n ≤ 4294967296) (hr : Row w A (i64s (dig 10 N))) :
  Calls Tryz.prog 50 #[.slice A (dig 10 N).length c,.int .i64 (m:Int),.int .i64 (n:Int)] w fun e w' => (∃ A' c',e = .returned (.slice A' (dig 10 (N * m + n)).length c')∧(dig 10 (N * m + n)).length ≤ c'∧Row w' A' (i64s (dig 10 (N * m + n))))∧Below w.heap.size w w':=by
 obtain ⟨iu,hiu,huz0,huz1,huz2⟩:=info_parts info_i64;obtain ⟨b,hbb⟩ : ∃ b,w.heap.size = b:=⟨_,rfl⟩;have HB:=Lib.hid hbb;clear hbb;obtain ⟨R,hR⟩ : ∃ R,dig 10 (N * m + n) = R:=⟨_,rfl⟩;rw [hR];have HL:=Lib.hid (fun x (hx : x ∈ dig 10 N) => dig_lt (B:=10) (by decide) N x hx);have HRR:=Lib.hid (fun L hL => (mulGo_all N m n L hL).trans hR);clear hR;obtain ⟨l,hl⟩ : ∃ l,dig 10 N = l:=⟨_,rfl⟩;rw [hl] at hlen hr HL ⊢;have HLN:=Lib.hid hl;clear hl;have HBD:=Lib.hid (fun k => mulGo_bd m 4294967296 hm (l.take k) n (fun x hx => HL.out x (List.mem_of_mem_take hx)) hn);go_enter Tryz.func50,Tryz.ntmps50;go_wp2_with fail
 go_loopw [2,7,12] (fun cr v i wr => ∃ (k q:Nat),k ≤ l.length∧i = .int .i64 (k:Int)∧cr = .int .i64 (q:Int)∧q ≤ 4294967296∧Hid (mulGo 10 m (l.take k) n = ((mulGo 10 m (l.take k) n).1,q))∧wr.ownsRow b 3 1 v k (i64s (mulGo 10 m (l.take k) n).1)∧Below b w wr) (fun _ _ i _ => l.length - (RowKit.intOf i).toNat)
 case atStart => exact ⟨0,n,Nat.zero_le _,rfl,rfl,hn,Lib.hid rfl,World.ownsRow_nil _ _ _ _,by rw [← HB.out]; exact Below.refl _ _⟩
 case round =>
  obtain ⟨k,q,hk,rfl,rfl,hq,HM,hown,hb⟩:=hrel;have hbs:=hb.size;rw [HB.out] at hbs
  by_cases hlt : k < l.length
  ·obtain ⟨b0,off,rfl,hcell⟩:=row_i64 (hr.keepB (by rw [HB.out]; exact hb)) hlt;have htk : l.take (k + 1) = l.take k ++ [l[k]]:=(by rw [List.take_add_one,List.getElem?_eq_getElem hlt]; rfl);obtain ⟨x,hx⟩ : ∃ x,l[k] = x:=⟨_,rfl⟩;have hx10 : x < 10:=hx ▸ HL.out _ (List.getElem_mem hlt);rw [hx] at hcell htk;have HTK:=Lib.hid htk;clear hx htk;have hxm : x * m ≤ 9 * 4294967296:=Nat.mul_le_mul (by omega) hm;have hP : (x:Int) * (m:Int) = ((x * m:Nat):Int):=(Int.natCast_mul x m).symm;have p2 : (0:Int) ≤ (x:Int) * (m:Int):=(by rw [hP]; omega);have p3 : (x:Int) * (m:Int) ≤ 38654705664:=(by rw [hP]; omega);have p0 : (0:Int) ≤ (q:Int) + (x:Int) * (m:Int):=(by omega);have p1 : (q:Int) + (x:Int) * (m:Int) ≤ 47244640256:=(by omega);have HP:=Lib.hid hP;clear hP;go_wp2_with (at_builtin; refine wpList_append_own_at _ rfl (.tmp 21) (.tmp 24) 52 rfl b 3 iu _ 1 8 Tryz.underlying52 hiu huz0 huz1 huz2 rfl (by decide) _ _ _ rfl (hown.alloc _) ⟨wr.heap.size,0,none⟩ 1 1 [_] rfl rfl (cell_one_new wr _ _) (by simp [Value.oneCell']) (by unfold maxLen; omega) (by omega) (by simp; omega) ?_; intro v2 w2 hown2 hg2 _ hat2);have hnew : mulGo 10 m (l.take (k + 1)) n = ((mulGo 10 m (l.take k) n).1 ++ [(q + x * m) % 10],(q + x * m) / 10):=by
    rw [HTK.out,mulGo_snoc,show (mulGo 10 m (l.take k) n).2 = q from congrArg Prod.snd HM.out]
   have hc1 : (((q:Int) + (x:Int) * (m:Int)) % 10) = (((q + x * m) % 10:Nat):Int):=(by rw [HP.out]; omega);have hc2 : (((q:Int) + (x:Int) * (m:Int)) / 10) = (((q + x * m) / 10:Nat):Int):=(by rw [HP.out]; omega);rw [hc1,← i64s_snoc] at hown2;rw [hc2];have hb2:=(hb.alloc hbs _).grown hg2 (by simp; omega) (fun g e => by have:=hown.lt g e; omega);have hq2 : (q + x * m) / 10 ≤ 4294967296:=by
    have:=HBD.out (k + 1);rw [hnew] at this;exact this
   go_roundw
   case rel => exact ⟨k + 1,(q + x * m) / 10,by omega,by go_num,rfl,hq2,Lib.hid (by rw [hnew]),by rw [hnew]; exact hown2,hb2⟩
   case measure => simp [RowKit.intOf]; omega
  ·have hkl : k = l.length:=(by omega);have HM2:=Lib.hid (show mulGo 10 m l n = ((mulGo 10 m (l.take k) n).1,q) from by rw [← HM.out,hkl,List.take_length]);obtain ⟨D,hD⟩ : ∃ D,(mulGo 10 m (l.take k) n).1 = D:=⟨_,rfl⟩;rw [hD] at HM2 hown;have hDl : D.length = k:=(by rw [← hD,mulGo_len,List.length_take]; omega);have hRD:=HRR.out l HLN.out.symm;rw [HM2.out] at hRD;simp only at hRD;have hq10 : (dig 10 q).length ≤ 10:=dig_len (by decide) 10 q (by omega);obtain ⟨E,hE⟩ : ∃ E,D ++ dig 10 q = E:=⟨_,rfl⟩;rw [hE] at hRD;have HRE:=Lib.hid hRD;have hEl : E.length ≤ 10010:=(by rw [← hE,List.length_append]; omega);rw [← hDl] at hown;have HE:=Lib.hid hE;clear hD hRD HM HM2 hkl hE hDl;go_wp2_with fail
   go_loopw [2,7] (fun cr v wr => ∃ (q:Nat) (D : List Nat),cr = .int .i64 (q:Int)∧q ≤ 4294967296∧Hid (D ++ dig 10 q = E)∧wr.ownsRow b 3 1 v D.length (i64s D)∧Below b w wr) (fun cr _ _ => (RowKit.intOf cr).toNat)
   case atStart => exact ⟨q,D,rfl,hq,HE,hown,hb⟩
   case round =>
    clear hown hb HE;obtain ⟨q,D,rfl,hq,HE,hown,hb⟩:=hrel;have hbs:=hb.size;rw [HB.out] at hbs
    by_cases h0 : 0 < q
    ·have h0' : decide ((0:Int) < (q:Int)) = true:=(by simp; omega);have hdq:=dig_pos (B:=10) (by decide) (n:=q) (by omega);have hE2 : (D ++ [q % 10]) ++ dig 10 (q / 10) = E:=(by rw [← HE.out,hdq]; simp);have hDl : D.length < 10010:=by
      have h3 : (D ++ dig 10 q).length = E.length:=(by rw [HE.out]);rw [hdq,List.length_append,List.length_cons] at h3;omega
     have HE2:=Lib.hid hE2;clear hE2 hdq;go_wp2_with (at_builtin; refine wpList_append_own_at _ rfl (.tmp 31) (.tmp 34) 52 rfl b 3 iu _ 1 8 Tryz.underlying52 hiu huz0 huz1 huz2 rfl (by decide) _ _ _ rfl (hown.alloc _) ⟨wr.heap.size,0,none⟩ 1 1 [_] rfl rfl (cell_one_new wr _ _) (by simp [Value.oneCell']) (by unfold maxLen; omega) (by omega) (by simp; omega) ?_; intro v2 w2 hown2 hg2 _ hat2);have hc1 : ((q:Int) % 10) = ((q % 10:Nat):Int):=(by omega);have hc2 : ((q:Int) / 10) = ((q / 10:Nat):Int):=(by omega);rw [hc1,← i64s_snoc] at hown2;rw [hc2];have hb2:=(hb.alloc hbs _).grown hg2 (by simp; omega) (fun g e => by have:=hown.lt g e; omega);have hq2 : q / 10 ≤ 4294967296:=(by omega);go_roundw
     case rel => exact ⟨q / 10,D ++ [q % 10],rfl,hq2,HE2,by rw [List.length_append]; exact hown2,hb2⟩
     case measure => simp [RowKit.intOf]; omega
    ·have h00 : q = 0:=(by omega);subst h00;have hED : E = D:=(by rw [← HE.out,dig_zero,List.append_nil]);subst hED;obtain ⟨A',c',rfl,hrow,hcap⟩:=own_form hown;have HT:=Lib.hid (dtrim_any E A' c' (by omega) hcap hrow);rw [HRE.out] at HT;go_wp2_with fail;refine HT.out.mono ?_;rintro e w3 ⟨rfl,rfl⟩;go_wp2_with fail;go_ret;refine ⟨⟨A',c',rfl,?_,?_⟩,by rw [HB.out]; exact hb⟩
     ·have h5:=trimZ_take E;rw [HRE.out] at h5;have h6 : R.length ≤ E.length:=(by rw [h5,List.length_take]; omega);omega
     ·have h5:=trimZ_take E;rw [HRE.out] at h5;rw [h5];have:=row_take hrow R.length;unfold i64s at this ⊢;rw [List.map_take];exact this
end
section
open Go.RowKit Go.Lib
def figs : List UInt8:=[48,49,50,51,52,53,54,55,56,57,97,98,99,100,101,102]
theorem run_upto (l : List UInt8) (i:Nat) (h2 : i ≤ l.length) (x:Int) (hx : x = (i:Int)) (W : World) :
  (Instr.slice 9 (.string ⟨l.toArray⟩) none (some (.int .i64 x)) none).run Tryz.prog W = .ok (.string ⟨(l.take i).toArray⟩) W:=by
 subst hx;rw [run_slice_string_to_if W 9 ⟨l.toArray⟩ .i64 _ Tryz.underlying9,if_pos (by simp [ByteArray.size]; omega),Int.toNat_natCast,extract_sub];simp
theorem ib_at (t : List UInt8) (c : UInt8) (k:Int) (h : Lib.indexByte t c = k) (W : World) : Calls Tryz.prog 87 #[.string ⟨t.toArray⟩,.int .u8 (c.toNat:Int)] W fun e w' => e = .returned (.int .i64 k)∧W = w' :=
 (Tryz.strings_IndexByte ⟨t.toArray⟩ (c.toNat:Int) W).mono fun _ _ h' => ⟨by rw [h'.1,Int.toNat_natCast,show c.toNat.toUInt8 = c from by simp,← h],h'.2.symm⟩
def DgPost (w : World) (R : Option Nat) (e : Ending) (w' : World) : Prop :=
 Below w.heap.size w w'∧match R with
 | none => e = .returned (.tuple #[.slice none 0 0,.bool false])
 | some n => ∃ A c,e = .returned (.tuple #[.slice A (dig 10 n).length c,.bool true])∧(dig 10 n).length ≤ c∧Row w' A (i64s (dig 10 n))
end
end Go.Proofs.YtonehlkiackhcaaGreatDoor

namespace Go.Proofs
open Go.Shelf
def Tryz.lays159_ren : Go.Shelf.Ren:=⟨fun | 159 => 168 | 165 => 105 | 166 => 62 | 167 => 77 | 169 => 66 | 230 => 201 | 204 => 202 | 240 => 99 | 241 => 140 | 197 => 84 | 118 => 220 | 168 => 79 | 270 => 221 | 262 => 222 | 276 => 133 | 277 => 179 | 260 => 121 | 242 => 46 | 313 => 238 | 278 => 89 | 274 => 247 | 275 => 248 | n => n,fun | 9 => 9 | 4 => 4 | 3 => 3 | 5 => 5 | 72 => 99 | 0 => 0 | 76 => 102 | 75 => 101 | 107 => 245 | 70 => 97 | 20 => 20 | 37 => 71 | 127 => 158 | 21 => 21 | 105 => 131 | 164 => 193 | 162 => 304 | 203 => 302 | 119 => 160 | 46 => 121 | 139 => 163 | 138 => 162 | 51 => 63 | 160 => 312 | 208 => 318 | 206 => 316 | 80 => 54 | n => n,fun | 13 => 8 | 3 => 0 | 4 => 1 | n => n⟩
def Tryz.lays143_ren : Go.Shelf.Ren:=⟨fun | 143 => 131 | 219 => 108 | 217 => 124 | 225 => 107 | 224 => 106 | 267 => 141 | 266 => 160 | 314 => 180 | n => n,fun | 9 => 9 | 3 => 3 | 4 => 4 | 5 => 5 | 46 => 121 | 146 => 198 | 51 => 63 | n => n,fun | 1 => 2 | n => n⟩
end Go.Proofs

namespace Go.Proofs.YtonehlkiackhcaaGreatDoor
open Go.RowKit Go.Lib
structure CEnv (w : World) : Prop where
 l : LEnv w
 cas : CaseVar 8 caseA w
theorem CEnv.keepB {w w' : World} (h : CEnv w) (hb : Below w.heap.size w w') : CEnv w':=⟨h.l.keepB hb,CaseVar_below h.cas hb⟩
end Go.Proofs.YtonehlkiackhcaaGreatDoor

namespace Go.Proofs.YtonehlkiackhcaaGreatDoor
open Go.RowKit Go.Lib
def escR (t : List UInt8) (i:Nat) (b : Bool) : Option (Nat × Nat) :=
 if at0 t (i + 1) = 110 then some (10,i + 2)
 else if at0 t (i + 1) = 116 then some (9,i + 2)
 else if at0 t (i + 1) = 92 then some (92,i + 2)
 else if at0 t (i + 1) = 34 then some (34,i + 2)
 else if at0 t (i + 1) = 39 then some (39,i + 2)
 else if at0 t (i + 1) = 120 then (if i + 4 ≤ t.length then (hexS (cutL t (i + 2) (i + 4))).map fun n => (n,i + 4) else none)
 else if at0 t (i + 1) = 117∧b = false∧at0 t (i + 2) = 123 then
  (if Lib.indexByte (t.drop (i + 3)) 125 < 1∨6 < Lib.indexByte (t.drop (i + 3)) 125 then none
   else match hexS (cutL t (i + 3) (i + 3 + (Lib.indexByte (t.drop (i + 3)) 125).toNat)) with
    | none => none
    | some n => if validR n = true then some (n,i + 4 + (Lib.indexByte (t.drop (i + 3)) 125).toNat) else none)
 else none
def escV (t : List UInt8) (i:Nat) (b : Bool) : Int × Int × Bool :=
 if at0 t (i + 1) = 110 then (10,(i:Int) + 2,true)
 else if at0 t (i + 1) = 116 then (9,(i:Int) + 2,true)
 else if at0 t (i + 1) = 92 then (92,(i:Int) + 2,true)
 else if at0 t (i + 1) = 34 then (34,(i:Int) + 2,true)
 else if at0 t (i + 1) = 39 then (39,(i:Int) + 2,true)
 else if at0 t (i + 1) = 120 then (if i + 4 ≤ t.length then (((hexS (cutL t (i + 2) (i + 4))).getD 0:Nat),(i:Int) + 4,(hexS (cutL t (i + 2) (i + 4))).isSome) else (0,0,false))
 else if at0 t (i + 1) = 117∧b = false∧at0 t (i + 2) = 123 then
  (if Lib.indexByte (t.drop (i + 3)) 125 < 1∨6 < Lib.indexByte (t.drop (i + 3)) 125 then (0,0,false)
   else (((hexS (cutL t (i + 3) (i + 3 + (Lib.indexByte (t.drop (i + 3)) 125).toNat))).getD 0:Nat),(i:Int) + 4 + ((Lib.indexByte (t.drop (i + 3)) 125).toNat:Nat),
    (hexS (cutL t (i + 3) (i + 3 + (Lib.indexByte (t.drop (i + 3)) 125).toNat))).isSome && validR ((hexS (cutL t (i + 3) (i + 3 + (Lib.indexByte (t.drop (i + 3)) 125).toNat))).getD 0)))
 else (0,0,false)
def EscRel (R : Option (Nat × Nat)) (V : Int × Int × Bool) : Prop:=match R with
 | some (n,j) => V = ((n:Int),(j:Int),true)
 | none => V.2.2 = false
def EscAt (w : World) (R : Int × Int × Bool) (e : Ending) (w' : World) : Prop :=
 e = .returned (.tuple #[.int .i32 R.1,.int .i64 R.2.1,.bool R.2.2])∧Below w.heap.size w w'
def EscPost (w : World) (R : Option (Nat × Nat)) (e : Ending) (w' : World) : Prop :=
 Below w.heap.size w w'∧match R with
 | some (n,j) => e = .returned (.tuple #[.int .i32 (n:Int),.int .i64 (j:Int),.bool true])
 | none => ∃ c j : Int,e = .returned (.tuple #[.int .i32 c,.int .i64 j,.bool false])
end Go.Proofs.YtonehlkiackhcaaGreatDoor

namespace Go.Proofs.YtonehlkiackhcaaGreatDoor
open Go.RowKit Go.Lib Go.Sort
def shtC (x : Sht) : Array Value:=#[.int .u8 (x.pre.toNat:Int),.int .u8 (x.quo.toNat:Int),.int .i64 (x.frm:Int),.int .i64 (x.lim:Int)]
def chO (R : Except Nat (Nat × Nat)) : Option (Nat × Nat):=match R with
 | .ok r => some r
 | .error _ => none
theorem EscPost.keep {w w1 : World} {R : Option (Nat × Nat)} {e : Ending} {w' : World} (hb : Below w.heap.size w w1) (h : EscPost w1 R e w') : EscPost w R e w' :=
 ⟨below_then hb h.1 hb.size,h.2⟩
end Go.Proofs.YtonehlkiackhcaaGreatDoor

namespace Go.Proofs.YtonehlkiackhcaaGreatDoor
open Go.Maps Go.RowKit
end Go.Proofs.YtonehlkiackhcaaGreatDoor

namespace Go.Proofs.YtonehlkiackhcaaGreatDoor
open Go.RowKit Go.Shelf Go.Lib Go.Maps
def opStr (op : List UInt8) : Value:=.string ⟨op.reverse.toArray⟩
def pairsD : DataW Unit:=((((((DataW.map []).put (.string [40]) (.lit (.int .i64 1))).put (.string [41]) (.lit (.int .i64 1))).put (.string [91]) (.lit (.int .i64 2))).put (.string [93]) (.lit (.int .i64 2))).put (.string [123]) (.lit (.int .i64 3))).put (.string [125]) (.lit (.int .i64 3))
def clB (x c : UInt8) : Bool:=(x == 40 && c == 41) || (x == 91 && c == 93) || (x == 123 && c == 125)
def OpOk (op : List UInt8) : Prop:=∀ x ∈ op,x = 40∨x = 91∨x = 123
theorem OpOk.step {op op' t : List UInt8} (h : OpOk op) (hb : bracket op t = some op') : OpOk op':=by
 have ht : ∀ x ∈ op.tail,x = 40∨x = 91∨x = 123:=fun x hx => h x (List.mem_of_mem_tail hx);unfold bracket at hb;split at hb
 ·rename_i h1;injection hb with hb;subst hb;intro x hx;rcases List.mem_cons.1 hx with e | e
  ·rcases h1 with rfl | rfl | rfl
   ·exact .inl e
   ·exact .inr (.inl e)
   ·exact .inr (.inr e)
  ·exact h x e
 ·split at hb
  ·split at hb
   ·injection hb with hb;subst hb;exact ht
   ·simp at hb
  ·split at hb
   ·split at hb
    ·injection hb with hb;subst hb;exact ht
    ·simp at hb
   ·split at hb
    ·split at hb
     ·injection hb with hb;subst hb;exact ht
     ·simp at hb
    ·injection hb with hb;subst hb;exact h
def brV (op : List UInt8) : Option (List UInt8) → Value
 | some op' => .tuple #[opStr op',.bool true]
 | none => .tuple #[opStr op,.bool false]
end Go.Proofs.YtonehlkiackhcaaGreatDoor

namespace Go.Proofs.YtonehlkiackhcaaGreatDoor
open Go.RowKit Go.Lib Go.Sort
def EndPost (w : World) (lim frm:Nat) (R : Except Nat Nat) (e : Ending) (w' : World) : Prop :=
 Below w.heap.size w w'∧match R with
 | .ok j => e = .returned (.tuple #[.int .i64 (j:Int),.bool true])∧j < lim
 | .error k => ∃ j : Nat,e = .returned (.tuple #[.int .i64 (j:Int),.bool false])∧(if lim ≤ j then frm else j) = k∧j ≤ 20000
theorem ib_not (s : List UInt8) (c : UInt8) (h : c ∉ s) : Lib.indexByte s c = -1:=by
 induction s with
 | nil => rfl
 | cons b s ih =>
  unfold Lib.indexByte;rw [if_neg (by rw [beq_iff_eq]; rintro rfl; exact h (by simp)),ih (fun e => h (by simp [e]))];rfl
def FeS (l : List UInt8) (x : Sht) (frm:Nat) (R : Except Nat Nat) (k:Nat) (op : List UInt8) (ins : UInt8) : Prop:=exprS l x frm (l.length + 1 - k) k op ins = R
end Go.Proofs.YtonehlkiackhcaaGreatDoor
