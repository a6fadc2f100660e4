/- Arguments that are slices of integers or of structs of integers read as lists. Nothing is claimed here. -/
import Derived.Test.YtonehlkiackhcaaGreatDoorLitLw
import Derived.Deep.Fields
import Derived.ProofKit
import Derived.OpenShut
set_option linter.unusedVariables false
set_option linter.unusedSimpArgs false
set_option maxRecDepth 100000
set_option maxHeartbeats 16000000
namespace Go.Proofs.YtonehlkiackhcaaGreatDoor
section
open Go.RowKit Go.Lib Go.Sort
theorem shown_charQ (r:Nat) (h : RuneOk r) : shownV 39 r (ctlB r) = charQ 39 ctlB r:=by
 unfold shownV charQ
 by_cases h10 : r = 10
 ·subst h10; decide
 ·by_cases h9 : r = 9
  ·subst h9; decide
  ·by_cases h92 : r = 92
   ·subst h92; decide
   ·by_cases h34 : r = 34
    ·subst h34; decide
    ·by_cases h39 : r = 39
     ·subst h39; decide
     ·have hne : runeB r ≠ [39]:=by
       intro e;have h1:=h.dec [];rw [List.append_nil,e] at h1;have h2 : decodeL [39] = (39,1):=(by decide);rw [h2] at h1;exact h39 (congrArg Prod.fst h1).symm
      rw [if_neg h10,if_neg h9,if_neg (show ¬ (r = 92∨runeB r = [39]) from by rintro (h | h); exact h92 h; exact hne h),if_neg (show ¬ ((r = 34∧(39:Nat) ≠ 34)∨(r = 39∧(39:Nat) ≠ 39)) from by rintro (⟨h,_⟩ | ⟨h,_⟩); exact h34 h; exact h39 h),if_neg h10,if_neg h9,if_neg h92,if_neg h34,if_neg h39]
theorem text_charQ : ∀ (rs : List Nat),(∀ r ∈ rs,RuneOk r) → rs.flatMap (fun r => shownV 39 r (ctlB r)) = rs.flatMap (charQ 39 ctlB)
 | [],_ => rfl
 | r :: rs,h => by rw [List.flatMap_cons,List.flatMap_cons,shown_charQ r (h r (by simp)),text_charQ rs (fun q hq => h q (by simp [hq]))]
def PsRel (ps : List Prt) (w : World) (s i : Value) (wr : World) : Prop :=
 ∃ k : Nat,k ≤ ps.length∧i = .int .i64 (k:Int)∧s = .string ⟨(joinT ps k).toArray⟩∧Blk wr w.heap.size 29 #[.int .i64 0,.int .i64 0]∧Below w.heap.size w wr
theorem partsShown_any (A : Option Addr) (c:Nat) (ps : List Prt) (w : World) (hl : ps.length ≤ 1000000) (hjl : (joinL ps).length ≤ 8000000) (ht : ∀ p ∈ ps,p.text.length ≤ 1048576∧p.spec.length ≤ 1048576) (hr : Row w A (ps.flatMap prtc)) (he : REnv w) :
  Calls Tryz.prog 19 #[.slice A ps.length c] w (LJPost w (ljoinR ps)):=by
 have hP:=Blk.new w 29 #[.int .i64 0,.int .i64 0];have hb0:=(Below.refl w.heap.size w).alloc (Nat.le_refl _) (.cells #[.int .i64 0,.int .i64 0] 29);have HJL:=hid (joinL_T ps);go_enter Tryz.func19,Tryz.ntmps19;go_wp2_with fail
 go_loopw [4,6,7,9,14] (fun s4 _ _ _ i wr => PsRel ps w s4 i wr) (fun _ _ _ _ i _ => ps.length - (RowKit.intOf i).toNat)
 case atStart => exact ⟨0,Nat.zero_le _,rfl,by simp [joinT],hP,hb0⟩
 case round =>
  obtain ⟨k,hk,rfl,rfl,hPr,hbr⟩:=hrel;clear hP hb0
  by_cases hlt : k < ps.length
  ·obtain ⟨b1,o1,rfl,hbb1,h1⟩:=(hr.keepB hbr).elem (f:=prtc) (s:=4) (fun _ => rfl) (by omega) hlt;obtain ⟨p,hp⟩ : ∃ p,ps[k] = p:=⟨_,rfl⟩;have hpk : ps[k]? = some p:=(by rw [List.getElem?_eq_getElem hlt,hp]);have hpt:=ht p (List.mem_of_getElem? hpk);have hnx:=joinT_next hpk;rw [hp] at h1;have hln:=joinT_len ps (k + 1);have hlo:=joinT_len ps k;obtain ⟨pf,pt,pc,pz⟩:=p;have e0:=h1 0 (.bool pf) (by omega) rfl;have e1:=h1 1 (.string ⟨pt.toArray⟩) (by omega) rfl;have e2:=h1 2 (.int .i64 pc) (by omega) rfl;have e3:=h1 3 (.string ⟨pz.toArray⟩) (by omega) rfl;rw [Nat.add_zero] at e0;clear h1 hp hpk;have hPa:=hPr.alloc (.cells #[.bool pf,.string ⟨pt.toArray⟩,.int .i64 pc,.string ⟨pz.toArray⟩] 91);have hTa:=Blk.new wr 91 #[.bool pf,.string ⟨pt.toArray⟩,.int .i64 pc,.string ⟨pz.toArray⟩];have hba:=hbr.alloc hbr.size (.cells #[.bool pf,.string ⟨pt.toArray⟩,.int .i64 pc,.string ⟨pz.toArray⟩] 91);have hpq : w.heap.size < wr.heap.size:=hPr.lt;obtain ⟨hpt1,hpt2⟩:=hpt;dsimp only at hpt1 hpt2;obtain ⟨O,hO⟩ : ∃ O,joinT ps k = O:=⟨_,rfl⟩;obtain ⟨N,hN⟩ : ∃ N,joinT ps (k + 1) = N:=⟨_,rfl⟩;rw [hO] at hlo hnx ⊢;rw [hN] at hnx hln;have HNN:=hid hN
   go_upto_region 5 with fail
   obtain ⟨wa,hwa⟩ : ∃ wa,wr.alloc (.cells #[.bool pf,.string ⟨pt.toArray⟩,.int .i64 pc,.string ⟨pz.toArray⟩] 91) = wa:=⟨_,rfl⟩;obtain ⟨pb,hpb⟩ : ∃ pb,wr.heap.size = pb:=⟨_,rfl⟩;rw [hwa] at hPa hTa hba ⊢;rw [hpb] at hTa hpq ⊢;clear hO hN hPr hbr hwa hpb e0 e1 e2 e3;obtain ⟨q1,q2,q3⟩:=hTa.rules;cases pf
   ·have hjq : joinP ⟨false,pt,pc,pz⟩ = repl ((runesL pt).flatMap (charQ 39 ctlB)):=rfl;have hok:=runes_ok pt;have hbs:=braces_same pt;rw [hjq,← hbs] at hnx;have htx : textV 39 (runesL pt) = 39 :: (runesL pt).flatMap (charQ 39 ctlB) ++ [39]:=(by unfold textV; rw [text_charQ _ hok]);have HTX:=hid (fun W => textShown_any 39 pt W hpt1);rw [htx] at HTX;obtain ⟨m,hm⟩ : ∃ m,(runesL pt).flatMap (charQ 39 ctlB) = m:=⟨_,rfl⟩;have hcf:=charQ_flat (runesL pt);have hrf:=runesF_len pt.length pt;rw [hm] at hcf hnx HTX;have hml : m.length ≤ 4194304:=by
     have h9 : (runesL pt).length ≤ pt.length:=hrf;omega
    obtain ⟨q,hq⟩ : ∃ q : List UInt8,39 :: m ++ [39] = q:=⟨_,rfl⟩;rw [hq] at HTX;have hqm : q.length = m.length + 2:=(by rw [← hq]; simp);have hqi : (q.drop 1).take (m.length + 1 - 1) = m:=(by rw [← hq]; simp);have hs:=run_sub q 1 (m.length + 1) (by omega) (by omega) 1 ((q.length:Int) - 1) rfl (by omega);rw [hqi] at hs;have hxt : ByteArray.extract ⟨q.toArray⟩ 1 (m.length + 1) = ⟨m.toArray⟩:=(by rw [extract_sub,hqi]);have hqw : IntKind.i64.wrap ((q.length:Int) - 1) = (q.length:Int) - 1:=IntWalk.i64_in _ (by omega);have HNX : Hid (O ++ (runesF m.length (m.drop 0)).flatMap twice = N):=hid (by rw [List.drop_zero]; exact hnx.symm);clear hjq hok hbs htx hm hcf hrf hq hnx hqi;go_wp2_with fail;refine (HTX.out _).mono ?_;rintro e w2 ⟨rfl,hbb⟩;have hP2:=hPa.belowS hbb;have hb2:=below_then hba hbb hba.size;clear hPa hba hbb hTa q1 q2 q3 HTX;go_wp2_with fail;have hit:=World.iter_heap w2 ⟨m.toArray⟩ 0;have hb3 : Below w.heap.size w (w2.iter ⟨m.toArray⟩ 0):=hb2.alloc hb2.size _;have hP3 : Blk (w2.iter ⟨m.toArray⟩ 0) w.heap.size 29 #[.int .i64 0,.int .i64 0]:=hP2.alloc _;have hw2 : w.heap.size < w2.heap.size:=hP2.lt
    go_loopw [4,9] (fun s4 _ wr => ∃ (pos f:Nat) (t : List UInt8),wr.heap[w2.heap.size]? = some (.stringIter ⟨m.toArray⟩ pos)∧Below w.heap.size w wr∧Blk wr w.heap.size 29 #[.int .i64 0,.int .i64 0]∧m.length ≤ pos + f∧pos ≤ m.length∧s4 = .string ⟨t.toArray⟩∧Hid (t ++ (runesF f (m.drop pos)).flatMap twice = N)) (fun _ _ wr => m.length - wr.iterPos w2.heap.size)
    case atStart => exact ⟨0,m.length,O,hit,hb3,hP3,by omega,Nat.zero_le _,rfl,HNX⟩
    case round =>
     clear hit hb3 hP3 HNX hb2 hP2;obtain ⟨pos,f,t,hit,hb,hPi,hf,hpl,rfl,HE⟩:=hrel
     by_cases hp : pos < m.length
     ·have hne : m.drop pos ≠ []:=(by intro e; have:=congrArg List.length e; rw [List.length_drop,List.length_nil] at this; omega);obtain ⟨r,n,hd⟩ : ∃ r n,decodeL (m.drop pos) = (r,n):=⟨_,_,rfl⟩;have hnx : ∀ ty,(Instr.next (.pointer (some ⟨w2.heap.size,0,none⟩)) true ty).run Tryz.prog wr = _:=fun ty => run_next_any_at wr w2.heap.size ⟨m.toArray⟩ pos ty hit hp;rw [decode_drop,hd] at hnx;have hw1:=width_pos _ hne;have hwl:=decodeL_width_le _ hne;have hrl:=decodeL_lt (m.drop pos);rw [hd] at hw1 hwl hrl;rw [List.length_drop] at hwl;dsimp only at hw1 hwl hrl;obtain ⟨f',rfl⟩ : ∃ f',f = f' + 1:=⟨f - 1,by omega⟩;have hE1 : (t ++ twice r) ++ (runesF f' (m.drop (pos + n))).flatMap twice = N:=by
       rw [← HE.out,runesF,if_neg hne,hd,List.flatMap_cons,List.drop_drop,List.append_assoc]
      have htN : (t ++ twice r).length ≤ N.length:=(by rw [← hE1]; simp only [List.length_append]; omega);have hul:=runeB_len r;have hcv:=fun W => run_rune_str r W;have htw : twice r = runeB r ++ (if r = 123∨r = 125 then runeB r else []):=rfl;obtain ⟨U,hU⟩ : ∃ U,runeB r = U:=⟨_,rfl⟩;rw [hU] at hul hcv htw;rw [htw] at hE1 htN;have hpn : pos + n ≤ m.length:=(by omega);have HI:=hid hit;have htl : t.length + U.length ≤ 8000001:=by
       rw [List.length_append,List.length_append] at htN;omega
      have hadd : ∀ W : World,(Op.stringOp .add ⟨t.toArray⟩ ⟨U.toArray⟩).run Tryz.prog W = .ok (.string ⟨(t ++ U).toArray⟩) W:=fun W => run_string_add_lists W t U (by omega) (by omega);obtain ⟨T,hT⟩ : ∃ T,t ++ U = T:=⟨_,rfl⟩;have hTl : T.length ≤ 8000001:=(by rw [← hT,List.length_append]; omega);rw [hT] at hadd;have hadd2 : ∀ W : World,(Op.stringOp .add ⟨T.toArray⟩ ⟨U.toArray⟩).run Tryz.prog W = .ok (.string ⟨(T ++ U).toArray⟩) W:=fun W => run_string_add_lists W T U (by omega) (by omega);obtain ⟨T2,hT2⟩ : ∃ T2,T ++ U = T2:=⟨_,rfl⟩;rw [hT2] at hadd2;rw [← List.append_assoc,hT] at hE1;have HE1:=hid hE1;have HT2:=hid hT2;clear hU htw htN hE1 hT hT2 hd hit HE
      go_upto_region 15 with fail
      obtain ⟨W1,hW1⟩ : ∃ W1,wr.iterAt w2.heap.size ⟨m.toArray⟩ (pos + n) = W1:=⟨_,rfl⟩;have hb1 : Below w.heap.size w W1:=(by rw [← hW1]; exact below_iterAt hb (by omega) _ _);have hit1 : W1.heap[w2.heap.size]? = some (.stringIter ⟨m.toArray⟩ (pos + n)):=(by rw [← hW1]; exact iterAt_heap _ _ _ _ _ HI.out);have hP1 : Blk W1 w.heap.size 29 #[.int .i64 0,.int .i64 0]:=(by rw [← hW1]; exact (iterAt_other _ _ _ _ _ (by omega)).trans hPi);rw [hW1];have HI1:=hid hit1;clear hW1 hnx hit1 hb hPi;have hms : m.length - W1.iterPos w2.heap.size < m.length - wr.iterPos w2.heap.size:=by
       unfold World.iterPos;rw [HI1.out,HI.out];simp only;omega
      have HMS:=hid hms;clear hms HI
      by_cases h1 : r = 123
      ·have HE2 : Hid (T2 ++ (runesF f' (m.drop (pos + n))).flatMap twice = N):=hid (by rw [← HE1.out,if_pos (.inl h1),HT2.out]);have b1 : ((r:Int) == 123) = true:=(by rw [beq_iff_eq]; omega);clear h1 HE1 HT2;go_wp2_with fail;go_roundw
       case rel => exact ⟨pos + n,f',T2,HI1.out,hb1,hP1,by omega,hpn,rfl,HE2⟩
       case measure => exact HMS.out
      ·have b1 : ((r:Int) == 123) = false:=by rw [beq_eq_false_iff_ne]; omega
       by_cases h2 : r = 125
       ·have HE2 : Hid (T2 ++ (runesF f' (m.drop (pos + n))).flatMap twice = N):=hid (by rw [← HE1.out,if_pos (.inr h2),HT2.out]);have b2 : ((r:Int) == 125) = true:=(by rw [beq_iff_eq]; omega);clear h1 h2 HE1 HT2;go_wp2_with fail;go_roundw
        case rel => exact ⟨pos + n,f',T2,HI1.out,hb1,hP1,by omega,hpn,rfl,HE2⟩
        case measure => exact HMS.out
       ·have b2 : ((r:Int) == 125) = false:=(by rw [beq_eq_false_iff_ne]; omega);have HE2 : Hid (T ++ (runesF f' (m.drop (pos + n))).flatMap twice = N):=hid (by rw [← HE1.out,if_neg (by rintro (h | h); exact h1 h; exact h2 h),List.append_nil]);clear h1 h2 HE1 HT2 hadd2;go_wp2_with fail;go_roundw
        case rel => exact ⟨pos + n,f',T,HI1.out,hb1,hP1,by omega,hpn,rfl,HE2⟩
        case measure => exact HMS.out
     ·have hnx : ∀ ty,(Instr.next (.pointer (some ⟨w2.heap.size,0,none⟩)) true ty).run Tryz.prog wr = _:=fun ty => run_next_end_at wr w2.heap.size ⟨m.toArray⟩ pos ty hit hp;obtain rfl : pos = m.length:=(by omega);have HN2:=hid (show t = joinT ps (k + 1) from by
       rw [HNN.out,← HE.out,List.drop_length];cases f <;> simp [runesF])
      clear hit HE;go_wp2_with fail;go_roundw
      case rel => exact ⟨k + 1,by omega,by go_num,by rw [← HN2.out],hPi,hb⟩
      case measure => simp [RowKit.intOf]; omega
   ·obtain ⟨x,hx⟩ : ∃ x,UInt8.ofNat (pc % 256).toNat = x:=⟨_,rfl⟩;have hxn : (x.toNat:Int) = pc % 256:=(by rw [← hx]; simp [UInt8.toNat_ofNat']; omega);have HCV : ∀ W : World,(convert 71 9 (.slice (some ⟨W.heap.size,0,none⟩) 1 1)).run Tryz.prog (W.alloc (.cells #[.int .u8 (pc % 256)] 5)) = .ok (.string ⟨#[x]⟩) (W.alloc (.cells #[.int .u8 (pc % 256)] 5)):=fun W => by rw [← hxn]; exact conv_one x W
    have hjp : joinP ⟨true,pt,pc,pz⟩ = [123] ++ pt ++ (if pc ≠ 0 then [33,x] else []) ++ (if pz ≠ [] then [58] ++ pz else []) ++ [125]:=(by unfold joinP; rw [if_pos rfl,hx]);rw [hjp] at hnx;have hPy:=hPa.alloc (.cells #[.int .u8 (pc % 256)] 5);have hby:=hba.alloc hba.size (.cells #[.int .u8 (pc % 256)] 5);clear hx hxn hjp
    by_cases hc : pc = 0
    ·by_cases hz : pz = []
     ·have hfin : ((⟨O.toArray⟩ : ByteArray) ++ (⟨#[123]⟩ ++ ⟨pt.toArray⟩) ++ ⟨#[125]⟩) = ⟨(joinT ps (k + 1)).toArray⟩:=by
       rw [HNN.out,hnx,if_neg (by simpa using hc),if_neg (by simpa using hz),cat_any,cat_any,cat_any];simp
      have HF:=hid hfin;subst hc;subst hz;clear hfin hnx;go_wp2_with fail;go_roundw
      case rel => exact ⟨k + 1,by omega,by go_num,by rw [HF.out],hPa,hba⟩
      case measure => simp [RowKit.intOf]; omega
     ·have hfin : ((⟨O.toArray⟩ : ByteArray) ++ (⟨#[123]⟩ ++ ⟨pt.toArray⟩) ++ (⟨#[58]⟩ ++ ⟨pz.toArray⟩) ++ ⟨#[125]⟩) = ⟨(joinT ps (k + 1)).toArray⟩:=by
       rw [HNN.out,hnx,if_neg (by simpa using hc),if_pos hz,cat_any,cat_any,cat_any,cat_any,cat_any];simp
      have HF:=hid hfin;have hzb : (pz == []) = false:=(by rw [beq_eq_false_iff_ne]; exact hz);have hzb2 : (pz != []) = true:=(by rw [bne_iff_ne]; exact hz);have hzb3 : pz.isEmpty = false:=by cases pz with
       | nil => exact absurd rfl hz
       | cons a r => rfl
      subst hc;clear hfin hnx hz;go_wp2_with fail;go_roundw
      case rel => exact ⟨k + 1,by omega,by go_num,by rw [HF.out],hPa,hba⟩
      case measure => simp [RowKit.intOf]; omega
    ·have hcb : ((pc:Int) != 0) = true:=(by rw [bne_iff_ne]; exact hc);have hcb2 : ((pc:Int) == 0) = false:=by rw [beq_eq_false_iff_ne]; exact hc
     by_cases hz : pz = []
     ·have hfin : ((⟨O.toArray⟩ : ByteArray) ++ (⟨#[123]⟩ ++ ⟨pt.toArray⟩) ++ (⟨#[33]⟩ ++ ⟨#[x]⟩) ++ ⟨#[125]⟩) = ⟨(joinT ps (k + 1)).toArray⟩:=by
       rw [HNN.out,hnx,if_pos hc,if_neg (by simpa using hz),cat_any,cat_any,cat_any,cat_any,cat_any];simp
      have HF:=hid hfin;subst hz;clear hfin hnx hc;go_wp2_with fail;go_roundw
      case rel => exact ⟨k + 1,by omega,by go_num,by rw [HF.out],hPy,hby⟩
      case measure => simp [RowKit.intOf]; omega
     ·have hfin : ((⟨O.toArray⟩ : ByteArray) ++ (⟨#[123]⟩ ++ ⟨pt.toArray⟩) ++ (⟨#[33]⟩ ++ ⟨#[x]⟩) ++ (⟨#[58]⟩ ++ ⟨pz.toArray⟩) ++ ⟨#[125]⟩) = ⟨(joinT ps (k + 1)).toArray⟩:=by
       rw [HNN.out,hnx,if_pos hc,if_pos hz,cat_any,cat_any,cat_any,cat_any,cat_any,cat_any,cat_any];simp
      have HF:=hid hfin;have hzb : (pz == []) = false:=(by rw [beq_eq_false_iff_ne]; exact hz);have hzb2 : (pz != []) = true:=(by rw [bne_iff_ne]; exact hz);have hzb3 : pz.isEmpty = false:=by cases pz with
       | nil => exact absurd rfl hz
       | cons a r => rfl
      clear hfin hnx hz hc;go_wp2_with fail;go_roundw
      case rel => exact ⟨k + 1,by omega,by go_num,by rw [HF.out],hPy,hby⟩
      case measure => simp [RowKit.intOf]; omega
  ·obtain rfl : k = ps.length:=(by omega);have hlo:=joinT_len ps ps.length;have hjt:=HJL.out;have hR0 : ljoinR ps = (if 16000 < (joinL ps).length then (([] : List UInt8),(14:Int),(-1:Int)) else match partsS (joinL ps) with
    | .error _ => (([] : List UInt8),(6:Int),(-1:Int))
    | .ok m => if ps = m then (joinL ps,(0:Int),(0:Int)) else (([] : List UInt8),(6:Int),(-1:Int))):=rfl
   obtain ⟨O,hO⟩ : ∃ O,joinT ps ps.length = O:=⟨_,rfl⟩;rw [hO] at hlo hjt ⊢;have hadd : ∀ W : World,(Op.stringOp .add ⟨O.toArray⟩ ⟨#[39]⟩).run Tryz.prog W = .ok (.string ⟨(O ++ [39]).toArray⟩) W:=fun W => run_string_add_lists W O [39] (by omega) (by simp);rw [← hjt] at hadd;obtain ⟨J,hJ⟩ : ∃ J,joinL ps = J:=⟨_,rfl⟩;rw [hJ] at hadd hR0 hjl;obtain ⟨R,hR⟩ : ∃ R,ljoinR ps = R:=⟨_,rfl⟩;rw [hR] at hR0;unfold LJPost;have HR:=hid hR0;have HRR:=hid hR;clear hR0 hR hJ hjt hO hlo HJL
   by_cases h16 : 16000 < J.length
   ·have h16i : (16000:Int) < (J.length:Int):=(by omega);have HX : Hid (R = ([],14,-1)):=hid (by rw [HR.out,if_pos h16]);clear h16 HR;go_wp2_with fail;refine (atR_any 14 (-1) _).mono ?_;rintro e w9 ⟨rfl,hb9⟩;have hP9:=(hPr).belowS hb9;have hbb9:=below_then hbr hb9 (hbr).size;obtain ⟨p1,p2,p3⟩:=hP9.rules;unfold flt;go_wp2_with fail;exact ret_tmp_blk rfl rfl ((hP9.set_ 0 (.int .i64 14)).set_ 1 (.int .i64 (-1))) _ Tryz.underlying29 rfl (by kernel_rfl) rfl _ rfl ⟨(by rw [HRR.out,HX.out]; rfl),(hbb9.setCell (p:=⟨w.heap.size,0,none⟩) (Nat.le_refl _) _).setCell (p:=⟨w.heap.size,1,none⟩) (Nat.le_refl _) _⟩
   ·have h16i : ¬ (16000:Int) < (J.length:Int):=(by omega);have HR2:=hid (HR.out.trans (if_neg h16));clear h16 HR;go_wp2_with fail;refine (partsOf_any J wr (by omega) (he.keepB hbr)).mono ?_;rintro e w2 ⟨ba,hpost⟩;have hP2:=hPr.belowS ba;have hb2:=below_then hbr ba hbr.size;have hr2:=hr.keepB hb2;clear ba hPr hbr;obtain ⟨Q,hQ⟩ : ∃ Q,partsS J = Q:=⟨_,rfl⟩;rw [hQ] at hpost HR2;rcases Q with ⟨fc,fi⟩ | m
    ·have hfc:=parts_err hQ;obtain rfl:=hpost;have HX : Hid (R = ([],6,-1)):=HR2;have hF:=Blk.new w2 29 #[.int .i64 fc,.int .i64 fi];have hP3:=hP2.alloc (.cells #[.int .i64 fc,.int .i64 fi] 29);have hb3:=hb2.alloc hb2.size (.cells #[.int .i64 fc,.int .i64 fi] 29);have hfb : ((fc:Int) != 0) = true:=(by rw [bne_iff_ne]; exact hfc);have hfb2 : ((fc:Int) == 0) = false:=(by rw [beq_eq_false_iff_ne]; exact hfc);clear hfc hQ HR2;unfold flt;obtain ⟨q1,q2,q3⟩:=hF.rules
     go_upto_region 25 with fail
     go_wp2_with fail;clear q1 q2 q3 hF;refine (atR_any 6 (-1) _).mono ?_;rintro e w9 ⟨rfl,hb9⟩;have hP9:=(hP3).belowS hb9;have hbb9:=below_then hb3 hb9 (hb3).size;obtain ⟨p1,p2,p3⟩:=hP9.rules;unfold flt;go_wp2_with fail;exact ret_tmp_blk rfl rfl ((hP9.set_ 0 (.int .i64 6)).set_ 1 (.int .i64 (-1))) _ Tryz.underlying29 rfl (by kernel_rfl) rfl _ rfl ⟨(by rw [HRR.out,HX.out]; rfl),(hbb9.setCell (p:=⟨w.heap.size,0,none⟩) (Nat.le_refl _) _).setCell (p:=⟨w.heap.size,1,none⟩) (Nat.le_refl _) _⟩
    ·obtain ⟨vm,rfl,hown⟩:=hpost;obtain ⟨B,d,rfl,_,_⟩:=own_form hown;have hrm:=Row.of_own hown;have hF:=Blk.new w2 29 #[.int .i64 0,.int .i64 0];have hP3:=hP2.alloc (.cells #[.int .i64 0,.int .i64 0] 29);have hb3:=hb2.alloc hb2.size (.cells #[.int .i64 0,.int .i64 0] 29);have bb:=(Below.refl w2.heap.size w2).alloc (Nat.le_refl _) (.cells #[.int .i64 0,.int .i64 0] 29);have hr3:=hr2.keepB bb;have hm3:=hrm.keepB bb;have hml:=partsS_len hQ;clear hQ hown bb hrm hr2 hP2 hb2;unfold flt;obtain ⟨q1,q2,q3⟩:=hF.rules;go_wp2_with fail;refine (sameParts_all ps m A B c d (by omega) (by omega) hr3 hm3).mono ?_;rintro e w4 ⟨rfl,ba⟩;have hP4:=hP3.belowS ba;have hb4:=below_then hb3 ba hb3.size;clear ba hP3 hb3 q1 q2 q3 hF hr3 hm3
     by_cases hpm : ps = m
     ·have HX : Hid (R = (J,0,0)):=hid (by rw [HR2.out]; exact if_pos hpm);rw [decide_eq_true hpm];clear HR2;obtain ⟨p1,p2,p3⟩:=hP4.rules;go_wp2_with fail;exact ret_tmp_blk rfl rfl ((hP4.set_ 0 (.int .i64 0)).set_ 1 (.int .i64 0)) _ Tryz.underlying29 rfl (by kernel_rfl) rfl _ rfl ⟨by rw [HRR.out,HX.out]; rfl,(hb4.setCell (p:=⟨w.heap.size,0,none⟩) (Nat.le_refl _) _).setCell (p:=⟨w.heap.size,1,none⟩) (Nat.le_refl _) _⟩
     ·have HX : Hid (R = ([],6,-1)):=hid (by rw [HR2.out]; exact if_neg hpm);rw [decide_eq_false hpm];clear HR2 hpm;go_wp2_with fail;refine (atR_any 6 (-1) _).mono ?_;rintro e w9 ⟨rfl,hb9⟩;have hP9:=(hP4).belowS hb9;have hbb9:=below_then hb4 hb9 (hb4).size;obtain ⟨p1,p2,p3⟩:=hP9.rules;unfold flt;go_wp2_with fail;exact ret_tmp_blk rfl rfl ((hP9.set_ 0 (.int .i64 6)).set_ 1 (.int .i64 (-1))) _ Tryz.underlying29 rfl (by kernel_rfl) rfl _ rfl ⟨(by rw [HRR.out,HX.out]; rfl),(hbb9.setCell (p:=⟨w.heap.size,0,none⟩) (Nat.le_refl _) _).setCell (p:=⟨w.heap.size,1,none⟩) (Nat.le_refl _) _⟩
theorem esc_low : ∀ i : Fin 10,(at0 [10,110,9,116,92,92,34,34,39,39] i.val).toNat < 128:=by decide
theorem ib_high : ∀ (t : List UInt8) (c : UInt8),(∀ x ∈ t,x ≠ c) → Lib.indexByte t c = -1
 | [],c,_ => rfl
 | x :: t,c,h => by
  unfold Lib.indexByte;rw [if_neg (by have:=h x (by simp); simpa using this)];rw [ib_high t c (fun y hy => h y (by simp [hy]))];rfl
theorem ir_high (r:Nat) (hr : RuneOk r) (h128 : 128 ≤ r) : IrOk r:=by
 intro W;have hul:=runeB_len r;have hhi:=hr.hi h128;have hlt:=hr.lt;have b1 : decide ((0:Int) ≤ (r:Int)) = true:=decide_eq_true (by omega);have b2 : decide ((r:Int) < 128) = false:=decide_eq_false (by omega)
 by_cases he : r = 65533
 ·subst he;clear hul hhi hlt hr b1 b2;have HAT:=hid (fun (k:Nat) (hk : k < 10) => esc_low ⟨k,hk⟩);go_enter Tryz.func78,Tryz.ntmps78;go_wp2_with fail
  go_loopw [5,6] (fun _ _ wr => ∃ pos : Nat,pos ≤ 10∧wr.heap[W.heap.size]? = some (.stringIter ⟨#[10,110,9,116,92,92,34,34,39,39]⟩ pos)∧Below W.heap.size W wr) (fun _ _ wr => 10 - wr.iterPos W.heap.size)
  case atStart => exact ⟨0,Nat.zero_le _,World.iter_heap W _ 0,(Below.refl _ W).alloc (Nat.le_refl _) _⟩
  case round =>
   obtain ⟨pos,hpl,hit,hb⟩:=hrel
   by_cases hp : pos < 10
   ·have hnx : ∀ ty,(Instr.next (.pointer (some ⟨W.heap.size,0,none⟩)) true ty).run Tryz.prog wr = _:=fun ty => run_next_any_at wr W.heap.size ⟨#[10,110,9,116,92,92,34,34,39,39]⟩ pos ty hit (by show pos < 10; exact hp);have hd : Utf8.decode ⟨#[10,110,9,116,92,92,34,34,39,39]⟩ pos = ((at0 [10,110,9,116,92,92,34,34,39,39] pos).toNat,1):=by
     have : ∀ i : Fin 10,Utf8.decode ⟨#[10,110,9,116,92,92,34,34,39,39]⟩ i.val = ((at0 [10,110,9,116,92,92,34,34,39,39] i.val).toNat,1):=(by decide);exact this ⟨pos,hp⟩
    rw [hd] at hnx;have hlo:=HAT.out pos hp;obtain ⟨c,hc⟩ : ∃ c,(at0 [10,110,9,116,92,92,34,34,39,39] pos).toNat = c:=⟨_,rfl⟩;rw [hc] at hnx hlo;have bc : ((c:Int) == 65533) = false:=(by rw [beq_eq_false_iff_ne]; omega);have HI:=hid hit;clear hd hc hit
    go_upto_region 39 with fail
    obtain ⟨W1,hW1⟩ : ∃ W1,wr.iterAt W.heap.size ⟨#[10,110,9,116,92,92,34,34,39,39]⟩ (pos + 1) = W1:=⟨_,rfl⟩;have hb1 : Below W.heap.size W W1:=(by rw [← hW1]; exact below_iterAt hb (Nat.le_refl _) _ _);have hit1 : W1.heap[W.heap.size]? = some (.stringIter ⟨#[10,110,9,116,92,92,34,34,39,39]⟩ (pos + 1)):=(by rw [← hW1]; exact iterAt_heap _ _ _ _ _ HI.out);rw [hW1];have HI1:=hid hit1;clear hW1 hnx hit1 hb;go_wp2_with fail;go_roundw
    case rel => exact ⟨pos + 1,by omega,HI1.out,hb1⟩
    case measure =>
     unfold World.iterPos;rw [HI1.out,HI.out];simp only;omega
   ·have hnx : ∀ ty,(Instr.next (.pointer (some ⟨W.heap.size,0,none⟩)) true ty).run Tryz.prog wr = _:=fun ty => run_next_end_at wr W.heap.size ⟨#[10,110,9,116,92,92,34,34,39,39]⟩ pos ty hit (by show ¬ pos < 10; exact hp);clear hit;go_wp2_with fail;go_ret;exact ⟨-1,rfl,hb,fun h => absurd h (by decide)⟩
 ·have be : ((r:Int) == 65533) = false:=(by rw [beq_eq_false_iff_ne]; omega);have HV:=hid (validR_any r W);have hcv:=fun W => run_rune_str r W;cases hv : validR r
  ·rw [hv] at HV;clear hv hul hhi hcv;go_enter Tryz.func78,Tryz.ntmps78;go_wp2_with fail;refine HV.out.mono ?_;rintro e w2 ⟨rfl,rfl⟩;go_wp2_with fail;go_ret;exact ⟨-1,rfl,Below.refl _ _,fun h => absurd h (by omega)⟩
  ·rw [hv] at HV;obtain ⟨U,hU⟩ : ∃ U,runeB r = U:=⟨_,rfl⟩;rw [hU] at hcv hul hhi;obtain ⟨i,hi⟩ : ∃ i,U.length = i + 1:=⟨U.length - 1,by omega⟩;have hi4 : i < 4:=(by omega);have hc : at0 U i ∈ U:=(by rw [at0_lt U i (by omega)]; exact List.getElem_mem _);have hc128:=hhi _ hc;have hx2:=run_idx U i (by omega) (i:Int) rfl;have hx1:=run_idx [10,110,9,116,92,92,34,34,39,39] i (by simp; omega) (i:Int) rfl;have hlo:=esc_low ⟨i,by omega⟩;have ht:=run_tail [10,110,9,116,92,92,34,34,39,39] (i + 1) (by simp; omega) ((i:Int) + 1) (by omega);have hmem : ∀ x ∈ ([10,110,9,116,92,92,34,34,39,39] : List UInt8).drop (i + 1),x ≠ at0 U i:=by
    intro x hx e;have h1:=List.mem_of_mem_drop hx;have h2 : ∀ y ∈ ([10,110,9,116,92,92,34,34,39,39] : List UInt8),y.toNat < 128:=(by decide);have h3:=h2 x h1;rw [e] at h3;omega
   have HIB:=hid (fun W' => ib_at (([10,110,9,116,92,92,34,34,39,39] : List UInt8).drop (i + 1)) (at0 U i) (-1) (ib_high _ _ hmem) W');obtain ⟨D,hD⟩ : ∃ D,([10,110,9,116,92,92,34,34,39,39] : List UInt8).drop (i + 1) = D:=⟨_,rfl⟩;rw [hD] at ht HIB;simp only at hlo;obtain ⟨c,hce⟩ : ∃ c,at0 U i = c:=⟨_,rfl⟩;obtain ⟨d,hde⟩ : ∃ d,at0 [10,110,9,116,92,92,34,34,39,39] i = d:=⟨_,rfl⟩;rw [hce] at hx2 HIB hc128;rw [hde] at hx1 hlo;have hcd : ((d.toNat:Int) == (c.toNat:Int)) = false:=(by rw [beq_eq_false_iff_ne]; omega);have hcd2 : ((d.toNat:Int) != (c.toNat:Int)) = true:=(by rw [bne_iff_ne]; omega);have hui : (U.length:Int) - 1 = (i:Int):=(by omega);have hi10 : (i:Int) < 10:=(by omega);have wi : IntKind.i64.wrap ((i:Int) + 1) = (i:Int) + 1:=IntWalk.i64_in _ (by omega);clear hv hul hhi hU hc hmem hD hce hde;go_enter Tryz.func78,Tryz.ntmps78;go_wp2_with fail;refine HV.out.mono ?_;rintro e w2 ⟨rfl,rfl⟩;go_wp2_with fail;refine wp_scope_straight ?_;go_wp2_with fail;refine wp_loop_rounds 1 ?_;rw [rounds_succ];go_wp2_with fail;refine wp_scope_straight ?_;go_wp2_with fail;go_quiet (fail);go_wp2_with fail;generalize hw : World.drewN W _ = W2;have HW:=hid hw;clear hw;go_quiet ((go_at_call 87; exact quiet_left (HIB.out _)));go_wp2_with fail;simp only [Exit.noGoto,Exit.inBlock,Exit.then];go_ret;exact ⟨-1,rfl,below_drewN (by rw [← HW.out]; exact below_drewN (Below.refl _ _) _) _,fun h => absurd h (by omega)⟩
theorem charQ_two (r:Nat) (h : RuneOk r) : (repl (charQ 39 ctlB r)).length ≤ 4:=by
 by_cases h1 : r < 128
 ·have : ∀ i : Fin 128,(repl (charQ 39 ctlB i.val)).length ≤ 4:=(by decide +kernel);exact this ⟨r,h1⟩
 ·have hself : (repl (runeB r)).length ≤ 4:=by
   rw [repl_high _ (h.hi (by omega))];exact (runeB_len r).2
  unfold charQ;rw [if_neg (by rintro (⟨h,_⟩ | ⟨h,_⟩) <;> omega),if_neg (by omega),if_neg (by omega),if_neg (by omega),if_neg (by omega),if_neg (by omega)];split
  ·rename_i hr;have h256:=ctl_256 r hr;have hx : ∀ i j : Fin 16,(repl [92,120,hexC i.val,hexC j.val]).length ≤ 4:=(by decide +kernel);exact hx ⟨r / 16,by omega⟩ ⟨r % 16,by omega⟩
  ·exact hself
theorem two_flat : ∀ (rs : List Nat),(∀ r ∈ rs,RuneOk r) → (repl (rs.flatMap (charQ 39 ctlB))).length ≤ 4 * rs.length
 | [],_ => by simp [repl]
 | r :: rs,h => by
  have h1:=charQ_two r (h r (by simp));have h2:=two_flat rs (fun q hq => h q (by simp [hq]));rw [List.flatMap_cons,repl_app,List.length_append,List.length_cons];omega
theorem joinP_len (p : Prt) : (joinP p).length ≤ 4 * (p.text.length + p.spec.length + 5):=by
 obtain ⟨f,t,c,z⟩:=p;cases f
 ·show (repl ((runesL t).flatMap (charQ 39 ctlB))).length ≤ 4 * (t.length + z.length + 5);have h1:=two_flat (runesL t) (runes_ok t);have h2 : (runesL t).length ≤ t.length:=runesF_len t.length t;omega
 ·unfold joinP;rw [if_pos rfl];simp only [List.length_append];split <;> split <;> simp <;> omega
def partBulk (ps : List Prt) : Nat:=(ps.map fun p => p.text.length + p.spec.length + 5).foldr (· + ·) 0
theorem joinL_bulk (ps : List Prt) : (joinL ps).length ≤ 4 * partBulk ps + 3:=by
 have h : (ps.flatMap joinP).length ≤ 4 * partBulk ps:=by
  induction ps with
  | nil => simp
  | cons p ps ih =>
   have hp:=joinP_len p;rw [List.flatMap_cons,List.length_append];show _ ≤ 4 * ((p.text.length + p.spec.length + 5) + partBulk ps);omega
 unfold joinL;rw [List.length_append,List.length_append];have e1 : ([102,39] : List UInt8).length = 2:=rfl;have e2 : ([39] : List UInt8).length = 1:=rfl;omega
theorem ljoin_case {ps : List Prt} {f : List UInt8} {fc fi : Int} (h : ljoinR ps = (f,fc,fi)) : (fc ≠ 0∧f.length ≤ 16000)∨(fc = 0∧fi = 0∧f.length ≤ 16000∧partsS f = .ok ps):=by
 unfold ljoinR at h;split at h
 ·cases h; exact .inl ⟨by decide,by simp⟩
 ·split at h
  ·cases h; exact .inl ⟨by decide,by simp⟩
  ·rename_i m hm;split at h
   ·rename_i he;subst he;cases h;exact .inr ⟨rfl,rfl,by omega,hm⟩
   ·cases h; exact .inl ⟨by decide,by simp⟩
theorem joinsLaw_lit (A : Option Addr) (c:Nat) (ps : List Prt) (w : World) (hl : ps.length ≤ 1000000) (hjl : (joinL ps).length ≤ 8000000) (ht : ∀ p ∈ ps,p.text.length ≤ 1048576∧p.spec.length ≤ 1048576) (hr : Row w A (ps.flatMap prtc)) (he : REnv w) (htab : Lib.TabIs Tryz.prog w "internal/strconv.uint64pow10" .u64 Lib.pow10Tab) :
  Calls Tryz.prog 6 #[.slice A ps.length c] w fun e w' => e = .returned (.bool true)∧RowKit.Below w.heap.size w w':=by
 have hir : ∀ p ∈ ps,p.text.length ≤ 2097152∧p.spec.length ≤ 2097152∧(p.field = false → ∀ r ∈ runesL p.text,IrOk r):=fun p hp => ⟨by have:=(ht p hp).1; omega,by have:=(ht p hp).2; omega,fun _ r hr => by
  by_cases h : r < 128
  ·exact ir_ascii r h
  ·exact ir_high r (runes_ok _ r hr) (by omega)⟩
 have HIR:=hid hir;clear hir;go_enter Tryz.func6,Tryz.ntmps6;go_wp2_with fail;refine (spells_any w he htab).mono ?_;rintro e w1 ⟨rfl,hb1⟩;have he1:=he.keepB hb1;have hr1:=hr.keepB hb1;clear he htab hr;go_wp2_with fail;refine (ljoin_any A c ps w1 hl (by omega) HIR.out hr1 he1.c.l).mono ?_;rintro e w2 ⟨rfl,ba⟩;have he2:=he1.keepB ba;have hr2:=hr1.keepB ba;have hb2:=below_then hb1 ba hb1.size;clear ba he1 hr1 hb1 HIR;obtain ⟨R,hR⟩ : ∃ R,ljoinR ps = R:=⟨_,rfl⟩;rw [hR];have HPS:=fun W => partsShown_any A c ps W hl hjl ht;rw [hR] at HPS;obtain ⟨f,fc,fi⟩:=R;have hcs:=ljoin_case hR;have hfl : f.length ≤ 16000:=by rcases hcs with h | h; exact h.2; exact h.2.2.1
 have HR:=hid hcs;clear hR hcs;have hF2:=Blk.new w2 29 #[.int .i64 fc,.int .i64 fi];have ba:=(Below.refl w2.heap.size w2).alloc (Nat.le_refl _) (.cells #[.int .i64 fc,.int .i64 fi] 29);have he3:=he2.keepB ba;have hr3:=hr2.keepB ba;have hb3:=hb2.alloc hb2.size (.cells #[.int .i64 fc,.int .i64 fi] 29);clear ba he2 hr2 hb2;unfold flt;go_wp2_with fail;refine (HPS _ hr3 he3).mono ?_;rintro e w4 ⟨rfl,ba⟩;have he4:=he3.keepB ba;have hr4:=hr3.keepB ba;have hF4:=hF2.belowS ba;have hb4:=below_then hb3 ba hb3.size;have hG:=Blk.new w4 29 #[.int .i64 fc,.int .i64 fi];have bb:=(Below.refl w4.heap.size w4).alloc (Nat.le_refl _) (.cells #[.int .i64 fc,.int .i64 fi] 29);have he5:=he4.keepB bb;have hr5:=hr4.keepB bb;have hF5:=hF4.alloc (.cells #[.int .i64 fc,.int .i64 fi] 29);have hb5:=hb4.alloc hb4.size (.cells #[.int .i64 fc,.int .i64 fi] 29);clear ba bb he3 hr3 hF2 hb3 HPS he4 hr4 hb4;obtain ⟨q1,q2,q3⟩:=hF4.rules;unfold flt;go_wp2_with fail;refine (parts_any f _ (by omega) he5.c.l).mono ?_;rintro e w6 ⟨ba,hpost⟩;have hF6:=hF5.belowS ba;have hb6:=below_then hb5 ba hb5.size;have hr6:=hr5.keepB ba;clear ba hF5 hb5 hr5 he5 hG q1 q2 q3 hF4;obtain ⟨Q,hQ⟩ : ∃ Q,partsS f = Q:=⟨_,rfl⟩;rw [hQ] at hpost;obtain ⟨v,gc,gi,rfl,hdat⟩ : ∃ v gc gi,e = .returned (.tuple #[v,flt gc gi])∧(fc ≠ 0∨(fc = 0∧gc = 0∧∃ B d,v = .slice B ps.length d∧Row w6 B (ps.flatMap prtc))):=by
  rcases Q with ⟨c1,i1⟩ | m
  ·refine ⟨_,_,_,hpost,?_⟩;rcases HR.out with h | h
   ·exact .inl h.1
   ·rw [h.2.2.2] at hQ; cases hQ
  ·obtain ⟨vt,he,hown⟩:=hpost;refine ⟨_,_,_,he,?_⟩;rcases HR.out with h | h
   ·exact .inl h.1
   ·rw [h.2.2.2] at hQ;cases hQ;obtain ⟨B,d,hv,_,_⟩:=own_form hown;exact .inr ⟨h.1,rfl,B,d,hv,by subst hv; exact Row.of_own hown⟩
 clear hpost hQ;have hFn:=hF6.alloc (.cells #[.int .i64 gc,.int .i64 gi] 29);have hG:=Blk.new w6 29 #[.int .i64 gc,.int .i64 gi];have hb7:=hb6.alloc hb6.size (.cells #[.int .i64 gc,.int .i64 gi] 29);have bb:=(Below.refl w6.heap.size w6).alloc (Nat.le_refl _) (.cells #[.int .i64 gc,.int .i64 gi] 29);have hr7:=hr6.keepB bb;rcases hdat with hc | ⟨rfl,rfl,B,d,rfl,hrb⟩
 ·have hcb : ((fc:Int) != 0) = true:=(by rw [bne_iff_ne]; exact hc);obtain ⟨q1,q2,q3⟩:=hFn.rules;clear bb hr7 hr6 hF6 hb6 hc;unfold flt;go_wp2_with fail;go_ret;exact ⟨rfl,hb7⟩
 ·have hrb7:=hrb.keepB bb;obtain ⟨q1,q2,q3⟩:=hFn.rules;obtain ⟨p1,p2,p3⟩:=hG.rules;clear bb hr6 hF6 hb6 hrb;unfold flt;go_wp2_with fail;refine (sameParts_all ps ps A B c d (by omega) (by omega) hr7 hrb7).mono ?_;rintro e w8 ⟨rfl,ba⟩;have hb8:=below_then hb7 ba hb7.size;rw [decide_eq_true rfl];go_wp2_with fail;go_ret;exact ⟨rfl,hb8⟩
end
section
open Go.ChangeShapes Go.WideShapes Go.Deep Go.RowKit
section
variable {H : Type} {enc : TypeId × Value → H} {P : Program} {w : World} {base : Nat} {spare : Nat → Bool} {held : Bool}
theorem open_slice_fields {t e : TypeId} {fs : Array Field} {fuel : Nat} {cs : List Value} {x : DataW H × List MemPlace} (ht : P.underlying t = some (.slice e)) (he : P.underlying e = some (.struct fs))
  (hone : oneCellFields P fs = true) (hC : P.cellsOf e = fs.size) (h : DataW.trod enc P w base spare held fuel t cs = some x) :
  (cs = [.slice none 0 0]∧x = (.nil,[])) ∨
  ∃ (a : Addr) (len cap m:Nat) (D : Nat → DataW H) (Pl : Nat → List MemPlace),cs = [.slice (some a) len cap]∧base ≤ a.block∧len ≤ cap∧cap ≤ maxLen∧m = (if spare a.block then cap else len) ∧
   x = (.slice ((List.range len).map D) ((List.range (m - len)).map fun j => D (len + j)),MemPlace.row a (m * fs.size) ++ (List.range m).flatMap Pl) ∧
   ∀ i,i < m → ∃ (ys : List (DataW H × List MemPlace)) (n:Nat),D i = .agg (ys.map (·.1))∧Pl i = ys.flatMap (·.2)∧ys.length = fs.size ∧
    ∀ (j:Nat) (f : Field),fs[j]? = some f → ∃ (v : Value) (y : DataW H × List MemPlace),w.cell? (a.add (i * fs.size + j)) = some v∧ys[j]? = some y∧DataW.trod enc P w base spare held n f.type [v] = some y:=by
 rcases open_slice ht h with h0 | ⟨a,len,cap,m,n,D,Pl,hcs,hb,hl,hm,hmm,hx,hi⟩
 ·exact .inl h0
 ·refine .inr ⟨a,len,cap,m,D,Pl,hcs,hb,hl,hm,hmm,by rw [hC] at hx; exact hx,fun i him => ?_⟩;obtain ⟨cs',hc,ht'⟩:=hi i him;rw [hC] at hc;obtain ⟨ys,n',hn',hy,hlen,hyl,hf⟩:=DataW.trod_struct he ht';obtain ⟨_,hcl,hat⟩:=World.cells?_some hc;simp only [Prod.mk.injEq] at hy;refine ⟨ys,n',hy.1,hy.2,hyl,fun j f hj => ?_⟩;obtain ⟨ho,hk⟩:=hone_of hone j f hj;have hjl : j < fs.size:=(Array.getElem?_eq_some_iff.1 hj).1;have hcell:=hat j hjl;have hv : cs'[j]? = some (cs'[j]'(by omega)):=List.getElem?_eq_getElem (by omega);have h1:=hf j f hj;rw [ho,hk] at h1;have hone' : (cs'.drop j).take 1 = [cs'[j]'(by omega)]:=by
   rw [List.drop_eq_getElem_cons (by omega)];rfl
  rw [hone'] at h1;have hys : ys[j]? = some (ys[j]'(by omega)):=List.getElem?_eq_getElem (by omega);refine ⟨_,_,?_,hys,h1.trans hys⟩;rw [← Go.Deep.add_add,hcell,hv]
end
theorem add_block (x : Addr) (n:Nat) : (x.add n).block = x.block:=by unfold Addr.add; split <;> rfl
theorem list_of_lt {α : Type} (Q : Nat → α → Prop) : ∀ n : Nat,(∀ i,i < n → ∃ x,Q i x) → ∃ l : List α,l.length = n∧∀ i (h : i < l.length),Q i l[i]
 | 0,_ => ⟨[],rfl,fun i h => absurd h (by simp)⟩
 | n + 1,h => by
  obtain ⟨l,hl,hq⟩:=list_of_lt Q n (fun i hi => h i (by omega));obtain ⟨x,hx⟩:=h n (by omega);refine ⟨l ++ [x],by simp [hl],fun i hi => ?_⟩
  by_cases hin : i < l.length
  ·rw [List.getElem_append_left hin]; exact hq i hin
  ·obtain rfl : i = l.length:=(by simp at hi; omega);simp only [List.getElem_concat_length];rw [hl]; exact hx
end
end Go.Proofs.YtonehlkiackhcaaGreatDoor