/- The literals: a string is opened, and a thrown fault is caught. Nothing is claimed here. -/
import Derived.Test.YtonehlkiackhcaaGreatDoorLitI
set_option linter.unusedVariables false
set_option linter.unusedSimpArgs false
set_option maxRecDepth 100000
set_option maxHeartbeats 16000000
namespace Go.Proofs.YtonehlkiackhcaaGreatDoor
section
open Go.RowKit Go.Lib
theorem u8_ne {c d : UInt8} (h : c ≠ d) : ((c.toNat:Int) == (d.toNat:Int)) = false:=by
 rw [beq_eq_false_iff_ne];intro e;exact h (UInt8.toNat_inj.1 (by omega))
def plainS (l : List UInt8) (x : Sht) (frm i:Nat) : Except Nat UInt8 :=
 if x.lim ≤ i then .error frm else if at0 l i = 92∨at0 l i = 10∨at0 l i = x.quo then .error i else .ok (at0 l i)
def Thr {α : Type} (R : Except Nat α) (v : α → Value) (e : Ending) : Prop:=match R with
 | .ok a => e = .returned (v a)
 | .error i => e = .panicked [{ v:=probL 1 (i:Int),recovered:=false }]
theorem below_drew_then {w w' : World} {n : Nat} (h : Below (w.drewN n).heap.size (w.drewN n) w') : Below w.heap.size w w':=below_then (below_drewN (Below.refl _ _) n) h (Nat.le_refl _)
theorem plain_any {w : World} {g : Nat} {l : List UInt8} {i : Nat} {x : Sht} (h : Blk w g 70 (rdC l i x)) (frm:Nat) (hl : l.length ≤ 16000) (hx : x.lim ≤ l.length) :
  Calls Tryz.prog 95 #[.pointer (some ⟨g,0,none⟩),.int .i64 (frm:Int)] w fun e w' => Thr (plainS l x frm i) (fun c => .int .u8 (c.toNat:Int)) e∧Below w.heap.size w w':=by
 have HP : Hid (plainS l x frm i = if x.lim ≤ i then .error frm else if at0 l i = 92∨at0 l i = 10∨at0 l i = x.quo then .error i else .ok (at0 l i)):=hid rfl;obtain ⟨R,hR⟩ : ∃ R,plainS l x frm i = R:=⟨_,rfl⟩;rw [hR] at HP ⊢;clear hR;obtain ⟨q1,q2,q3⟩:=h.rules;unfold rdC at q1;clear h
 by_cases hi : x.lim ≤ i
 ·have HR:=hid (show R = .error frm from by rw [HP.out,if_pos hi]);have d1 : decide ((x.lim:Int) ≤ (i:Int)) = true:=decide_eq_true (by omega);go_enter Tryz.func95,Tryz.ntmps95;go_wp2_with fail;go_quiet (fail);go_wp2_with fail;refine (lfail_any _ _ _).mono ?_;rintro e w1 ⟨rfl,hb⟩;go_wp2_with fail;exact ⟨rfl,by rw [HR.out]; rfl,below_drew_then hb⟩
 ·have HP2:=hid (show R = if at0 l i = 92∨at0 l i = 10∨at0 l i = x.quo then .error i else .ok (at0 l i) from by rw [HP.out,if_neg hi]);have d1 : decide ((x.lim:Int) ≤ (i:Int)) = false:=decide_eq_false (by omega);have hix:=run_idx l i (by omega) (i:Int) rfl;obtain ⟨c,hc⟩ : ∃ c,at0 l i = c:=⟨_,rfl⟩;rw [hc] at HP2 hix;obtain ⟨qu,hqu⟩ : ∃ qu,x.quo = qu:=⟨_,rfl⟩;rw [hqu] at HP2 q1;clear HP hc hqu
  by_cases h1 : c = 92
  ·subst h1;have HR:=hid (show R = .error i from by rw [HP2.out,if_pos (.inl rfl)]);clear HP2;go_enter Tryz.func95,Tryz.ntmps95;go_wp2_with fail;go_quiet (fail);go_wp2_with fail;go_quiet (fail);go_wp2_with fail;refine (lfail_any _ _ _).mono ?_;rintro e w1 ⟨rfl,hb⟩;go_wp2_with fail;exact ⟨rfl,by rw [HR.out]; rfl,below_drew_then hb⟩
  ·have b1 : ((c.toNat:Int) == 92) = false:=u8_ne (d:=92) h1
   by_cases h2 : c = 10
   ·subst h2;have HR:=hid (show R = .error i from by rw [HP2.out,if_pos (.inr (.inl rfl))]);clear HP2;go_enter Tryz.func95,Tryz.ntmps95;go_wp2_with fail;go_quiet (fail);go_wp2_with fail;go_quiet (fail);go_wp2_with fail;refine (lfail_any _ _ _).mono ?_;rintro e w1 ⟨rfl,hb⟩;go_wp2_with fail;exact ⟨rfl,by rw [HR.out]; rfl,below_drew_then hb⟩
   ·have b2 : ((c.toNat:Int) == 10) = false:=u8_ne (d:=10) h2
    by_cases h3 : c = qu
    ·have b3 : ((c.toNat:Int) == (qu.toNat:Int)) = true:=(by rw [h3]; simp);have HR:=hid (show R = .error i from by rw [HP2.out,if_pos (.inr (.inr h3))]);clear h3;clear HP2;go_enter Tryz.func95,Tryz.ntmps95;go_wp2_with fail;go_quiet (fail);go_wp2_with fail;go_quiet (fail);go_wp2_with fail;refine (lfail_any _ _ _).mono ?_;rintro e w1 ⟨rfl,hb⟩;go_wp2_with fail;exact ⟨rfl,by rw [HR.out]; rfl,below_drew_then hb⟩
    ·have b3 : ((c.toNat:Int) == (qu.toNat:Int)) = false:=u8_ne h3;have HR:=hid (show R = .ok c from by rw [HP2.out,if_neg (by rintro (h | h | h) <;> contradiction)]);clear HP2 h1 h2 h3;go_enter Tryz.func95,Tryz.ntmps95;go_wp2_with fail;go_quiet (fail);go_wp2_with fail;go_quiet (fail);go_wp2_with fail;go_ret;exact ⟨by rw [HR.out]; rfl,below_drewN (Below.refl _ _) _⟩
end
section
open Go.RowKit Go.Lib Go.Sort
def ErrC (w : World) (g:Nat) : Prop:=∃ ev,w.cell? ⟨g,0,none⟩ = some ev∧(ev = .nilIface∨∃ t p,ev = .iface t p)
theorem ErrC.keepB {w w' : World} {g : Nat} (h : ErrC w g) (hb : Below w.heap.size w w') : ErrC w' g:=by
 obtain ⟨ev,h1,h2⟩:=h;exact ⟨ev,(hb.cell (p:=⟨g,0,none⟩) (lt_of_cell h1)).trans h1,h2⟩
structure EnvR (w : World) : Prop where
 tabs : Tabs w
 syn : ErrC w 6
 rng : ErrC w 7
theorem EnvR.keepB {w w' : World} (h : EnvR w) (hb : Below w.heap.size w w') : EnvR w':=⟨h.tabs.keepB hb,h.syn.keepB hb,h.rng.keepB hb⟩
def PuV (R : Option Nat) (U:Int) : Int:=match R with
 | some n => n
 | none => U
theorem hex1_any (r : List UInt8) (w : World) (hl : r.length ≤ 16000) (he : EnvR w) :
  Calls Tryz.prog 123 #[.string ⟨r.toArray⟩,.int .i64 16,.int .i64 32] w fun e w' => (match hexS r with
   | some n => e = .returned (.tuple #[.int .u64 (n:Int),.nilIface])
   | none => ∃ N : Nat,e = .returned (.tuple #[.int .u64 (hexE 0 r),.iface 240 (.pointer (some ⟨N,0,none⟩))]))∧Below w.heap.size w w':=by
 have hH:=hex0_any r w hl;obtain ⟨R,hR⟩ : ∃ R,hexS r = R:=⟨_,rfl⟩;obtain ⟨U,hU⟩ : ∃ U,hexE 0 r = U:=⟨_,rfl⟩;rw [hR,hU] at hH;rw [hR,hU];have HH:=hid hH;clear hH hR hU;go_enter Tryz.func123,Tryz.ntmps123;go_wp2_with fail;refine HH.out.mono ?_;rintro e w1 ⟨hp,hb⟩;have he1:=he.keepB hb;rcases R with _ | n
 ·obtain ⟨k,rfl,hk⟩:=hp;rcases hk with rfl | rfl
  ·obtain ⟨ev,hev,hek⟩:=he1.rng;have HT:=hid (fun fn => Tryz.strconv_toError_range fn ⟨r.toArray⟩ 16 32 ev w1 (by show r.toArray.size ≤ _; simp; omega) hev hek);go_wp2_with fail;refine (HT.out _).mono ?_;rintro e w2 ⟨N,rfl,h1,h2,h3⟩;go_wp2_with fail;go_ret2;exact ⟨⟨N,rfl⟩,below_then hb h3 hb.size⟩
  ·obtain ⟨ev,hev,hek⟩:=he1.syn;have HT:=hid (fun fn => Tryz.strconv_toError_syntax fn ⟨r.toArray⟩ 16 32 ev w1 (by show r.toArray.size ≤ _; simp; omega) hev hek);go_wp2_with fail;refine (HT.out _).mono ?_;rintro e w2 ⟨N,rfl,h1,h2,h3⟩;go_wp2_with fail;go_ret2;exact ⟨⟨N,rfl⟩,below_then hb h3 hb.size⟩
 ·have hp : e = .returned (.tuple #[.int .u64 (n:Int),.nilIface]):=hp;subst hp;go_wp2_with fail;go_ret2;exact ⟨rfl,hb⟩
def hexZ (r : List UInt8) : Int:=wrap64 (hexE 0 r)
def hexP (r : List UInt8) : Value:=match hexS r with
 | some n => .tuple #[.int .i64 (n:Int),.bool true]
 | none => .tuple #[.int .i64 (hexZ r),.bool false]
theorem hex_any {w : World} {g : Nat} {l : List UInt8} {i : Nat} {x : Sht} (h : Blk w g 70 (rdC l i x)) (a b:Nat) (hab : a ≤ b) (hb : b ≤ l.length) (hl : l.length ≤ 16000) (he : EnvR w) :
  Calls Tryz.prog 86 #[.pointer (some ⟨g,0,none⟩),.int .i64 (a:Int),.int .i64 (b:Int)] w fun e w' => e = .returned (hexP (cutL l a b))∧Below w.heap.size w w':=by
 have hsub:=run_sub l a b hab hb (a:Int) (b:Int) rfl rfl;have hnil:=cutL_nil (a:=a) hb;have hclen:=cutL_len (a:=a) hb;obtain ⟨t,ht⟩ : ∃ t,cutL l a b = t:=⟨_,rfl⟩;rw [show (l.drop a).take (b - a) = t from ht] at hsub;rw [ht] at hnil hclen ⊢;have HH:=hid (fun W (hW : EnvR W) => hex1_any t W (by omega) hW);obtain ⟨P,hP⟩ : ∃ P,hexP t = P:=⟨_,rfl⟩;rw [hP];have HP:=hid hP;unfold hexP at hP;have hbb:=Below.refl w.heap.size w;obtain ⟨q1,q2,q3⟩:=h.rules;unfold rdC at q1;clear ht;go_enter Tryz.func86,Tryz.ntmps86;go_wp2_with fail;refine (HH.out _ he).mono ?_;rintro e w1 ⟨hp,hb1⟩;cases hS : hexS t with
 | none =>
  rw [hS] at hp hP;obtain ⟨N,rfl⟩:=hp;subst hP;go_wp2_with fail;go_ret2;exact ⟨rfl,hb1⟩
 | some n =>
  rw [hS] at hp hP;simp only at hp hP;subst hp hP;have hn:=hexS_lt hS;have hne:=(hexS_bytes hS).1;have hlt : a < b:=by
   rcases Nat.lt_or_ge a b with h1 | h1
   ·exact h1
   ·exact absurd (hnil.2 h1) hne
  have f1 : IntKind.i64.wrap (n:Int) = (n:Int):=IntWalk.i64_in _ (by omega);have f2 : decide ((a:Int) < (b:Int)) = true:=decide_eq_true (by omega);clear hne hS hnil;go_wp2_with fail;go_ret2;exact ⟨rfl,hb1⟩
end
section
open Go.Lib
theorem strEnd_err (q : List UInt8) (raw : Bool) : ∀ (r : List UInt8) (esc : Bool) (k:Nat) (c:Int) (i:Nat),strEnd q raw r esc k = .error (c,i) → c ≠ 0
 | [],esc,k,c,i,h => by
  unfold strEnd at h;injection h with h;injection h with h1 _;omega
 | x :: r,esc,k,c,i,h => by
  unfold strEnd at h;split at h
  ·exact strEnd_err q raw r _ _ c i h
  ·split at h
   ·simp at h
   ·split at h
    ·injection h with h;injection h with h1 _;omega
    ·exact strEnd_err q raw r _ _ c i h
theorem numTail_err {r : List UInt8} {n : Nat} {c : Int} {i : Nat} (h : numTail r n = .error (c,i)) : c ≠ 0:=by
 unfold numTail at h;split at h
 ·injection h with h;injection h with h1 _;omega
 ·split at h
  ·injection h with h;injection h with h1 _;omega
  ·simp at h
theorem lexStr_err {p : Nat} {r : List UInt8} {c : Int} {i : Nat} (h : lexStr p r = .error (c,i)) : c ≠ 0:=by
 unfold lexStr at h;split at h
 ·rename_i e he;injection h with h;subst h;exact strEnd_err _ _ _ _ _ _ _ he
 ·simp at h
theorem lexTok_err {r : List UInt8} {c : Int} {i : Nat} (h : lexTok r = .error (c,i)) : c ≠ 0:=by
 unfold lexTok at h;split at h
 ·exact lexStr_err h
 ·split at h
  ·exact lexStr_err h
  ·split at h
   ·unfold lexName at h;split at h
    ·injection h with h;injection h with h1 _;omega
    ·simp at h
   ·split at h
    ·unfold lexNum at h;split at h
     ·split at h
      ·injection h with h;injection h with h1 _;omega
      ·exact numTail_err h
     ·exact numTail_err h
    ·unfold lexSign at h;split at h
     ·injection h with h;injection h with h1 _;omega
     ·simp at h
theorem take_fault {l : List UInt8} {i : Nat} {s : Scn} {c : Int} {j : Nat} (h : takeTok l i s = .fault c j) : c ≠ 0:=by
 unfold takeTok at h;split at h
 ·rename_i he;injection h with h1 _;rw [← h1];exact lexTok_err he
 ·split at h
  ·split at h
   ·injection h with h1 _;omega
   ·simp at h
  ·simp at h
theorem step_fault {l : List UInt8} {s : Scn} {c : Int} {j : Nat} (h : stepS l s = .fault c j) : c ≠ 0:=by
 unfold stepS stepB at h;split at h
 ·split at h
  ·injection h with h1 _;omega
  ·simp at h
 ·split at h
  ·split at h <;> simp at h
  ·split at h
   ·split at h
    ·injection h with h1 _;omega
    ·exact take_fault h
   ·exact take_fault h
theorem scanF_err {l : List UInt8} (hl : l.length ≤ 16000) : ∀ (f:Nat) (s : Scn) (c i:Int),SInv l s → l.length < f + s.at_ → scanF l f s = .error (c,i) → c ≠ 0
 | 0,s,c,i,hi,hf,h => by have:=hi.le; omega
 | f + 1,s,c,i,hi,hf,h => by
  unfold scanF at h;cases hst : stepS l s with
  | done t => rw [hst] at h; simp at h
  | fault c' i' =>
   rw [hst] at h;injection h with h;injection h with h1 _;rw [← h1];exact step_fault hst
  | more s' =>
   rw [hst] at h;obtain ⟨h1,h2⟩:=step_inv hl hi hst;exact scanF_err hl f s' c i h1 (by omega) h
theorem scanT_err {l : List UInt8} {c i : Int} (h : scanT l = .error (c,i)) : c ≠ 0:=by
 unfold scanT at h;split at h
 ·rename_i hz;injection h with h;rw [h] at hz;exact hz
 ·rename_i hz;have hl:=(chars_of l (by simpa using hz)).1;exact scanF_err hl _ _ _ _ ⟨by simp,by simp,Nat.zero_le _,by simp,Nat.le_refl _⟩ (by show _ < _ + 1 + 0; omega) h
end
section
open Go.RowKit Go.Lib
theorem caught_pan (q:Nat) (c i:Int) (a b:Int) (w : World) (hq : Blk w q 29 #[.int .i64 a,.int .i64 b]) :
  CallsD Tryz.prog 43 #[.pointer (some ⟨q,0,none⟩)] (.panicking [{ v:=probL c i,recovered:=false }]) w fun e u' w' =>
   e = .returned (.tuple #[])∧u' = .panicking [{ v:=probL c i,recovered:=true }]∧Blk w' q 29 #[.int .i64 c,.int .i64 i]∧(∀ p t cs,p ≠ q → Blk w p t cs → Blk w' p t cs)∧∀ B W,B ≤ q → Below B W w → Below B W w':=by
 refine callsD_of_wpS Tryz.func43 rfl fun c₀ cs hu => ?_;simp only [Tryz.ntmps43,List.size_toArray,List.length_cons,List.length_nil,Nat.reduceAdd,Nat.reduceSub,Array.replicate_succ,Array.replicate_zero,List.push_toArray,List.append_toArray,List.nil_append,List.cons_append];apply wpS_seq;apply wpS_region;simp [wpOpsS,go_sem,recoverD,hu,Exit.thenS];refine wpS_of_wp ?_;have hlt:=hq.lt;obtain ⟨p1,p2,p3⟩:=hq.rules;generalize hQ : (fun (e : Exit) (a' : Act) (w' : World) => bodyPostS Tryz.prog Tryz.f43 c₀ cs _ e a' _ w') = Q;have HQ:=hid hQ;clear hQ;unfold probL;have hta : ∀ (t : TypeId) (v : Value) (w : World),(Instr.typeAssert (.iface 125 v) t 125 true).run Tryz.prog w = .ok (.tuple #[v,.bool true]) w:=fun t v w => by kernel_rfl
 go_wp2_with fail;rw [← HQ.out];refine ⟨rfl,_,rfl,.tuple #[],by simp [results,Tryz.results43],rfl,rfl,((hq.set_ 0 (.int .i64 c)).set_ 1 (.int .i64 i)).alloc _,fun p t cs hne hp => ((hp.far (p:=⟨q,0,none⟩) hne (.int .i64 c)).far (p:=⟨q,1,none⟩) hne (.int .i64 i)).alloc _,?_⟩;intro B W h2 h3;refine ((h3.setCell (p:=⟨q,0,none⟩) h2 (.int .i64 c)).setCell (p:=⟨q,1,none⟩) h2 (.int .i64 i)).alloc ?_ _;simp;omega
theorem caught_idle (q:Nat) (w : World) :
  CallsD Tryz.prog 43 #[.pointer (some ⟨q,0,none⟩)] .returning w fun e u' w' => e = .returned (.tuple #[])∧u' = .returning∧w' = w:=by
 refine callsD_of_wpS Tryz.func43 rfl fun c₀ cs hu => ?_;simp only [Tryz.ntmps43,List.size_toArray,List.length_cons,List.length_nil,Nat.reduceAdd,Nat.reduceSub,Array.replicate_succ,Array.replicate_zero,List.push_toArray,List.append_toArray,List.nil_append,List.cons_append];apply wpS_seq;apply wpS_region;simp [wpOpsS,go_sem,recoverD,hu,Exit.thenS];refine wpS_of_wp ?_;go_wp2_with fail;cases c₀
 simp_all [bodyPostS,results,Tryz.results43]
structure LEnv (w : World) : Prop where
 env : Env w
 rd : EnvR w
theorem LEnv.keepB {w w' : World} (h : LEnv w) (hb : Below w.heap.size w w') : LEnv w':=⟨h.env.keepB hb,h.rd.keepB hb⟩
theorem isStr_of {l : List UInt8} {ts : List Tok} (h : scanT l = .ok ts) (t a b : Tok) (hts : ts = [t,a,b]) : isStr l = (t.kind == 7 && t.text == l):=by
 unfold isStr;rw [h,hts]
theorem isStr_len {l : List UInt8} {ts : List Tok} (h : scanT l = .ok ts) (hts : ts.length ≠ 3) : isStr l = false:=by
 unfold isStr;rw [h];split
 ·rename_i heq;injection heq with heq;rw [heq] at hts;exact absurd rfl hts
 ·rfl
theorem isStr_err {l : List UInt8} {e : Int × Int} (h : scanT l = .error e) : isStr l = false:=by
 unfold isStr;rw [h]
theorem rdC_sht {l : List UInt8} (p qn:Nat) (hp : strP l = p) (hq : (quotes (l.drop p)).length = qn) (hle : qn ≤ l.length) : rdC l (shtOf l).frm (shtOf l) = #[.string ⟨l.toArray⟩,.int .i64 ((p:Int) + (qn:Int)),.int .i64 ((l.length:Int) - (qn:Int)),.int .u8 (((if isQuo (at0 l 0) then 0 else at0 l 0 : UInt8).toNat:Nat):Int),.int .u8 ((at0 l p).toNat:Int)]:=by
 unfold rdC shtOf;simp only;rw [hp,hq,Int.natCast_add,Int.natCast_sub hle]
theorem three_take (r : List UInt8) : [34,34,34].isPrefixOf r = decide (r.take 3 = [34,34,34]):=by
 rw [Bool.eq_iff_iff,List.isPrefixOf_iff_prefix,decide_eq_true_eq,List.prefix_iff_eq_take];exact ⟨fun h => h.symm,fun h => h.symm⟩
theorem pre3_any (r : List UInt8) (W : World) : Calls Tryz.prog 39 #[.string ⟨r.toArray⟩,.string ⟨#[34,34,34]⟩] W fun e w' => e = .returned (.bool (decide (r.take 3 = [34,34,34])))∧W = w':=by
 refine (Tryz.strings_HasPrefix ⟨r.toArray⟩ ⟨#[34,34,34]⟩ W).mono ?_;rintro e w' ⟨rfl,rfl⟩;exact ⟨by rw [← three_take]; rfl,rfl⟩
def OpPost (w : World) (l : List UInt8) (b : Bool) (e : Ending) (w' : World) : Prop:=match b with
 | true => ∃ g,e = .returned (.pointer (some ⟨g,0,none⟩))∧Blk w' g 70 (rdC l (shtOf l).frm (shtOf l))∧w.heap.size ≤ g
 | false => e = .panicked [{ v:=probL 1 (-1),recovered:=false }]
theorem open_any (l : List UInt8) (w : World) (hl : l.length ≤ 9223372036854775807) (he : LEnv w) :
  Calls Tryz.prog 44 #[.string ⟨l.toArray⟩] w fun e w' => OpPost w l (isStr l) e w'∧Below w.heap.size w w':=by
 have HSC:=hid (fun W hW => scan_all l W hl hW);obtain ⟨b,hb⟩ : ∃ b,isStr l = b:=⟨_,rfl⟩;have HIS:=hid hb;rw [hb];clear hb;go_enter Tryz.func44,Tryz.ntmps44;go_wp2_with fail;refine (HSC.out _ he.env).mono ?_;rintro e w1 ⟨hb1,hpost⟩;obtain ⟨T,hT⟩ : ∃ T,scanT l = T:=⟨_,rfl⟩;rw [hT] at hpost;clear HSC;rcases T with ⟨c,i⟩ | ts
 ·have hc:=scanT_err hT;have HI:=hid (show b = false from HIS.out.symm.trans (isStr_err hT));have cb : (c == 0) = false:=(by rw [beq_eq_false_iff_ne]; exact hc);simp only at hpost;subst hpost;clear hT hc;unfold flt;have hb2:=hb1.alloc hb1.size (.cells #[.int .i64 c,.int .i64 i] 29);have hs2:=hb2.size;go_wp2_with fail;refine (lfault_any 1 (-1) _).mono ?_;rintro e w3 ⟨rfl,hb3⟩;go_wp2_with fail;exact ⟨rfl,by rw [HI.out]; rfl,below_then hb2 hb3 hs2⟩
 ·simp only at hpost;obtain ⟨vt,rfl,hown⟩:=hpost;obtain ⟨A,cc,rfl,hrow,_⟩:=own_form hown;have hb2:=hb1.alloc hb1.size (.cells #[.int .i64 0,.int .i64 0] 29);have hrow2:=hrow.keepB ((Below.refl w1.heap.size w1).alloc (Nat.le_refl _) (.cells #[.int .i64 0,.int .i64 0] 29));unfold flt
  by_cases h3 : ts.length ≠ 3
  ·have HI:=hid (show b = false from HIS.out.symm.trans (isStr_len hT h3));have b3 : ((ts.length:Int) != 3) = true:=(by rw [bne_iff_ne]; omega);have hs2:=hb2.size;clear hT h3 hown hrow hrow2;go_wp2_with fail;refine (lfault_any 1 (-1) _).mono ?_;rintro e w3 ⟨rfl,hb3⟩;go_wp2_with fail;exact ⟨rfl,by rw [HI.out]; rfl,below_then hb2 hb3 hs2⟩
  ·obtain ⟨t,t1,t2,rfl⟩ : ∃ t t1 t2,ts = [t,t1,t2]:=by
    match ts,h3 with
    | [t,t1,t2],_ => exact ⟨t,t1,t2,rfl⟩
    | [],h => exact absurd (by simp) h
    | [_],h => exact absurd (by simp) h
    | [_,_],h => exact absurd (by simp) h
    | _ :: _ :: _ :: _ :: _,h => exact absurd (by simp) h
   have hst:=isStr_of hT t t1 t2 rfl;obtain ⟨bb,off,rfl,hbl,hc⟩:=hrow2.elem (f:=tokc) (s:=4) (fun _ => rfl) (by omega) (k:=0) (by simp);have c0:=hc 0 (.int .i64 t.kind) (by omega) rfl;have c1:=hc 1 (.string ⟨t.text.toArray⟩) (by omega) rfl;have hs2:=hb2.size;have hF:=Blk.new w1 29 #[.int .i64 0,.int .i64 0];obtain ⟨tk,htk⟩ : ∃ tk,t.kind = tk:=⟨_,rfl⟩;obtain ⟨tx,htx⟩ : ∃ tx,t.text = tx:=⟨_,rfl⟩;rw [htk] at c0 hst;rw [htx] at c1 hst;have HIS2:=hid (HIS.out.symm.trans hst);simp only [Nat.zero_mul,Nat.add_zero] at c0 c1;clear hT hst hc hown hrow hrow2 htk htx h3
   by_cases h7 : tk = 7
   ·subst h7
    by_cases hxl : tx = l
    ·rw [hxl] at c1;have HI:=hid (show b = true from by rw [HIS2.out,hxl]; simp);have hs:=strg_of (HIS.out.trans HI.out);clear HIS2 hxl tx;have hle:=hs.le;have hq0:=hs.q0;have hp:=hs.p;have hquo:=hs.quo;have hlen : (shtOf l).frm = strP l + (quotes (l.drop (strP l))).length:=rfl;rw [hlen] at hle;have hix0:=run_idx l 0 (by omega) 0 rfl
     by_cases hc0 : isQuo (at0 l 0) = true
     ·rw [if_pos hc0] at hp;have hc1 : at0 l 0 = 34∨at0 l 0 = 39:=by
       unfold isQuo at hc0;rw [Bool.or_eq_true,beq_iff_eq,beq_iff_eq] at hc0;exact hc0
      have hpv : (((if isQuo (at0 l 0) then 0 else at0 l 0 : UInt8).toNat:Nat):Int) = 0:=(by rw [if_pos hc0]; rfl);obtain ⟨D,hD⟩ : ∃ D,l.drop 0 = D:=⟨_,rfl⟩;have hdr:=hD;rw [hp] at hle hq0;rw [hD] at hle hq0;clear hD hlen hquo hs HIS;rcases hc1 with hc1 | hc1
      ·have hqv : ((at0 l 0).toNat:Int) = 34:=(by rw [hc1]; rfl);rw [hc1] at hix0;clear hc1 hc0
       -- one quote or three
       have hpre:=fun W => pre3_any D W;have htl:=run_tail l 0 (by omega) 0 rfl;rw [hdr] at htl
       by_cases h3q : D.take 3 = [34,34,34]
       ·have hqn : (quotes D).length = 3:=(by unfold quotes; rw [if_pos h3q]; rfl);rw [hqn] at hle;have hd6 : decide ((l.length:Int) - 0 ≥ 6) = true:=decide_eq_true (by omega);rw [decide_eq_true h3q] at hpre;have HPRE:=hid hpre;clear hpre h3q;go_wp2_with fail;refine (HPRE.out _).mono ?_;rintro e w3 ⟨rfl,rfl⟩;go_wp2_with fail;have hrd:=rdC_sht (l:=l) 0 3 hp (by rw [hdr]; exact hqn) (by omega);have hbN:=hb2.alloc hb2.size (.cells #[.string ⟨l.toArray⟩,.int .i64 ((0:Int) + 3),.int .i64 ((l.length:Int) - 3),.int .u8 0,.int .u8 34] 70);have hBN:=Blk.new (w1.alloc (.cells #[.int .i64 0,.int .i64 0] 29)) 70 #[.string ⟨l.toArray⟩,.int .i64 ((0:Int) + 3),.int .i64 ((l.length:Int) - 3),.int .u8 0,.int .u8 34];go_ret;refine ⟨?_,hbN⟩;rw [HI.out];refine ⟨_,rfl,?_,Nat.le_of_lt (Nat.lt_succ_of_le hb1.size)⟩;rw [hrd,hpv,hqv];rw [show (w1.alloc (.cells #[.int .i64 0,.int .i64 0] 29)).heap.size = w1.heap.size + 1 from by simp] at hBN;exact hBN
       ·have hqn : (quotes D).length = 1:=(by unfold quotes; rw [if_neg h3q,List.length_take]; have:=hq0; have h5:=congrArg List.length hdr; rw [List.length_drop] at h5; omega);rw [hqn] at hle;rw [decide_eq_false h3q] at hpre;have HPRE:=hid hpre;clear hpre h3q
        by_cases h6 : 6 + 0 ≤ l.length
        ·have hd6 : decide ((l.length:Int) - 0 ≥ 6) = true:=decide_eq_true (by omega);go_wp2_with fail;refine (HPRE.out _).mono ?_;rintro e w3 ⟨rfl,rfl⟩;go_wp2_with fail;have hrd:=rdC_sht (l:=l) 0 1 hp (by rw [hdr]; exact hqn) (by omega);have hbN:=hb2.alloc hb2.size (.cells #[.string ⟨l.toArray⟩,.int .i64 ((0:Int) + 1),.int .i64 ((l.length:Int) - 1),.int .u8 0,.int .u8 34] 70);have hBN:=Blk.new (w1.alloc (.cells #[.int .i64 0,.int .i64 0] 29)) 70 #[.string ⟨l.toArray⟩,.int .i64 ((0:Int) + 1),.int .i64 ((l.length:Int) - 1),.int .u8 0,.int .u8 34];go_ret;refine ⟨?_,hbN⟩;rw [HI.out];refine ⟨_,rfl,?_,Nat.le_of_lt (Nat.lt_succ_of_le hb1.size)⟩;rw [hrd,hpv,hqv];rw [show (w1.alloc (.cells #[.int .i64 0,.int .i64 0] 29)).heap.size = w1.heap.size + 1 from by simp] at hBN;exact hBN
        ·have hd6 : decide ((l.length:Int) - 0 ≥ 6) = false:=decide_eq_false (by omega);go_wp2_with fail;have hrd:=rdC_sht (l:=l) 0 1 hp (by rw [hdr]; exact hqn) (by omega);have hbN:=hb2.alloc hb2.size (.cells #[.string ⟨l.toArray⟩,.int .i64 ((0:Int) + 1),.int .i64 ((l.length:Int) - 1),.int .u8 0,.int .u8 34] 70);have hBN:=Blk.new (w1.alloc (.cells #[.int .i64 0,.int .i64 0] 29)) 70 #[.string ⟨l.toArray⟩,.int .i64 ((0:Int) + 1),.int .i64 ((l.length:Int) - 1),.int .u8 0,.int .u8 34];go_ret;refine ⟨?_,hbN⟩;rw [HI.out];refine ⟨_,rfl,?_,Nat.le_of_lt (Nat.lt_succ_of_le hb1.size)⟩;rw [hrd,hpv,hqv];rw [show (w1.alloc (.cells #[.int .i64 0,.int .i64 0] 29)).heap.size = w1.heap.size + 1 from by simp] at hBN;exact hBN
      ·have hqv : ((at0 l 0).toNat:Int) = 39:=(by rw [hc1]; rfl);rw [hc1] at hix0;clear hc1 hc0
       -- one quote or three
       have hpre:=fun W => pre3_any D W;have htl:=run_tail l 0 (by omega) 0 rfl;rw [hdr] at htl
       by_cases h3q : D.take 3 = [34,34,34]
       ·have hqn : (quotes D).length = 3:=(by unfold quotes; rw [if_pos h3q]; rfl);rw [hqn] at hle;have hd6 : decide ((l.length:Int) - 0 ≥ 6) = true:=decide_eq_true (by omega);rw [decide_eq_true h3q] at hpre;have HPRE:=hid hpre;clear hpre h3q;go_wp2_with fail;refine (HPRE.out _).mono ?_;rintro e w3 ⟨rfl,rfl⟩;go_wp2_with fail;have hrd:=rdC_sht (l:=l) 0 3 hp (by rw [hdr]; exact hqn) (by omega);have hbN:=hb2.alloc hb2.size (.cells #[.string ⟨l.toArray⟩,.int .i64 ((0:Int) + 3),.int .i64 ((l.length:Int) - 3),.int .u8 0,.int .u8 39] 70);have hBN:=Blk.new (w1.alloc (.cells #[.int .i64 0,.int .i64 0] 29)) 70 #[.string ⟨l.toArray⟩,.int .i64 ((0:Int) + 3),.int .i64 ((l.length:Int) - 3),.int .u8 0,.int .u8 39];go_ret;refine ⟨?_,hbN⟩;rw [HI.out];refine ⟨_,rfl,?_,Nat.le_of_lt (Nat.lt_succ_of_le hb1.size)⟩;rw [hrd,hpv,hqv];rw [show (w1.alloc (.cells #[.int .i64 0,.int .i64 0] 29)).heap.size = w1.heap.size + 1 from by simp] at hBN;exact hBN
       ·have hqn : (quotes D).length = 1:=(by unfold quotes; rw [if_neg h3q,List.length_take]; have:=hq0; have h5:=congrArg List.length hdr; rw [List.length_drop] at h5; omega);rw [hqn] at hle;rw [decide_eq_false h3q] at hpre;have HPRE:=hid hpre;clear hpre h3q
        by_cases h6 : 6 + 0 ≤ l.length
        ·have hd6 : decide ((l.length:Int) - 0 ≥ 6) = true:=decide_eq_true (by omega);go_wp2_with fail;refine (HPRE.out _).mono ?_;rintro e w3 ⟨rfl,rfl⟩;go_wp2_with fail;have hrd:=rdC_sht (l:=l) 0 1 hp (by rw [hdr]; exact hqn) (by omega);have hbN:=hb2.alloc hb2.size (.cells #[.string ⟨l.toArray⟩,.int .i64 ((0:Int) + 1),.int .i64 ((l.length:Int) - 1),.int .u8 0,.int .u8 39] 70);have hBN:=Blk.new (w1.alloc (.cells #[.int .i64 0,.int .i64 0] 29)) 70 #[.string ⟨l.toArray⟩,.int .i64 ((0:Int) + 1),.int .i64 ((l.length:Int) - 1),.int .u8 0,.int .u8 39];go_ret;refine ⟨?_,hbN⟩;rw [HI.out];refine ⟨_,rfl,?_,Nat.le_of_lt (Nat.lt_succ_of_le hb1.size)⟩;rw [hrd,hpv,hqv];rw [show (w1.alloc (.cells #[.int .i64 0,.int .i64 0] 29)).heap.size = w1.heap.size + 1 from by simp] at hBN;exact hBN
        ·have hd6 : decide ((l.length:Int) - 0 ≥ 6) = false:=decide_eq_false (by omega);go_wp2_with fail;have hrd:=rdC_sht (l:=l) 0 1 hp (by rw [hdr]; exact hqn) (by omega);have hbN:=hb2.alloc hb2.size (.cells #[.string ⟨l.toArray⟩,.int .i64 ((0:Int) + 1),.int .i64 ((l.length:Int) - 1),.int .u8 0,.int .u8 39] 70);have hBN:=Blk.new (w1.alloc (.cells #[.int .i64 0,.int .i64 0] 29)) 70 #[.string ⟨l.toArray⟩,.int .i64 ((0:Int) + 1),.int .i64 ((l.length:Int) - 1),.int .u8 0,.int .u8 39];go_ret;refine ⟨?_,hbN⟩;rw [HI.out];refine ⟨_,rfl,?_,Nat.le_of_lt (Nat.lt_succ_of_le hb1.size)⟩;rw [hrd,hpv,hqv];rw [show (w1.alloc (.cells #[.int .i64 0,.int .i64 0] 29)).heap.size = w1.heap.size + 1 from by simp] at hBN;exact hBN
     ·rw [if_neg hc0] at hp;have hix1:=run_idx l 1 (by omega) 1 rfl;obtain ⟨D,hD⟩ : ∃ D,l.drop 1 = D:=⟨_,rfl⟩;have hdr:=hD;rw [hp] at hle hq0;rw [hD] at hle hq0;have hc34 : at0 l 0 ≠ 34:=(by rintro e; rw [e] at hc0; exact hc0 rfl);have hc39 : at0 l 0 ≠ 39:=(by rintro e; rw [e] at hc0; exact hc0 rfl);have hpv : (((if isQuo (at0 l 0) then 0 else at0 l 0 : UInt8).toNat:Nat):Int) = ((at0 l 0).toNat:Int):=(by rw [if_neg hc0]);have b34 : (((at0 l 0).toNat:Int) == 34) = false:=u8_ne (d:=34) hc34;have b34' : (((at0 l 0).toNat:Int) != 34) = true:=(by rw [bne,b34]; rfl);have b39 : (((at0 l 0).toNat:Int) == 39) = false:=u8_ne (d:=39) hc39;have b39' : (((at0 l 0).toNat:Int) != 39) = true:=(by rw [bne,b39]; rfl);obtain ⟨pv,hpv0⟩ : ∃ pv : Int,((at0 l 0).toNat:Int) = pv:=⟨_,rfl⟩;obtain ⟨qv,hqv⟩ : ∃ qv : Int,((at0 l 1).toNat:Int) = qv:=⟨_,rfl⟩;rw [hpv0] at hix0 b34 b34' b39 b39' hpv;rw [hqv] at hix1;have HQV:=hid hqv;clear hD hlen hquo hs HIS hc34 hc39 hc0 hpv0 hqv
      -- one quote or three
      have hpre:=fun W => pre3_any D W;have htl:=run_tail l 1 (by omega) 1 rfl;rw [hdr] at htl
      by_cases h3q : D.take 3 = [34,34,34]
      ·have hqn : (quotes D).length = 3:=(by unfold quotes; rw [if_pos h3q]; rfl);rw [hqn] at hle;have hd6 : decide ((l.length:Int) - 1 ≥ 6) = true:=decide_eq_true (by omega);rw [decide_eq_true h3q] at hpre;have HPRE:=hid hpre;clear hpre h3q;go_wp2_with fail;refine (HPRE.out _).mono ?_;rintro e w3 ⟨rfl,rfl⟩;go_wp2_with fail;have hrd:=rdC_sht (l:=l) 1 3 hp (by rw [hdr]; exact hqn) (by omega);have hbN:=hb2.alloc hb2.size (.cells #[.string ⟨l.toArray⟩,.int .i64 ((1:Int) + 3),.int .i64 ((l.length:Int) - 3),.int .u8 pv,.int .u8 qv] 70);have hBN:=Blk.new (w1.alloc (.cells #[.int .i64 0,.int .i64 0] 29)) 70 #[.string ⟨l.toArray⟩,.int .i64 ((1:Int) + 3),.int .i64 ((l.length:Int) - 3),.int .u8 pv,.int .u8 qv];go_ret;refine ⟨?_,hbN⟩;rw [HI.out];refine ⟨_,rfl,?_,Nat.le_of_lt (Nat.lt_succ_of_le hb1.size)⟩;rw [hrd,hpv,HQV.out];rw [show (w1.alloc (.cells #[.int .i64 0,.int .i64 0] 29)).heap.size = w1.heap.size + 1 from by simp] at hBN;exact hBN
      ·have hqn : (quotes D).length = 1:=(by unfold quotes; rw [if_neg h3q,List.length_take]; have:=hq0; have h5:=congrArg List.length hdr; rw [List.length_drop] at h5; omega);rw [hqn] at hle;rw [decide_eq_false h3q] at hpre;have HPRE:=hid hpre;clear hpre h3q
       by_cases h6 : 6 + 1 ≤ l.length
       ·have hd6 : decide ((l.length:Int) - 1 ≥ 6) = true:=decide_eq_true (by omega);go_wp2_with fail;refine (HPRE.out _).mono ?_;rintro e w3 ⟨rfl,rfl⟩;go_wp2_with fail;have hrd:=rdC_sht (l:=l) 1 1 hp (by rw [hdr]; exact hqn) (by omega);have hbN:=hb2.alloc hb2.size (.cells #[.string ⟨l.toArray⟩,.int .i64 ((1:Int) + 1),.int .i64 ((l.length:Int) - 1),.int .u8 pv,.int .u8 qv] 70);have hBN:=Blk.new (w1.alloc (.cells #[.int .i64 0,.int .i64 0] 29)) 70 #[.string ⟨l.toArray⟩,.int .i64 ((1:Int) + 1),.int .i64 ((l.length:Int) - 1),.int .u8 pv,.int .u8 qv];go_ret;refine ⟨?_,hbN⟩;rw [HI.out];refine ⟨_,rfl,?_,Nat.le_of_lt (Nat.lt_succ_of_le hb1.size)⟩;rw [hrd,hpv,HQV.out];rw [show (w1.alloc (.cells #[.int .i64 0,.int .i64 0] 29)).heap.size = w1.heap.size + 1 from by simp] at hBN;exact hBN
       ·have hd6 : decide ((l.length:Int) - 1 ≥ 6) = false:=decide_eq_false (by omega);go_wp2_with fail;have hrd:=rdC_sht (l:=l) 1 1 hp (by rw [hdr]; exact hqn) (by omega);have hbN:=hb2.alloc hb2.size (.cells #[.string ⟨l.toArray⟩,.int .i64 ((1:Int) + 1),.int .i64 ((l.length:Int) - 1),.int .u8 pv,.int .u8 qv] 70);have hBN:=Blk.new (w1.alloc (.cells #[.int .i64 0,.int .i64 0] 29)) 70 #[.string ⟨l.toArray⟩,.int .i64 ((1:Int) + 1),.int .i64 ((l.length:Int) - 1),.int .u8 pv,.int .u8 qv];go_ret;refine ⟨?_,hbN⟩;rw [HI.out];refine ⟨_,rfl,?_,Nat.le_of_lt (Nat.lt_succ_of_le hb1.size)⟩;rw [hrd,hpv,HQV.out];rw [show (w1.alloc (.cells #[.int .i64 0,.int .i64 0] 29)).heap.size = w1.heap.size + 1 from by simp] at hBN;exact hBN
    ·have hb : (tx == l) = false:=(by simpa using hxl);have hb' : (tx != l) = true:=(by rw [bne,hb]; rfl);have HI:=hid (show b = false from by rw [HIS2.out,hb]; rfl);clear HIS2 hxl;go_wp2_with fail;refine (lfault_any 1 (-1) _).mono ?_;rintro e w3 ⟨rfl,hb3⟩;go_wp2_with fail;exact ⟨rfl,by rw [HI.out]; rfl,below_then hb2 hb3 hs2⟩
   ·have b7 : (tk == 7) = false:=(by simpa using h7);have b7' : (tk != 7) = true:=(by rw [bne,b7]; rfl);have HI:=hid (show b = false from by rw [HIS2.out,b7]; rfl);clear HIS2 h7;go_wp2_with fail;refine (lfault_any 1 (-1) _).mono ?_;rintro e w3 ⟨rfl,hb3⟩;go_wp2_with fail;exact ⟨rfl,by rw [HI.out]; rfl,below_then hb2 hb3 hs2⟩
end
end Go.Proofs.YtonehlkiackhcaaGreatDoor