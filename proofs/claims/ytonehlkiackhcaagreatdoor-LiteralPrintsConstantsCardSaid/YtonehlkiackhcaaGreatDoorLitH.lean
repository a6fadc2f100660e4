/- The literals: the characters of a string, in plain words. Nothing is claimed here. -/
import Derived.Test.YtonehlkiackhcaaGreatDoorScanL
set_option linter.unusedVariables false
set_option linter.unusedSimpArgs false
set_option maxRecDepth 100000
set_option maxHeartbeats 16000000
namespace Go.Proofs.YtonehlkiackhcaaGreatDoor
section
open Go.RowKit Go.Shelf Go.Lib Go.Maps
def Env (w : World) : Prop:=Tabs w∧Lib.TabIs Tryz.prog w "strings.asciiSpace" .u8 Lib.asciiSpaceTab
theorem tab_keep {P : Program} {w w' : World} {n : String} {k : IntKind} {zs : List Int} (h : Lib.TabIs P w n k zs) (hb : Below w.heap.size w w') : Lib.TabIs P w' n k zs:=by
 unfold Lib.TabIs World.var? at h ⊢;cases hg : P.globalNamed n with
 | none => rw [hg] at h; simp at h
 | some g =>
  rw [hg] at h;simp only [Option.bind_some] at h ⊢;have hlt : g < w.heap.size:=by
   rcases Nat.lt_or_ge g w.heap.size with hlt | hge
   ·exact hlt
   ·rw [Array.getElem?_eq_none hge] at h; simp at h
  rw [hb.block g hlt];exact h
theorem Env.keepB {w w' : World} (h : Env w) (hb : Below w.heap.size w w') : Env w':=⟨h.1.keepB hb,tab_keep h.2 hb⟩
def spaced : List (List UInt8) → List UInt8
 | [] => []
 | [x] => x
 | x :: y :: l => x ++ 32 :: spaced (y :: l)
theorem fields_lit (F : List (List UInt8)) (n:Nat) (s : ByteArray) (w : World) (h : s.data.toList = spaced F) (hn : F.length = n) (hF : Lib.fields (spaced F) = F) (ha : (spaced F).all (fun b => decide (b.toNat < 128)) = true) (hl : (spaced F).length < 1000) (he : Env w) :
  Calls Tryz.prog 145 #[.string s] w fun e w' => e = .returned (.slice (some ⟨w.heap.size,0,none⟩) n n)∧w' = w.alloc (.cells (strs F).toArray 9):=by
 have hsz : s.size < 1000:=by
  show s.data.size < 1000;rw [← Array.length_toList,h];exact hl
 have ha : ∀ (j:Nat) b,s.data.toList[j]? = some b → b.toNat < 128:=by
  intro j b hj;rw [h] at hj;have:=List.all_eq_true.1 ha b (List.mem_of_getElem? hj);simpa using this
 refine (Tryz.strings_Fields s w (by omega) ha he.2).mono ?_;rintro e w' ⟨rfl,rfl⟩;rw [h,hF,hn];exact ⟨rfl,rfl⟩
theorem keywords_any (w : World) (he : Env w) : Calls Tryz.prog 118 #[] w fun e w' => e = .returned (.slice (some ⟨w.heap.size,0,none⟩) 38 38)∧w' = w.alloc (.cells (strs kws).toArray 9):=by
 go_enter Tryz.func118,Tryz.ntmps118;go_wp2_with fail;refine (fields_lit kws 38 _ _ (by kernel_rfl) (by kernel_rfl) (by kernel_rfl) (by kernel_rfl) (of_decide_eq_true (by kernel_rfl)) he).mono ?_;rintro e w1 ⟨rfl,rfl⟩;go_wp2_with fail;go_ret;exact ⟨rfl,rfl⟩
theorem signs_any (w : World) (he : Env w) : Calls Tryz.prog 117 #[] w fun e w' => e = .returned (.slice (some ⟨w.heap.size,0,none⟩) 43 43)∧w' = w.alloc (.cells (strs sgs).toArray 9):=by
 go_enter Tryz.func117,Tryz.ntmps117;go_wp2_with fail;refine (fields_lit sgs 43 _ _ (by kernel_rfl) (by kernel_rfl) (by kernel_rfl) (by kernel_rfl) (of_decide_eq_true (by kernel_rfl)) he).mono ?_;rintro e w1 ⟨rfl,rfl⟩;go_wp2_with fail;go_ret;exact ⟨rfl,rfl⟩
theorem wordsF_snoc : ∀ (l : List (List UInt8)) (x : List UInt8) (k:Nat) (D : DataW Unit),wordsF (l ++ [x]) k D = (wordsF l k D).put (.string x) (.lit (.int .i64 ((k + l.length:Nat):Int)))
 | [],x,k,D => by simp [wordsF]
 | y :: l,x,k,D => by
  show wordsF (l ++ [x]) (k + 1) _ = _;rw [wordsF_snoc l x (k + 1) _];rw [show k + 1 + l.length = k + (y :: l).length from by simp; omega];rfl
def wordsK (k:Nat) : DataW Unit:=wordsF (kws.take k) 0 (.map [])
theorem wordsK_succ (k:Nat) (hk : k < 38) (x : List UInt8) (hx : kws[k]? = some x) : wordsK (k + 1) = (wordsK k).put (.string x) (.lit (.int .i64 (k:Int))):=by
 unfold wordsK;rw [List.take_add_one,hx];show wordsF (List.take k kws ++ [x]) 0 _ = _;rw [wordsF_snoc];have hl : kws.length = 38:=rfl;rw [List.length_take,Nat.min_eq_left (by omega),Nat.zero_add]
theorem wordsK_all : wordsK 38 = wordsD:=rfl
theorem kws_at (k:Nat) (hk : k < 38) : ∃ x,Hid (kws[k]? = some x)∧x.length < 10:=by
 have hl : kws.length = 38:=rfl;refine ⟨kws[k],hid (List.getElem?_eq_getElem (by omega)),?_⟩;have h : kws.all (fun x => decide (x.length < 10)) = true:=by decide
 have:=List.all_eq_true.1 h _ (List.getElem_mem (by omega : k < kws.length));exact of_decide_eq_true this
theorem scanD_pan (p q:Nat) (c i:Int) (x : Value) (a b:Int) (w : World) (hp : Blk w p 126 #[x]) (hq : Blk w q 29 #[.int .i64 a,.int .i64 b]) :
  CallsD Tryz.prog 119 #[.pointer (some ⟨p,0,none⟩),.pointer (some ⟨q,0,none⟩)] (.panicking [{ v:=probV c i,recovered:=false }]) w fun e u' w' =>
   e = .returned (.tuple #[])∧u' = .panicking [{ v:=probV c i,recovered:=true }]∧Blk w' p 126 #[.slice none 0 0]∧Blk w' q 29 #[.int .i64 c,.int .i64 i]∧∀ B W,B ≤ p → B ≤ q → Below B W w → Below B W w':=by
 refine callsD_of_wpS Tryz.func119 rfl fun c₀ cs hu => ?_;simp only [Tryz.ntmps119,List.size_toArray,List.length_cons,List.length_nil,Nat.reduceAdd,Nat.reduceSub,Array.replicate_succ,Array.replicate_zero,List.push_toArray,List.append_toArray,List.nil_append,List.cons_append];apply wpS_seq;apply wpS_region;simp [wpOpsS,go_sem,recoverD,hu,Exit.thenS];refine wpS_of_wp ?_;obtain ⟨q1,q2,q3⟩:=hp.rules;obtain ⟨p1,p2,p3⟩:=hq.rules;generalize hQ : (fun (e : Exit) (a' : Act) (w' : World) => bodyPostS Tryz.prog Tryz.f119 c₀ cs _ e a' _ w') = Q;have HQ:=hid hQ;clear hQ;unfold probV;have hta : ∀ (t : TypeId) (v : Value) (w : World),(Instr.typeAssert (.iface 181 v) t 181 true).run Tryz.prog w = .ok (.tuple #[v,.bool true]) w:=fun t v w => by kernel_rfl
 go_wp2_with fail;have hk0 : ∀ B W,B ≤ p → B ≤ q → Below B W w → Below B W (w.alloc (.cells #[.int .i64 c,.int .i64 i] 181)):=fun B W h1 h2 h3 => h3.alloc (by omega) _;have hA:=Blk.new w 181 #[.int .i64 c,.int .i64 i];have hp1:=hp.alloc (.cells #[.int .i64 c,.int .i64 i] 181);have hq1:=hq.alloc (.cells #[.int .i64 c,.int .i64 i] 181);obtain ⟨w1,hw1⟩ : ∃ w1,w.alloc (.cells #[.int .i64 c,.int .i64 i] 181) = w1:=⟨_,rfl⟩;obtain ⟨r,hr⟩ : ∃ r,w.heap.size = r:=⟨_,rfl⟩;rw [hw1] at hA hp1 hq1 hk0 ⊢;rw [hr] at hA ⊢;clear hw1 hr q1 q2 q3 p1 p2 p3 hp hq hta;have HK:=hid hk0;have hpq : p ≠ q:=hp1.ne_ hq1 (by decide);have hpr : p ≠ r:=hp1.ne_ hA (by decide);have hqr : q ≠ r:=hq1.ne_ hA (by decide);clear hk0;obtain ⟨q1,q2,q3⟩:=hp1.rules;obtain ⟨p1,p2,p3⟩:=hq1.rules;obtain ⟨r1,r2,r3⟩:=hA.rules;go_region
 all_goals go_wp2_with fail
 all_goals
  rw [← HQ.out];refine ⟨rfl,_,rfl,.tuple #[],by simp [results,Tryz.results119],rfl,rfl,((((hp1.set_ 0 (.slice none 0 0)).far (p:=⟨q,0,none⟩) hpq (.int .i64 c)).far (p:=⟨q,1,none⟩) hpq (.int .i64 i))).drew,(((hq1.far (p:=⟨p,0,none⟩) hpq.symm (.slice none 0 0)).set_ 0 (.int .i64 c)).set_ 1 (.int .i64 i)).drew,?_⟩;intro B W h1 h2 h3;have h4:=(((HK.out B W h1 h2 h3).setCell (p:=⟨p,0,none⟩) h1 (.slice none 0 0)).setCell (p:=⟨q,0,none⟩) h2 (.int .i64 c)).setCell (p:=⟨q,1,none⟩) h2 (.int .i64 i);exact below_drewN h4 1
theorem scanD_idle (p q:Nat) (w : World) :
  CallsD Tryz.prog 119 #[.pointer (some ⟨p,0,none⟩),.pointer (some ⟨q,0,none⟩)] .returning w fun e u' w' => e = .returned (.tuple #[])∧u' = .returning∧w' = w:=by
 refine callsD_of_wpS Tryz.func119 rfl fun c₀ cs hu => ?_;simp only [Tryz.ntmps119,List.size_toArray,List.length_cons,List.length_nil,Nat.reduceAdd,Nat.reduceSub,Array.replicate_succ,Array.replicate_zero,List.push_toArray,List.append_toArray,List.nil_append,List.cons_append];apply wpS_seq;apply wpS_region;simp [wpOpsS,go_sem,recoverD,hu,Exit.thenS];refine wpS_of_wp ?_;go_wp2_with fail;cases c₀
 simp_all [bodyPostS,results,Tryz.results119]
theorem own_new {w : World} {B g : Nat} {e : TypeId} {n : Nat} {xs : List Value} (h : Blk w g e xs.toArray) (hB : B ≤ g) (hn : xs.length = n) (hm : n ≤ maxLen) : w.ownsRow B e 1 (.slice (some ⟨g,0,none⟩) n n) n xs :=
 ⟨by omega,.inr ⟨g,n,xs.toArray,rfl,hB,h,Nat.le_refl _,hm,by simp [hn],by simp [← hn]⟩⟩
theorem own_mono {w : World} {B B' : Nat} {e : TypeId} {size n : Nat} {v : Value} {xs : List Value} (h : w.ownsRow B e size v n xs) (hb : B' ≤ B) : w.ownsRow B' e size v n xs :=
 ⟨h.1,h.2.imp_right fun ⟨g,cap,cur,hv,hge,r⟩ => ⟨g,cap,cur,hv,Nat.le_trans hb hge,r⟩⟩
theorem res_scan {w : World} {tmps : Array Value} {p : Nat} {v : Value} {c i : Int} (h2 : tmps.getD 2 undef = .pointer (some ⟨p,0,none⟩)) (h3 : tmps.getD 3 undef = .pointer (some ⟨p + 1,0,none⟩)) (hP : Blk w p 126 #[v]) (hQ : Blk w (p + 1) 29 #[.int .i64 c,.int .i64 i]) :
  (results Tryz.f83 tmps).run Tryz.prog w = .ok (.tuple #[v,flt c i]) w:=by
 have h2' : tmps[2]?.getD undef = .pointer (some ⟨p,0,none⟩):=by simpa using h2
 have h3' : tmps[3]?.getD undef = .pointer (some ⟨p + 1,0,none⟩):=by simpa using h3
 have hc:=hP.cell 0;have hc0:=hQ.cell 0;have hc1:=hQ.cell 1;have hd:=run_loadVar_row w (p + 1) 29 29 #[.int .i64 c,.int .i64 i] (0,0) _ hQ Tryz.underlying29 rfl (by kernel_rfl);simp [results,Tryz.results83,h2',h3',asAddr,hd,go_sem,hc,hc0,hc1,flt]
def ScPost (w : World) (R : Except (Int × Int) (List Tok)) (e : Ending) (w' : World) : Prop :=
 Below w.heap.size w w'∧match R with
 | .error (c,i) => e = .returned (.tuple #[.slice none 0 0,flt c i])
 | .ok ts => ∃ vt,e = .returned (.tuple #[vt,flt 0 0])∧w'.ownsRow w.heap.size 130 4 vt ts.length (ts.flatMap tokc)
theorem scan_flt (l : List UInt8) (w : World) (hl : l.length ≤ 9223372036854775807) (he : Env w) (c i:Int) (hs : sfault l = (c,i)) (hc : c ≠ 0) :
  Calls Tryz.prog 83 #[.string ⟨l.toArray⟩] w (ScPost w (.error (c,i))):=by
 have hmf : ∀ (fn : Fn) (first cap : Array Value) (w : World),(Instr.makeFunc fn first cap).run Tryz.prog w = .ok (.func fn first cap) w:=fun _ _ _ _ => rfl;have hcb : ((c:Int) == 0) = false:=by simpa using hc
 have HZ:=hid hs;have hb0 : Below w.heap.size w ((w.alloc (.cells #[.slice none 0 0] 126)).alloc (.cells #[.int .i64 0,.int .i64 0] 29)):=((Below.refl _ w).alloc (Nat.le_refl _) _).alloc (by simp) _;have hP:=(Blk.new w 126 #[.slice none 0 0]).alloc (.cells #[.int .i64 0,.int .i64 0] 29);have hQ:=Blk.new (w.alloc (.cells #[.slice none 0 0] 126)) 29 #[.int .i64 0,.int .i64 0];have hsz : (w.alloc (.cells #[.slice none 0 0] 126)).heap.size = w.heap.size + 1:=by simp
 rw [hsz] at hQ;clear hs hc hsz
 go_enter_defers Tryz.func83,Tryz.ntmps83
 go_wp2_with fail;refine (check_any l _ hl (he.keepB hb0).1).mono ?_;rintro e w1 ⟨rfl,hb1⟩;rw [HZ.out];have hP1:=hP.belowS hb1;have hQ1:=hQ.belowS hb1;have hb:=below_then hb0 hb1 (by simp; omega);clear hb0 hb1 hP hQ he;have hF:=Blk.new w1 29 #[.int .i64 c,.int .i64 i];have hPF : w.heap.size ≠ w1.heap.size:=Nat.ne_of_lt hP1.lt;have hQF : w.heap.size + 1 ≠ w1.heap.size:=Nat.ne_of_lt hQ1.lt;obtain ⟨q1,q2,q3⟩:=hP1.rules;obtain ⟨p1,p2,p3⟩:=hQ1.rules;unfold flt;go_wp2_with fail;have hP2:=hP1.alloc (.cells #[.int .i64 c,.int .i64 i] 29);have hQ2:=hQ1.alloc (.cells #[.int .i64 c,.int .i64 i] 29);have hb2:=hb.alloc hb.size (.cells #[.int .i64 c,.int .i64 i] 29);obtain ⟨w2,hw2⟩ : ∃ w2,w1.alloc (.cells #[.int .i64 c,.int .i64 i] 29) = w2:=⟨_,rfl⟩;rw [hw2] at hF hP2 hQ2 hb2 ⊢;clear hw2 q1 q2 q3 p1 p2 p3 hP1 hQ1 hb;obtain ⟨r,hr⟩ : ∃ r,w1.heap.size = r:=⟨_,rfl⟩;rw [hr] at hF hPF hQF ⊢;obtain ⟨p,hp⟩ : ∃ p,w.heap.size = p:=⟨_,rfl⟩;rw [hp] at hP2 hQ2 hPF hQF ⊢;obtain ⟨q1,q2,q3⟩:=hP2.rules;obtain ⟨p1,p2,p3⟩:=hQ2.rules;obtain ⟨r1,r2,r3⟩:=hF.rules;go_region
 all_goals go_wp2_with fail
 all_goals
  refine ⟨_,res_scan (p:=p) rfl rfl ((((hP2.set_ 0 (.slice none 0 0)).far (p:=⟨p + 1,0,none⟩) (by simp) (.int .i64 c)).far (p:=⟨p + 1,1,none⟩) (by simp) (.int .i64 i))).drew (((hQ2.far (p:=⟨p,0,none⟩) (by simp) (.slice none 0 0)).set_ 0 (.int .i64 c)).set_ 1 (.int .i64 i)).drew,?_,rfl⟩;exact (((hb2.setCell (p:=⟨p,0,none⟩) (by show w.heap.size ≤ p; omega) (.slice none 0 0)).setCell (p:=⟨p + 1,0,none⟩) (by show w.heap.size ≤ p + 1; omega) (.int .i64 c)).setCell (p:=⟨p + 1,1,none⟩) (by show w.heap.size ≤ p + 1; omega) (.int .i64 i)).drew
theorem scan_good (l : List UInt8) (w : World) (hl : l.length ≤ 16000) (he : Env w) (hs : sfault l = (0,0)) :
  Calls Tryz.prog 83 #[.string ⟨l.toArray⟩] w (ScPost w (scanF l (l.length + 1) ⟨0,[0],[],[],true⟩)):=by
 have hmf : ∀ (fn : Fn) (first cap : Array Value) (w : World),(Instr.makeFunc fn first cap).run Tryz.prog w = .ok (.func fn first cap) w:=fun _ _ _ _ => rfl;have hmm:=@run_makeMap Tryz.prog;have HZ:=hid hs;have hb0 : Below w.heap.size w ((w.alloc (.cells #[.slice none 0 0] 126)).alloc (.cells #[.int .i64 0,.int .i64 0] 29)):=((Below.refl _ w).alloc (Nat.le_refl _) _).alloc (by simp) _;have hP:=(Blk.new w 126 #[.slice none 0 0]).alloc (.cells #[.int .i64 0,.int .i64 0] 29);have hQ:=Blk.new (w.alloc (.cells #[.slice none 0 0] 126)) 29 #[.int .i64 0,.int .i64 0];have hsz : (w.alloc (.cells #[.slice none 0 0] 126)).heap.size = w.heap.size + 1:=by simp
 rw [hsz] at hQ;clear hs hsz
 go_enter_defers Tryz.func83,Tryz.ntmps83
 go_wp2_with fail;refine (check_any l _ (by omega) (he.keepB hb0).1).mono ?_;rintro e w1 ⟨rfl,hb1⟩;rw [HZ.out];have hP1:=hP.belowS hb1;have hQ1:=hQ.belowS hb1;have hb:=below_then hb0 hb1 (by simp; omega);have he1:=he.keepB hb;clear hb0 hb1 hP hQ he;unfold flt;go_wp2_with fail;have hbm : Below w1.heap.size w1 (((w1.alloc (.cells #[.int .i64 0,.int .i64 0] 29)).alloc (.cells #[.int .i64 0] 3)).alloc (.map #[] 0)):=(((Below.refl _ w1).alloc (Nat.le_refl _) _).alloc (by simp) _).alloc (by simp; omega) _;have hI:=(Blk.new (w1.alloc (.cells #[.int .i64 0,.int .i64 0] 29)) 3 #[.int .i64 0]).alloc (.map #[] 0);have hM:=World.ownsMap_made ((w1.alloc (.cells #[.int .i64 0,.int .i64 0] 29)).alloc (.cells #[.int .i64 0] 3)) Tryz.prog 9 (plainElem (H:=Unit) Tryz.prog 3);rw [show (w1.alloc (.cells #[.int .i64 0,.int .i64 0] 29)).heap.size = w1.heap.size + 1 from by simp] at hI;rw [show ((w1.alloc (.cells #[.int .i64 0,.int .i64 0] 29)).alloc (.cells #[.int .i64 0] 3)).heap.size = w1.heap.size + 1 + 1 from by simp] at hM;obtain ⟨wm,hwm⟩ : ∃ wm,(((w1.alloc (.cells #[.int .i64 0,.int .i64 0] 29)).alloc (.cells #[.int .i64 0] 3)).alloc (.map #[] 0)) = wm:=⟨_,rfl⟩;rw [hwm] at hbm hI hM ⊢;clear hwm;have hem:=he1.keepB hbm;clear he1;refine (signs_any wm hem).mono ?_;rintro e ws ⟨rfl,hws⟩;have hS : Blk ws wm.heap.size 9 (strs sgs).toArray:=by rw [hws]; exact Blk.new wm 9 (strs sgs).toArray
 have hI2 : Blk ws (w1.heap.size + 1) 3 #[.int .i64 0]:=by rw [hws]; exact hI.alloc (.cells (strs sgs).toArray 9)
 have hM2 : ws.ownsMap Tryz.prog 9 (plainElem (H:=Unit) Tryz.prog 3) (w1.heap.size + 1 + 1) 0 (.map []):=by rw [hws]; exact hM.alloc (.cells (strs sgs).toArray 9)
 have hbs : Below w1.heap.size w1 ws:=by rw [hws]; exact hbm.alloc hbm.size _
 have hes : Env ws:=by rw [hws]; exact hem.keepB ((Below.refl _ wm).alloc (Nat.le_refl _) _)
 have hmS : w1.heap.size + 1 + 1 < wm.heap.size:=hM.lt;obtain ⟨S,hS'⟩ : ∃ S,wm.heap.size = S:=⟨_,rfl⟩;rw [hS'] at hS hmS ⊢;have hSlt : S < ws.heap.size:=hS.lt;have hIlt : w1.heap.size + 1 < ws.heap.size:=hI2.lt;have hMlt : w1.heap.size + 1 + 1 < ws.heap.size:=hM2.lt;clear hws hI hM hbm hem hS';go_wp2_with fail;obtain ⟨cs,hcs⟩ : ∃ cs,#[Value.string ⟨l.toArray⟩,.int .i64 0,.int .i64 1,.int .i64 0,.slice (some ⟨w1.heap.size + 1,0,none⟩) 1 1,.slice none 0 0,.slice none 0 0,.map (some (w1.heap.size + 1 + 1)),.slice (some ⟨S,0,none⟩) 43 43] = cs:=⟨_,rfl⟩;rw [hcs];refine (keywords_any _ (hes.keepB ((Below.refl _ ws).alloc (Nat.le_refl _) _))).mono ?_;rintro e wk ⟨rfl,hwk⟩;have hsz : (ws.alloc (.cells cs 180)).heap.size = ws.heap.size + 1:=by simp
 rw [hsz];have hG : Blk wk ws.heap.size 180 cs:=by rw [hwk]; exact (Blk.new ws 180 cs).alloc _
 have hK : Blk wk (ws.heap.size + 1) 9 (strs kws).toArray:=by rw [hwk,← hsz]; exact Blk.new _ _ _
 have hS3 : Blk wk S 9 (strs sgs).toArray:=by rw [hwk]; exact (hS.alloc _).alloc _
 have hI3 : Blk wk (w1.heap.size + 1) 3 #[.int .i64 0]:=by rw [hwk]; exact (hI2.alloc _).alloc _
 have hM3 : wk.ownsMap Tryz.prog 9 (plainElem (H:=Unit) Tryz.prog 3) (w1.heap.size + 1 + 1) 0 (.map []):=by rw [hwk]; exact (hM2.alloc _).alloc _
 have hbk : Below w1.heap.size w1 wk:=by rw [hwk]; exact (hbs.alloc hbs.size _).alloc (by rw [hsz]; omega) _
 have hwG:=hbs.size;obtain ⟨g,hg⟩ : ∃ g,ws.heap.size = g:=⟨_,rfl⟩;rw [hg] at hG hK hwG hSlt hIlt hMlt ⊢;clear hwk hsz hS hI2 hM2 hbs hes hg;go_wp2_with fail
 go_loopw [22] (fun i wr => ∃ k : Nat,k ≤ 38∧i = .int .i64 (k:Int)∧wr.ownsMap Tryz.prog 9 (plainElem (H:=Unit) Tryz.prog 3) (w1.heap.size + 1 + 1) k (wordsK k)∧wk.grownBy wr (some (w1.heap.size + 1 + 1))) (fun i _ => 38 - (RowKit.intOf i).toNat)
 case atStart => exact ⟨0,by omega,rfl,hM3,⟨rfl,rfl,rfl,Nat.le_refl _,fun _ _ _ => rfl⟩⟩
 case round =>
  obtain ⟨k,hk,rfl,hown,hgr⟩:=hrel;have hG4:=hG.grown hgr (by simp; omega);have hK4:=hK.grown hgr (by simp; omega);subst hcs;obtain ⟨q1,q2,q3⟩:=hG4.rules
  by_cases hlt : k < 38
  ·obtain ⟨x,HX,hxl⟩:=kws_at k hlt;have hcell : wr.cell? ⟨g + 1,k,none⟩ = some (.string ⟨x.toArray⟩):=by
    rw [hK4.cell k];simp [strs,HX.out]
   have hkey:=WideMaps.keyOf_string_mk (P:=Tryz.prog) (k:=9) Tryz.underlying9 (s:=⟨x.toArray⟩) (by simp [ByteArray.size,maxLen]; omega);have hval : plainElem (H:=Unit) Tryz.prog 3 (.int .i64 (k:Int)) = some (.lit (.int .i64 (k:Int)),[]):=plainElem_int Tryz.underlying3 (WalkArith.wf_i64 ⟨by omega,by omega⟩);go_wp2_with (at_mapUpdate; refine wpList_mapUpdate_own _ rfl _ _ _ 75 rfl 9 3 law Tryz.underlying75 _ (w1.heap.size + 1 + 1) k _ rfl hown (by unfold maxLen; omega) _ _ _ rfl rfl hkey _ [] hval ?_; intro w5 hown5 hgr5);go_roundw
   case rel => exact ⟨k + 1,by omega,by go_num,by rw [wordsK_succ k hlt x HX.out]; exact hown5,hgr.trans hgr5⟩
   case measure => simp [RowKit.intOf]; omega
  ·have hk38 : k = 38:=(by omega);subst hk38;rw [wordsK_all] at hown;have hbw : Below w1.heap.size w1 wr:=hbk.grown hgr hbk.size (fun j hj => by cases hj; omega);have hS4:=hS3.grown hgr (by simp; omega);have hI4:=hI3.grown hgr (by simp);have hSc : Sc wr w1.heap.size g l 0 [0] [] [] (.slice (some ⟨w1.heap.size + 1,0,none⟩) 1 1) (.slice none 0 0) (.slice none 0 0) (w1.heap.size + 1 + 1) (.slice (some ⟨S,0,none⟩) 43 43) :=
    ⟨hG4,by omega,own_new (xs:=[.int .i64 0]) hI4 (by omega) rfl (by unfold maxLen; omega),World.ownsRow_nil _ _ _ _,World.ownsRow_nil _ _ _ _,hown,own_new hS4 (by omega) rfl (by unfold maxLen; omega)⟩
   have HSc:=hid hSc;have hP4:=hP1.belowS hbw;have hQ4:=hQ1.belowS hbw;clear hSc hS4 hI4 hG4 hK4 hown hgr hG hK hS3 hI3 hM3 hbk q1 q2 q3;go_wp2_with fail;refine (scan_any HSc.out hl hbw).mono ?_;rintro e we hpost;obtain ⟨R,hR⟩ : ∃ R,scanF l (l.length + 1) ⟨0,[0],[],[],true⟩ = R:=⟨_,rfl⟩;rw [hR] at hpost ⊢;have HR:=hid hR;clear hR;rcases R with ⟨c,i⟩ | ts
   ·obtain ⟨rfl,hbe⟩:=hpost;refine leaves_cons (f:=119) (args:=#[.pointer (some ⟨w.heap.size,0,none⟩),.pointer (some ⟨w.heap.size + 1,0,none⟩)]) (by simp) (by simp [go_sem]) ?_;refine (scanD_pan _ _ c i _ _ _ _ (hP1.belowS hbe) (hQ1.belowS hbe)).mono ?_;rintro e u' w6 ⟨rfl,rfl,hP6,hQ6,hbb⟩;exact ⟨_,res_scan (p:=w.heap.size) rfl rfl hP6 hQ6,hbb _ _ (Nat.le_refl _) (Nat.le_succ _) (below_then hb hbe hb.size),rfl⟩
   ·obtain ⟨at_,ind,op,vi,vo,vt,rfl,hs,hbe⟩:=hpost;have hP5:=hP1.belowS hbe;have hQ5:=hQ1.belowS hbe;have hge:=hs.ge;have hPlt:=hP1.lt;have hQlt:=hQ1.lt;have hgp : g ≠ w.heap.size:=(by omega);have hgq : g ≠ w.heap.size + 1:=(by omega);obtain ⟨A,cc,rfl,_,_⟩:=own_form hs.ot;have HS:=hid hs;unfold Sc scCells at hs;obtain ⟨q1,q2,q3⟩:=hs.blk.rules;obtain ⟨p1,p2,p3⟩:=hP5.rules;obtain ⟨r1,r2,r3⟩:=hQ5.rules;clear hs HSc;go_wp2_with fail;refine leaves_cons (f:=119) (args:=#[.pointer (some ⟨w.heap.size,0,none⟩),.pointer (some ⟨w.heap.size + 1,0,none⟩)]) (by simp) (by simp [go_sem]) ?_;refine (scanD_idle _ _ _).mono ?_;rintro e u' w6 ⟨rfl,rfl,rfl⟩;have hot:=HS.out.ot;have hpn:=own_blk_ne hot hP5 (by decide);have hqn:=own_blk_ne hot hQ5 (by decide);refine ⟨_,res_scan (p:=w.heap.size) rfl rfl ((((hP5.set_ 0 (.slice A ts.length cc)).far (p:=⟨w.heap.size + 1,0,none⟩) (by simp) (.int .i64 0)).far (p:=⟨w.heap.size + 1,1,none⟩) (by simp) (.int .i64 0))) (((hQ5.far (p:=⟨w.heap.size,0,none⟩) (by simp) (.slice A ts.length cc)).set_ 0 (.int .i64 0)).set_ 1 (.int .i64 0)),?_,?_⟩
    ·have h0:=below_then hb hbe hb.size;exact ((h0.setCell (p:=⟨w.heap.size,0,none⟩) (Nat.le_refl _) _).setCell (p:=⟨w.heap.size + 1,0,none⟩) (Nat.le_succ _) _).setCell (p:=⟨w.heap.size + 1,1,none⟩) (Nat.le_succ _) _
    ·rw [HR.out];refine ⟨_,rfl,?_⟩;exact ownsRow_setCell_other (ownsRow_setCell_other (ownsRow_setCell_other (own_mono hot hb.size) hpn _) hqn _) hqn _
theorem scan_all (l : List UInt8) (w : World) (hl : l.length ≤ 9223372036854775807) (he : Env w) :
  Calls Tryz.prog 83 #[.string ⟨l.toArray⟩] w (ScPost w (scanT l)):=by
 unfold scanT
 by_cases h : (sfault l).1 ≠ 0
 ·rw [if_pos h];exact scan_flt l w hl he _ _ rfl h
 ·have h0 : (sfault l).1 = 0:=(by simpa using h);rw [if_neg h];have hz : sfault l = (0,0)∧l.length ≤ 16000:=by
   unfold sfault at h0 ⊢;split at h0
   ·simp at h0
   ·rename_i hlen;rw [if_neg hlen];refine ⟨?_,by omega⟩;split at h0
    ·rfl
    ·simp at h0
  exact scan_good l w hz.2 he hz.1
end
section
open Go.Lib
def cutL (l : List UInt8) (a b:Nat) : List UInt8:=(l.drop a).take (b - a)
theorem cutL_len {l : List UInt8} {a b : Nat} (h : b ≤ l.length) : (cutL l a b).length = b - a:=by
 unfold cutL;rw [List.length_take,List.length_drop];omega
theorem cutL_at {l : List UInt8} {a b k : Nat} (h : a + k < b) : at0 (cutL l a b) k = at0 l (a + k):=by
 unfold cutL;rw [at0_take _ _ _ (by omega),at0_drop]
theorem cutL_nil {l : List UInt8} {a b : Nat} (h : b ≤ l.length) : cutL l a b = [] ↔ b ≤ a:=by
 rw [← List.length_eq_zero_iff,cutL_len h];omega
def hexD (c : UInt8) : Option Nat :=
 if 48 ≤ c.toNat∧c.toNat ≤ 57 then some (c.toNat - 48)
 else if 97 ≤ c.toNat∧c.toNat ≤ 102 then some (c.toNat - 87)
 else if 65 ≤ c.toNat∧c.toNat ≤ 70 then some (c.toNat - 55)
 else none
def hexF : Nat → List UInt8 → Option Nat
 | n,[] => some n
 | n,c :: r => match hexD c with
  | none => none
  | some d => if n * 16 + d < 4294967296 then hexF (n * 16 + d) r else none
def hexS (r : List UInt8) : Option Nat:=if r = [] then none else hexF 0 r
theorem hexD_byte {c : UInt8} {d : Nat} (h : hexD c = some d) : c ≠ 92∧isQuo c = false∧d < 16∧c ≠ 125:=by
 unfold hexD at h;have hb : 48 ≤ c.toNat∧c.toNat ≤ 57∨97 ≤ c.toNat∧c.toNat ≤ 102∨65 ≤ c.toNat∧c.toNat ≤ 70:=by
  split at h
  ·exact .inl ‹_›
  ·split at h
   ·exact .inr (.inl ‹_›)
   ·split at h
    ·exact .inr (.inr ‹_›)
    ·cases h
 have hd : d < 16:=by
  split at h
  ·injection h with h; omega
  ·split at h
   ·injection h with h; omega
   ·split at h
    ·injection h with h; omega
    ·cases h
 refine ⟨by rintro rfl; revert hb; decide,?_,hd,by rintro rfl; revert hb; decide⟩;unfold isQuo;rw [Bool.or_eq_false_iff,beq_eq_false_iff_ne,beq_eq_false_iff_ne];exact ⟨by rintro rfl; revert hb; decide,by rintro rfl; revert hb; decide⟩
theorem hexF_bytes : ∀ (r : List UInt8) (n m:Nat),hexF n r = some m → ∀ j,j < r.length → at0 r j ≠ 92∧isQuo (at0 r j) = false∧at0 r j ≠ 125
 | [],_,_,_,j,hj => by simp at hj
 | c :: r,n,m,h,j,hj => by
  unfold hexF at h;cases hd : hexD c with
  | none => rw [hd] at h; cases h
  | some d =>
   rw [hd] at h;simp only at h;split at h
   ·rcases j with _ | j
    ·have:=hexD_byte hd;exact ⟨this.1,this.2.1,this.2.2.2⟩
    ·exact hexF_bytes r _ m h j (by simpa using hj)
   ·cases h
theorem hexS_bytes {r : List UInt8} {m : Nat} (h : hexS r = some m) : r ≠ []∧∀ j,j < r.length → at0 r j ≠ 92∧isQuo (at0 r j) = false∧at0 r j ≠ 125:=by
 unfold hexS at h;split at h
 ·cases h
 ·exact ⟨‹_›,hexF_bytes r 0 m h⟩
theorem hexF_lt : ∀ (r : List UInt8) (n m:Nat),n < 4294967296 → hexF n r = some m → m < 4294967296
 | [],n,m,hn,h => by unfold hexF at h; injection h with h; omega
 | c :: r,n,m,hn,h => by
  unfold hexF at h;cases hd : hexD c with
  | none => rw [hd] at h; cases h
  | some d =>
   rw [hd] at h;simp only at h;split at h
   ·exact hexF_lt r _ m ‹_› h
   ·cases h
theorem hexS_lt {r : List UInt8} {m : Nat} (h : hexS r = some m) : m < 4294967296:=by
 unfold hexS at h;split at h
 ·cases h
 ·exact hexF_lt r 0 m (by decide) h
theorem hexF_pow : ∀ (r : List UInt8) (n m:Nat),hexF n r = some m → m < (n + 1) * 16 ^ r.length
 | [],n,m,h => by unfold hexF at h; injection h with h; simp; omega
 | c :: r,n,m,h => by
  unfold hexF at h;cases hd : hexD c with
  | none => rw [hd] at h; cases h
  | some d =>
   rw [hd] at h;simp only at h;split at h
   ·have h1:=hexF_pow r _ m h;have h2:=(hexD_byte hd).2.2.1;have h3 : (n * 16 + d + 1) * 16 ^ r.length ≤ ((n + 1) * 16) * 16 ^ r.length:=Nat.mul_le_mul (by omega) (Nat.le_refl _);rw [List.length_cons,Nat.pow_succ,Nat.mul_comm (16 ^ r.length) 16,← Nat.mul_assoc];omega
   ·cases h
theorem hexS_pow {r : List UInt8} {m : Nat} (h : hexS r = some m) : m < 16 ^ r.length:=by
 unfold hexS at h;split at h
 ·cases h
 ·have:=hexF_pow r 0 m h;simpa using this
def brcL (l : List UInt8) (x : Sht) (i:Nat) : Nat:=span (· != 125) (cutL l (i + 2) x.lim)
def validR (n:Nat) : Bool:=decide (n < 1114112) && !(decide (55296 ≤ n) && decide (n ≤ 57343))
def escS (l : List UInt8) (x : Sht) (i:Nat) : Option (Nat × Nat) :=
 if at0 l (i + 1) = 110 then some (10,i + 2)
 else if at0 l (i + 1) = 116 then some (9,i + 2)
 else if at0 l (i + 1) = 92 then some (92,i + 2)
 else if at0 l (i + 1) = 34 then some (34,i + 2)
 else if at0 l (i + 1) = 39 then some (39,i + 2)
 else if at0 l (i + 1) = 120 then (if i + 4 ≤ x.lim then (hexS (cutL l (i + 2) (i + 4))).map fun n => (n,i + 4) else none)
 else if at0 l (i + 1) = 117∧x.pre ≠ 98∧at0 l (i + 2) = 123 then
  match hexS (cutL l (i + 3) (i + 2 + brcL l x i)) with
  | none => none
  | some n => if i + 2 + brcL l x i < x.lim∧brcL l x i ≤ 7∧validR n = true then some (n,i + 3 + brcL l x i) else none
 else none
def charS (l : List UInt8) (x : Sht) (i:Nat) : Except Nat (Nat × Nat) :=
 if x.pre = 98∧128 ≤ (decodeL (l.drop i)).1 then .error i
 else if at0 l i ≠ 92∨x.pre = 114 then .ok ((decodeL (l.drop i)).1,i + (decodeL (l.drop i)).2)
 else match escS l x i with
  | none => .error i
  | some r => .ok r
theorem decodeL_head (l : List UInt8) (hne : l ≠ []) : bAt l 0 < 128∧decodeL l = (bAt l 0,1) ∨
  128 ≤ (decodeL l).1∧1 ≤ (decodeL l).2∧(decodeL l).2 ≤ l.length∧(decodeL l).2 ≤ 4∧∀ j,j < (decodeL l).2 → 128 ≤ bAt l j:=by
 have hl:=List.length_pos_iff.2 hne
 by_cases h0 : bAt l 0 < 128
 ·refine .inl ⟨h0,?_⟩;rw [decodeL_eq];unfold decodeN;rw [if_pos h0]
 ·refine .inr ?_;rcases decodeN_cases l.length (bAt l 0) (bAt l 1) (bAt l 2) (bAt l 3) with ⟨h,_⟩ | h | ⟨hn,h1,h2,c,hc,h⟩ | ⟨hn,h1,h2,h3,c,hc,h⟩ | ⟨hn,h1,h2,h3,h4,c,hc,h⟩
  ·exact absurd h h0
  ·rw [decodeL_eq,h];exact ⟨by simp,by simp,hl,by simp,fun j hj => by simp only at hj; rw [show j = 0 by omega]; omega⟩
  ·have h:=h l.length (bAt l 2) (bAt l 3) hn;rw [decodeL_eq,h];exact ⟨hc,by simp,hn,by simp,fun j hj => by simp only at hj; rcases (show j = 0∨j = 1 by omega) with rfl | rfl <;> omega⟩
  ·have h:=h l.length (bAt l 3) hn;rw [decodeL_eq,h];exact ⟨hc,by simp,hn,by simp,fun j hj => by simp only at hj; rcases (show j = 0∨j = 1∨j = 2 by omega) with rfl | rfl | rfl <;> omega⟩
  ·have h:=h l.length hn;rw [decodeL_eq,h];exact ⟨hc,by simp,hn,by simp,fun j hj => by simp only at hj; rcases (show j = 0∨j = 1∨j = 2∨j = 3 by omega) with rfl | rfl | rfl | rfl <;> omega⟩
theorem bAt_drop (l : List UInt8) (i j:Nat) : bAt (l.drop i) j = (at0 l (i + j)).toNat:=by
 show (at0 (l.drop i) j).toNat = _;rw [at0_drop]
theorem high_byte {c : UInt8} (h : 128 ≤ c.toNat) : c ≠ 92∧isQuo c = false:=by
 refine ⟨by rintro rfl; revert h; decide,?_⟩;unfold isQuo;rw [Bool.or_eq_false_iff,beq_eq_false_iff_ne,beq_eq_false_iff_ne];exact ⟨by rintro rfl; revert h; decide,by rintro rfl; revert h; decide⟩
theorem Gd.brc {l : List UInt8} (hs : Strg l) {i : Nat} (h : Gd l i) (hi : i < (shtOf l).lim) (hc : at0 l i = 92) (hr : (shtOf l).pre ≠ 114) (h3 : at0 l (i + 2) = 123) (hn : at0 l (i + 1) ≠ 10) : i + 2 < (shtOf l).lim:=by
 have h2:=(h.esc hs hi hc hr).2 hn;have hl:=lim_lt hs;rcases Nat.lt_or_ge (i + 2) (shtOf l).lim with h4 | h4
 ·exact h4
 ·exfalso;have h5 : i + 2 = (shtOf l).lim:=(by have:=h2.le; omega);have hp : (quotes (l.drop (strP l))).isPrefixOf (l.drop (i + 2)) = true:=by
   cases hp : (quotes (l.drop (strP l))).isPrefixOf (l.drop (i + 2))
   ·exfalso;have h6:=h2;unfold Gd at h6;rw [se_other _ _ l (i + 2) (i + 2) (by omega) hp (by rw [h3]; rintro ⟨e,_⟩; exact absurd e (by decide)) (by rw [h3]; rintro ⟨e,_⟩; exact absurd e (by decide))] at h6;have:=strEnd_room _ _ _ _ _ _ h6;omega
   ·rfl
  have:=quo_head hs hp;rw [h3] at this;exact absurd this (by decide)
theorem escS_gd {l : List UInt8} (hs : Strg l) {i : Nat} (h : Gd l i) (hi : i < (shtOf l).lim) (hc : at0 l i = 92) (hr : (shtOf l).pre ≠ 114) {n j : Nat} (he : escS l (shtOf l) i = some (n,j)) : Gd l j∧i < j∧n < 1114112:=by
 have hl:=lim_lt hs;have hE:=h.esc hs hi hc hr;have hb : ∀ c : UInt8,c.toNat < 1114112:=fun c => Nat.lt_trans c.toNat_lt (by decide);unfold escS at he;split at he
 ·rename_i h1;injection he with he;injection he with h2 h3;subst h2 h3;exact ⟨hE.2 (by rw [h1]; decide),by omega,by decide⟩
 split at he
 ·rename_i h1;injection he with he;injection he with h2 h3;subst h2 h3;exact ⟨hE.2 (by rw [h1]; decide),by omega,by decide⟩
 split at he
 ·rename_i h1;injection he with he;injection he with h2 h3;subst h2 h3;exact ⟨hE.2 (by rw [h1]; decide),by omega,by decide⟩
 split at he
 ·rename_i h1;injection he with he;injection he with h2 h3;subst h2 h3;exact ⟨hE.2 (by rw [h1]; decide),by omega,by decide⟩
 split at he
 ·rename_i h1;injection he with he;injection he with h2 h3;subst h2 h3;exact ⟨hE.2 (by rw [h1]; decide),by omega,by decide⟩
 split at he
 ·rename_i h1;split at he
  ·rename_i h4;cases hx : hexS (cutL l (i + 2) (i + 4)) with
   | none => rw [hx] at he; cases he
   | some m =>
    rw [hx] at he;simp only [Option.map_some] at he;injection he with he;injection he with h2 h3;subst h2 h3;have hcl:=cutL_len (l:=l) (a:=i + 2) (b:=i + 4) (by omega);have hbt:=(hexS_bytes hx).2;have hrun:=Gd.run hs 2 (hE.2 (by rw [h1]; decide)) (fun j hj => by
     have:=hbt j (by omega);rw [cutL_at (by omega)] at this;exact ⟨this.1,this.2.1⟩) (by omega)
    have hp:=hexS_pow hx;rw [hcl,show i + 4 - (i + 2) = 2 by omega] at hp;exact ⟨hrun.1,by omega,by omega⟩
  ·cases he
 split at he
 ·rename_i h1;obtain ⟨h1,_,h5⟩:=h1;have hn10 : at0 l (i + 1) ≠ 10:=(by rw [h1]; decide);have hlt:=h.brc hs hi hc hr h5 hn10;cases hx : hexS (cutL l (i + 3) (i + 2 + brcL l (shtOf l) i)) with
  | none => rw [hx] at he; cases he
  | some m =>
   rw [hx] at he;simp only at he;split at he
   ·rename_i h4;injection he with he;injection he with h2 h3;subst h2 h3;have hcl:=cutL_len (l:=l) (a:=i + 3) (b:=i + 2 + brcL l (shtOf l) i) (by omega);have hbt:=hexS_bytes hx;have hclose : at0 l (i + 2 + brcL l (shtOf l) i) = 125:=by
     have hsp:=(span_spec (· != 125) (cutL l (i + 2) (shtOf l).lim)).2 (by rw [cutL_len (by omega)]; have:=h4.1; unfold brcL at this; omega);rw [cutL_at (by have:=h4.1; unfold brcL at this; omega)] at hsp;show at0 l (i + 2 + span (· != 125) (cutL l (i + 2) (shtOf l).lim)) = 125;simpa using hsp
    have hrun:=Gd.run hs (1 + brcL l (shtOf l) i) (hE.2 hn10) (fun j hj => by
     rcases Nat.lt_or_ge j 1 with hj0 | hj0
     ·rw [show j = 0 by omega,Nat.add_zero,h5];exact ⟨by decide,by decide⟩
     ·rcases Nat.lt_or_ge j (brcL l (shtOf l) i) with hj1 | hj1
      ·have:=hbt.2 (j - 1) (by omega);rw [cutL_at (by omega),show i + 3 + (j - 1) = i + 2 + j by omega] at this;exact ⟨this.1,this.2.1⟩
      ·rw [show j = brcL l (shtOf l) i by omega,hclose];exact ⟨by decide,by decide⟩) (by omega)
    have hv:=h4.2.2;unfold validR at hv;rw [Bool.and_eq_true,decide_eq_true_eq] at hv;exact ⟨by have:=hrun.1; rwa [show i + 2 + (1 + brcL l (shtOf l) i) = i + 3 + brcL l (shtOf l) i by omega] at this,by omega,hv.1⟩
   ·cases he
 ·cases he
theorem decodeL_lt (l : List UInt8) : (decodeL l).1 < 1114112:=by
 rw [decodeL_eq];have h0:=bAt_lt l 0;unfold decodeN;split
 ·simp only; omega
 ·split
  ·split
   ·simp only; omega
   ·decide
  ·split
   ·split
    ·simp only; omega
    ·decide
   ·split
    ·split
     ·simp only; omega
     ·decide
    ·decide
theorem charS_gd {l : List UInt8} (hs : Strg l) {i : Nat} (h : Gd l i) (hi : i < (shtOf l).lim) {n j : Nat} (he : charS l (shtOf l) i = .ok (n,j)) : Gd l j∧i < j∧n < 1114112:=by
 have hl:=lim_lt hs;have hne : l.drop i ≠ []:=fun e => by
  have:=congrArg List.length e;rw [List.length_drop] at this;simp at this;omega
 unfold charS at he;split at he
 ·cases he
 split at he
 ·rename_i h1;injection he with he;injection he with h2 h3;subst h2 h3;refine ⟨?_,?_,decodeL_lt _⟩
  ·rcases decodeL_head (l.drop i) hne with ⟨hb,hd⟩ | ⟨hc,h1',h2,h4,hb⟩
   ·rw [hd];exact h.next hs hi (fun e => h1.elim (fun e2 => e2 e.1) (fun e2 => e.2.1 e2))
   ·rw [List.length_drop] at h2;exact (Gd.run hs _ h (fun j hj => by
     have:=hb j hj;rw [bAt_drop] at this;exact high_byte this) (by omega)).1
  ·have:=width_pos (l.drop i) hne;omega
 ·rename_i h1;simp only [not_or,Decidable.not_not] at h1;cases hx : escS l (shtOf l) i with
  | none => rw [hx] at he; cases he
  | some r =>
   rw [hx] at he;injection he with he;subst he;exact escS_gd hs h hi h1.1 h1.2 hx
end
end Go.Proofs.YtonehlkiackhcaaGreatDoor