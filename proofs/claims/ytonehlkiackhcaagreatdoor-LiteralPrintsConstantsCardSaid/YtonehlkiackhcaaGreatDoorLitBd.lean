/- The literals: strings.Builder's methods in plain words. Nothing is claimed here. -/
import Derived.Test.YtonehlkiackhcaaGreatDoorLitQ
import Derived.Great.Walk
import Derived.WalkSpells
set_option linter.unusedVariables false
set_option linter.unusedSimpArgs false
set_option maxRecDepth 100000
set_option maxHeartbeats 16000000
namespace Go.Proofs.YtonehlkiackhcaaGreatDoor
section
open Go.RowKit Go.Lib
theorem rDis (w : World) : (callFunc 223 #[]).run Tryz.prog w = .ok (.value (.tuple #[])) w:=run_call_mark0 Tryz.func223 (by kernel_rfl) (by kernel_rfl) (by kernel_rfl) .disable (by kernel_rfl) w
theorem rEn (w : World) : (callFunc 225 #[]).run Tryz.prog w = .ok (.value (.tuple #[])) w:=run_call_mark0 Tryz.func225 (by kernel_rfl) (by kernel_rfl) (by kernel_rfl) .enable (by kernel_rfl) w
theorem rAcq (a : Addr) (w : World) : (callFunc 226 #[.pointer (some a)]).run Tryz.prog w = .ok (.value (.tuple #[])) w:=run_call_marked Tryz.func226 (by kernel_rfl) (by kernel_rfl) (by kernel_rfl) .acquire (by kernel_rfl) a w
theorem rRel (a : Addr) (w : World) : (callFunc 228 #[.pointer (some a)]).run Tryz.prog w = .ok (.value (.tuple #[])) w:=run_call_marked Tryz.func228 (by kernel_rfl) (by kernel_rfl) (by kernel_rfl) .releaseMerge (by kernel_rfl) a w
theorem store_deferred (a : Addr) (x : Value) (u : FrameMode) (w : World) (hc : w.cell? a = some x) (hz : w.frozen? a = false) :
  CallsD Tryz.prog 172 #[.pointer (some a),.bool true] u w fun e u' w' => u' = u∧(e = .returned (.tuple #[])∧w' = w.drew.setCell a (.int .u32 1)):=by
 have hc' : w.drew.cell? a = some x:=by go_simp
 have hz' : w.drew.frozen? a = false:=by go_simp
 have hst:=run_call_store (P:=Tryz.prog) Tryz.func205 (by kernel_rfl) (by kernel_rfl) (by kernel_rfl) (by kernel_rfl) (k:=.u32) (y:=1) hc' hz'
 go_enter_d Tryz.func172,Tryz.ntmps172
 go_wp2
 go_region_calls
 all_goals (go_end0; exact ⟨rfl,rfl⟩)
theorem unlock_deferred (a : Addr) (u : FrameMode) (w : World) (hc : w.cell? a = some (.int .i32 1)) (hz : w.frozen? a = false) :
  CallsD Tryz.prog 171 #[.pointer (some a)] u w fun e u' w' => u' = u∧(e = .returned (.tuple #[])∧w' = w.setCell a (.int .i32 0)):=by
 have hd:=rDis;have he:=rEn;have hr:=rRel;have hadd:=run_call_add (P:=Tryz.prog) Tryz.func229 (by kernel_rfl) (by kernel_rfl) (by kernel_rfl) .i32 (by kernel_rfl) (y:=-1) (s:=0) hc hz (by simp [go_sem]; rfl);have hcv:=run_convert_to_unsafe (P:=Tryz.prog) (src:=277) (dst:=193) Tryz.underlying277 Tryz.underlying193 (by kernel_rfl) hc
 go_enter_d Tryz.func171,Tryz.ntmps171
 go_wp2;go_end0;go_wp2;go_end0;exact ⟨rfl,rfl⟩
theorem lock_free (a : Addr) (w : World) (hc : w.cell? a = some (.int .i32 0)) (hz : w.frozen? a = false) :
  Calls Tryz.prog 170 #[.pointer (some a)] w fun e w' => e = .returned (.tuple #[])∧w' = w.setCell a (.int .i32 1):=by
 have hd:=rDis;have he:=rEn;have ha:=rAcq;have hcas:=run_call_cas_hit (P:=Tryz.prog) Tryz.func224 (by kernel_rfl) (by kernel_rfl) (by kernel_rfl) .i32 (by kernel_rfl) (y:=1) hc hz;have hc' : (w.setCell a (.int .i32 1)).cell? a = some (.int .i32 1):=World.cell?_setCell_same w a _ hc;have hcv:=run_convert_to_unsafe (P:=Tryz.prog) (src:=277) (dst:=193) Tryz.underlying277 Tryz.underlying193 (by kernel_rfl) hc';go_enter Tryz.func170,Tryz.ntmps170;go_wp2
 first | go_end0 | (simp only [Exit.inBlock,Exit.then]; refine bodyPost_ret (results_none rfl _ _ _) rfl ?_) | refine bodyPost_ret (results_none rfl _ _ _) rfl ?_
 go_wp2;go_end0;exact ⟨rfl,rfl⟩
theorem load_any (a : Addr) (d:Int) (w : World) (hc : w.cell? a = some (.int .u32 d)) :
  Calls Tryz.prog 134 #[.pointer (some a)] w fun e w' => e = .returned (.bool (d != 0))∧w' = w:=by
 have hl:=run_call_load (P:=Tryz.prog) Tryz.func169 (by kernel_rfl) (by kernel_rfl) (by kernel_rfl) .u32 (by kernel_rfl) hc;go_enter Tryz.func134,Tryz.ntmps134;go_wp2;go_ret;exact ⟨rfl,rfl⟩
theorem slow_any {b : Nat} {w : World} {R : World → Prop} (h0 : w.cell? ⟨b,0,none⟩ = some (.int .u32 0)) (h1 : w.cell? ⟨b,1,none⟩ = some (.int .i32 0)) (f1 : w.frozen? ⟨b,1,none⟩ = false)
  (hK : Calls Tryz.prog 101 #[.pointer (some ⟨b,0,none⟩)] (w.setCell ⟨b,1,none⟩ (.int .i32 1)) fun e w2 => e = .returned (.tuple #[])∧R w2)
  (hR : ∀ w2,R w2 → w2.cell? ⟨b,0,none⟩ = some (.int .u32 0)∧w2.cell? ⟨b,1,none⟩ = some (.int .i32 1)∧w2.frozen? ⟨b,0,none⟩ = false∧w2.frozen? ⟨b,1,none⟩ = false) :
  Calls Tryz.prog 135 #[.pointer (some ⟨b,0,none⟩),.func (.func 101) #[.pointer (some ⟨b,0,none⟩)] #[]] w fun e w' => e = .returned (.tuple #[])∧∃ w2,R w2 ∧
   w' = (w2.drew.setCell ⟨b,0,none⟩ (.int .u32 1)).setCell ⟨b,1,none⟩ (.int .i32 0):=by
 have h01 : (w.setCell ⟨b,1,none⟩ (.int .i32 1)).cell? ⟨b,0,none⟩ = some (.int .u32 0):=(World.cell?_setCell_other _ ⟨b,1,none⟩ ⟨b,0,none⟩ _ (by simp)).trans h0;have hnot : ∀ (x : Bool) (w : World),(Op.unary .not (.bool x)).run Tryz.prog w = .ok (.bool (!x)) w:=fun _ _ => rfl
 go_enter_defers Tryz.func135,Tryz.ntmps135
 go_wp2_with first
  | (go_at_call 170; refine (lock_free ⟨b,1,none⟩ _ h1 f1).mono ?_; rintro e w' ⟨rfl,rfl⟩)
  | (go_at_call 134; refine (load_any ⟨b,0,none⟩ 0 _ h01).mono ?_; rintro e w' ⟨rfl,rfl⟩)
  | (go_at_call 101; refine hK.mono ?_; rintro e w2 ⟨rfl,hR2⟩)
 obtain ⟨g0,g1,z0,z1⟩:=hR w2 hR2;refine leaves_cons (f:=172) (args:=#[.pointer (some ⟨b,0,none⟩),.bool true]) (by simp) (by simp [go_sem]) ?_;refine (store_deferred ⟨b,0,none⟩ _ .returning _ g0 z0).mono ?_;rintro e u' w'' ⟨rfl,rfl,rfl⟩;refine leaves_cons (f:=171) (args:=#[.pointer (some ⟨b,1,none⟩)]) (by simp [settle]) (by simp [go_sem]) ?_;refine (unlock_deferred ⟨b,1,none⟩ _ _ ?_ (by simp [z1])).mono ?_
 ·refine (World.cell?_setCell_other _ ⟨b,0,none⟩ ⟨b,1,none⟩ _ (by simp)).trans ?_;rw [World.cell?_drew];exact g1
 rintro e u' w'' ⟨rfl,rfl,rfl⟩;simp [Leaves,settle,results,Tryz.results135];exact ⟨w2,hR2,rfl⟩
theorem do_any {b : Nat} {w : World} {R : World → Prop} (h0 : w.cell? ⟨b,0,none⟩ = some (.int .u32 0)) (h1 : w.cell? ⟨b,1,none⟩ = some (.int .i32 0)) (f1 : w.frozen? ⟨b,1,none⟩ = false)
  (hK : Calls Tryz.prog 101 #[.pointer (some ⟨b,0,none⟩)] (w.setCell ⟨b,1,none⟩ (.int .i32 1)) fun e w2 => e = .returned (.tuple #[])∧R w2)
  (hR : ∀ w2,R w2 → w2.cell? ⟨b,0,none⟩ = some (.int .u32 0)∧w2.cell? ⟨b,1,none⟩ = some (.int .i32 1)∧w2.frozen? ⟨b,0,none⟩ = false∧w2.frozen? ⟨b,1,none⟩ = false) :
  Calls Tryz.prog 100 #[.pointer (some ⟨b,0,none⟩),.func (.func 101) #[.pointer (some ⟨b,0,none⟩)] #[]] w fun e w' => e = .returned (.tuple #[])∧∃ w2,R w2 ∧
   w' = (w2.drew.setCell ⟨b,0,none⟩ (.int .u32 1)).setCell ⟨b,1,none⟩ (.int .i32 0):=by
 have hnot : ∀ (x : Bool) (w : World),(Op.unary .not (.bool x)).run Tryz.prog w = .ok (.bool (!x)) w:=fun _ _ => rfl;go_enter Tryz.func100,Tryz.ntmps100;go_wp2_with first
  | (go_at_call 134; refine (load_any ⟨b,0,none⟩ 0 _ h0).mono ?_; rintro e w' ⟨rfl,rfl⟩)
  | (go_at_call 135; refine (slow_any h0 h1 f1 hK hR).mono ?_; rintro e w2 ⟨rfl,hw⟩)
 go_end0;exact ⟨rfl,hw⟩
abbrev nilS : Value:=.slice none 0 0
def fT (x y : Value) (j:Nat) : Value:=if j = 125 then x else if j = 123 then y else nilS
def tabR (x y v : Value) : Array Value:=((List.range 256).map (fT x y) ++ [v]).toArray
theorem tabR_size (x y v : Value) : (tabR x y v).size = 257:=by simp [tabR]
theorem tabR_at (j:Nat) (h : j < 256) (x y v : Value) : (tabR x y v)[j]? = some (fT x y j):=by
 unfold tabR;rw [List.getElem?_toArray,List.getElem?_append_left (by simpa using h)];simp [h]
theorem tabR_last (x y v : Value) : (tabR x y v)[256]? = some v:=by
 unfold tabR;rw [List.getElem?_toArray,List.getElem?_append_right (by simp)];simp
theorem tabR_ext {A : Array Value} {x y v : Value} (hs : A.size = 257) (h : ∀ j,j < 256 → A[j]? = some (fT x y j)) (hl : A[256]? = some v) : A = tabR x y v:=by
 refine Array.ext_getElem? fun j => ?_;rcases Nat.lt_trichotomy j 256 with h1 | h1 | h1
 ·rw [h j h1,tabR_at j h1]
 ·subst h1; rw [hl,tabR_last]
 ·rw [Array.getElem?_eq_none (by omega),Array.getElem?_eq_none (by rw [tabR_size]; omega)]
theorem tabR_set125 (x y v u : Value) : (tabR x y v).setIfInBounds 125 u = tabR u y v:=by
 refine tabR_ext (by simp [tabR_size]) (fun j hj => ?_) ?_
 ·rw [Array.getElem?_setIfInBounds]
  by_cases h : 125 = j
  ·subst h; simp [tabR_size,fT]
  ·rw [if_neg h,tabR_at j hj]; simp [fT,Ne.symm h]
 ·rw [Array.getElem?_setIfInBounds,if_neg (by decide),tabR_last]
theorem tabR_set123 (x y v u : Value) : (tabR x y v).setIfInBounds 123 u = tabR x u v:=by
 refine tabR_ext (by simp [tabR_size]) (fun j hj => ?_) ?_
 ·rw [Array.getElem?_setIfInBounds]
  by_cases h : 123 = j
  ·subst h; simp [tabR_size,fT]
  ·rw [if_neg h,tabR_at j hj]; simp [fT,Ne.symm h]
 ·rw [Array.getElem?_setIfInBounds,if_neg (by decide),tabR_last]
theorem tabR_set256 (x y v u : Value) : (tabR x y v).setIfInBounds 256 u = tabR x y u:=by
 refine tabR_ext (by simp [tabR_size]) (fun j hj => ?_) ?_
 ·rw [Array.getElem?_setIfInBounds,if_neg (by omega),tabR_at j hj]
 ·rw [Array.getElem?_setIfInBounds]; simp [tabR_size]
def Dbl (w : World) (x : Value) (c:Int) : Prop:=∃ q cap cs fr,x = .slice (some ⟨q,0,none⟩) 2 cap∧w.heap[q]? = some (.cells cs 5 fr)∧cs[0]? = some (.int .u8 c)∧cs[1]? = some (.int .u8 c)
def KB (w w' : World) : Prop:=∀ (q:Nat) (cs : Array Value) (fr : Nat × Nat),w.heap[q]? = some (Obj.cells cs 5 fr) → w'.heap[q]? = some (Obj.cells cs 5 fr)
theorem KB.refl (w : World) : KB w w:=fun _ _ _ h => h
theorem KB.below {w w1 w2 : World} (h : KB w w1) (hb : Below w1.heap.size w1 w2) : KB w w2:=fun q cs fr hq => by
 have h1:=h q cs fr hq;have hlt : q < w1.heap.size:=(Array.getElem?_eq_some_iff.1 h1).1;exact (hb.block q hlt).trans h1
theorem KB.alloc {w w1 : World} (h : KB w w1) (o : Obj) : KB w (w1.alloc o):=h.below ((Below.refl _ w1).alloc (Nat.le_refl _) o)
theorem KB.grown {w w1 w2 : World} (h : KB w w1) {B n s : Nat} {e : TypeId} {v : Value} {xs : List Value} (hg : w1.grownBy w2 v.ownBlock) (ho : w1.ownsRow B e s v n xs) (hne : e ≠ 5) : KB w w2:=fun q cs fr hq => by
 have h1:=h q cs fr hq;have hlt : q < w1.heap.size:=(Array.getElem?_eq_some_iff.1 h1).1;refine (hg.block q hlt ?_).trans h1;intro he;rcases ho.2 with ⟨hv,_⟩ | ⟨g,cap,cur,hv,_,h2,_⟩
 ·rw [hv] at he; cases he
 ·rw [hv] at he;have : q = g:=(by simpa [Value.ownBlock] using he);subst this;rw [h1] at h2;injection h2 with h2;injection h2 with _ h3;exact hne h3.symm
theorem KB.far {w w1 : World} (h : KB w w1) {g : Nat} {t : TypeId} {T : Array Value} (hT : Blk w1 g t T) (hne : t ≠ 5) (i:Nat) (u : Value) : KB w (w1.setCell ⟨g,i,none⟩ u):=fun q cs fr hq => by
 have h1:=h q cs fr hq;refine (Below.heap_setCell w1 ⟨g,i,none⟩ u q ?_).trans h1;rintro rfl;unfold Blk at hT;rw [h1] at hT;injection hT with h2;injection h2 with _ h3;exact hne h3.symm
theorem Dbl.keep {w w' : World} {x : Value} {c : Int} (h : Dbl w x c) (hk : KB w w') : Dbl w' x c:=by
 obtain ⟨q,cap,cs,fr,h1,h2,h3⟩:=h;exact ⟨q,cap,cs,fr,h1,hk q cs fr h2,h3⟩
theorem bytes_two (c : UInt8) (w : World) : ∃ (cp:Nat) (w1 : World),(convert 9 71 (.string ⟨#[c,c]⟩)).run Tryz.prog w = .ok (.slice (some ⟨w.heap.size,0,none⟩) 2 cp) w1 ∧
  Dbl w1 (.slice (some ⟨w.heap.size,0,none⟩) 2 cp) (c.toNat:Int)∧Below w.heap.size w w1∧w.heap.size < w1.heap.size:=by
 have h:=run_bytes_of_string (P:=Tryz.prog) w 9 71 5 ⟨#[c,c]⟩ Tryz.underlying9 Tryz.underlying71 Tryz.underlying5;refine ⟨_,_,h,?_,(Below.refl _ _).drew.alloc (Nat.le_refl _) _,by simp⟩;generalize grownCap w (⟨#[c,c]⟩ : ByteArray).size 0 5 = cap;refine ⟨w.heap.size,cap,bytesRow ⟨#[c,c]⟩ cap,((bytesRow ⟨#[c,c]⟩ cap).size,(bytesRow ⟨#[c,c]⟩ cap).size + 1),rfl,?_,?_,?_⟩
 ·exact heap_alloc_new w.drew _
 ·unfold bytesRow;rw [Array.getElem?_append_left (by simp)];simp
 ·unfold bytesRow;rw [Array.getElem?_append_left (by simp)];simp
def strV (s : List UInt8) : Value:=.string ⟨s.toArray⟩
def doneT : Nat → List Value
 | 0 => []
 | 1 => [strV [125]]
 | _ => [strV [125],strV [123]]
structure RB (B rb k:Nat) (w : World) (x y v : Value) : Prop where
 blk : Blk w rb 224 (tabR x y v)
 own : w.ownsRow B 9 1 v k (doneT k)
 lo : B ≤ rb
 xn : k = 0 → x = nilS
 yn : k < 2 → y = nilS
 xd : 1 ≤ k → Dbl w x 125
 yd : 2 ≤ k → Dbl w y 123
theorem built_rb (g n c:Nat) : Tryz.prog.built 224 [(1,Value.slice (some ⟨g,0,none⟩) n c)] = some (tabR nilS nilS (.slice (some ⟨g,0,none⟩) n c)):=by kernel_rfl
theorem own_same {w w' : World} {B : Nat} {e : TypeId} {s n : Nat} {v : Value} {xs : List Value} (h : w.ownsRow B e s v n xs) (hk : ∀ k,v.ownBlock = some k → w'.heap[k]? = w.heap[k]?) : w'.ownsRow B e s v n xs:=by
 refine ⟨h.1,?_⟩;rcases h.2 with h1 | ⟨g,cap,cur,rfl,h1,h2,h3⟩
 ·exact .inl h1
 ·exact .inr ⟨g,cap,cur,rfl,h1,(hk g rfl).trans h2,h3⟩
theorem own_farS {w : World} {B : Nat} {e : TypeId} {s n g i : Nat} {v : Value} {xs : List Value} (h : w.ownsRow B e s v n xs) (hne : v.ownBlock ≠ some g) (u : Value) : (w.setCell ⟨g,i,none⟩ u).ownsRow B e s v n xs :=
 own_same h (fun k hk => Below.heap_setCell w ⟨g,i,none⟩ u k (by rintro rfl; exact hne hk))
theorem own_new1 (w : World) {B : Nat} (hB : B ≤ w.heap.size) (u : Value) (t : TypeId) : (w.alloc (.cells #[u] t)).ownsRow B t 1 (.slice (some ⟨w.heap.size,0,none⟩) 1 1) 1 [u] :=
 ⟨rfl,.inr ⟨w.heap.size,1,#[u],rfl,hB,heap_alloc_new w _,by decide,by decide,rfl,rfl⟩⟩
theorem wpList_buildAs {P : Program} {ops : Array Oper} {rest : List Oper} {o : Oper} {a : Act} {w : World} {Q : Exit → Act → World → Prop} (hg : o.guard = none) (t : TypeId) (parts : Array (Nat × Operand)) (ho : o.op = .build t parts)
  (cells : Array Value) (hf : P.built t (parts.map fun (i,x) => (i,a.eval x)).toList = some cells)
  (h : wpList P ops Q rest (a.put o.dst (.agg cells)) w) : wpList P ops Q (o :: rest) a w :=
 wpList_build hg t parts ho (by rw [hf]; rfl) (by rw [hf]; exact h)
theorem info_rb : (Tryz.prog.info? 224).map (·.size) = some 257:=by kernel_rfl
theorem info_str16 : (Tryz.prog.info? 9).map (fun i => (i.zero,i.size,i.bytes)) = some (some (.string ByteArray.empty),1,16):=by kernel_rfl
theorem rbuild_any {w : World} {r q c : Nat} {d s : Int} (hR : Blk w r 156 #[.int .u32 d,.int .i32 s,.int .u32 0,.nilIface,.slice (some ⟨q,0,none⟩) 4 c])
  (c0 : w.cell? ⟨q,0,none⟩ = some (strV [123])) (c1 : w.cell? ⟨q,1,none⟩ = some (strV [123,123])) (c2 : w.cell? ⟨q,2,none⟩ = some (strV [125])) (c3 : w.cell? ⟨q,3,none⟩ = some (strV [125,125])) (hqs : q < w.heap.size) :
  Calls Tryz.prog 136 #[.pointer (some ⟨r,0,none⟩)] w fun e w' => ∃ rb x y v,e = .returned (.iface 225 (.pointer (some ⟨rb,0,none⟩)))∧RB w.heap.size rb 2 w' x y v∧Below w.heap.size w w':=by
 obtain ⟨B,hB⟩ : ∃ B,w.heap.size = B:=⟨_,rfl⟩;have HB:=hid hB;obtain ⟨i0,hi0,hz0,hz1,hz2⟩:=info_parts info_str16;obtain ⟨r1,r2,r3⟩:=hR.rules;unfold strV at c0 c1 c2 c3;rw [hB];clear hB;go_enter Tryz.func136,Tryz.ntmps136;go_wp2_with fail
 go_loopw [4,5] (fun v i wr => wr = w∧((i = .int .i64 0∧v = .bool true)∨(i = .int .i64 2∧v = .bool false)∨(i = .int .i64 4∧v = .bool false))) (fun _ i _ => 4 - (RowKit.intOf i).toNat)
 case atStart => exact ⟨rfl,.inl ⟨rfl,rfl⟩⟩
 case round =>
  obtain ⟨rfl,⟨rfl,rfl⟩ | ⟨rfl,rfl⟩ | ⟨rfl,rfl⟩⟩:=hrel
  ·go_wp2_with fail;go_roundw
   case rel => exact ⟨by trivial,.inr (.inl ⟨rfl,rfl⟩)⟩
   case measure => simp [RowKit.intOf]
  ·go_wp2_with fail;go_roundw
   case rel => exact ⟨by trivial,.inr (.inr ⟨rfl,rfl⟩)⟩
   case measure => simp [RowKit.intOf]
  ·go_upto_region 26 with fail
   obtain ⟨w1,hmk,hown,hgr⟩:=run_makeSlice_owned (P:=Tryz.prog) wr B 50 9 i0 _ 1 Tryz.underlying50 hi0 hz0 hz1 .i64 .i64 2 (by decide) (by rw [hz2]; decide) (by decide) (by rw [HB.out]; exact Nat.le_refl _);rw [show ((2:Nat):Int) = 2 from rfl] at hmk;have hb1:=(Below.refl B wr).grown hgr (by rw [HB.out]; exact Nat.le_refl _) (fun k e => by cases e);obtain ⟨tr,htr⟩ : ∃ tr,wr.heap.size = tr:=⟨_,rfl⟩;rw [htr] at hmk hown;clear htr;obtain ⟨g,hg⟩ : ∃ g,w1.heap.size = g:=⟨_,rfl⟩;have hN:=Blk.new w1 224 Tryz.zeroCells224;rw [hg] at hN;have hgs:=hid hg
   go_upto_region 27 with (first | refine wpList_buildAs rfl 224 _ rfl _ (built_rb _ _ _) ?_ | refine wpList_store_row rfl 224 (.tmp 11) (.tmp 95) rfl g (tabR nilS nilS (.slice (some ⟨tr,0,none⟩) 0 2)) rfl rfl 224 Tryz.zeroCells224 hN info_rb (by kernel_rfl) (by kernel_rfl) ?_)
   clear hg;obtain ⟨w2,hw2⟩ : ∃ w2,(w1.alloc (.cells Tryz.zeroCells224 224)).setRow g (tabR nilS nilS (.slice (some ⟨tr,0,none⟩) 0 2)) = w2:=⟨_,rfl⟩;have hT:=hN.setRow (tabR nilS nilS (.slice (some ⟨tr,0,none⟩) 0 2));have hBg : B ≤ g:=(by rw [← hgs.out,← HB.out]; exact hb1.size);have hb2:=below_setRow (hb1.alloc (by rw [← HB.out]; exact hb1.size) (.cells Tryz.zeroCells224 224)) hBg (tabR nilS nilS (.slice (some ⟨tr,0,none⟩) 0 2));have hown2:=own_same (hown.alloc (.cells Tryz.zeroCells224 224)) (w':=(w1.alloc (.cells Tryz.zeroCells224 224)).setRow g (tabR nilS nilS (.slice (some ⟨tr,0,none⟩) 0 2))) (fun k hk => by
    have hkt : tr = k:=(by simpa [Value.ownBlock] using hk);have htg : tr < g:=(by rw [← hgs.out]; exact (hown.lt _ rfl).2);unfold World.setRow;rw [← hkt];simp [Array.getElem?_modify];intro e; omega)
   rw [hw2] at hT hb2 hown2 ⊢;clear hw2 hN hown hmk hgr hb1 r1 r2 r3;have hRB : RB B g 0 w2 nilS nilS (.slice (some ⟨tr,0,none⟩) 0 2):=⟨hT,hown2,hBg,fun _ => rfl,fun _ => rfl,fun h => absurd h (by decide),fun h => absurd h (by decide)⟩;clear hT hown2;obtain ⟨w0,rfl⟩ : ∃ wo : World,wo = wr:=⟨_,rfl⟩;go_wp2_with fail
   go_loopw [12] (fun i wr2 => ∃ x y v,Below B w0 wr2∧((i = .int .i64 2∧RB B g 0 wr2 x y v)∨(i = .int .i64 0∧RB B g 1 wr2 x y v)∨(i = .int .i64 (-2)∧RB B g 2 wr2 x y v))) (fun i _ => (RowKit.intOf i + 4).toNat)
   case atStart => exact ⟨_,_,_,hb2,.inl ⟨rfl,hRB⟩⟩
   case round =>
    obtain ⟨x,y,v,hb,⟨rfl,hRB⟩ | ⟨rfl,hRB⟩ | ⟨rfl,hRB⟩⟩:=hrel
    ·have hxn:=hRB.xn rfl;have hyn:=hRB.yn (by decide);subst hxn hyn;have q0:=(hb.cell (p:=⟨q,0,none⟩) (by rw [HB.out] at hqs; exact hqs)).trans c0;have q1:=(hb.cell (p:=⟨q,1,none⟩) (by rw [HB.out] at hqs; exact hqs)).trans c1;have q2:=(hb.cell (p:=⟨q,2,none⟩) (by rw [HB.out] at hqs; exact hqs)).trans c2;have q3:=(hb.cell (p:=⟨q,3,none⟩) (by rw [HB.out] at hqs; exact hqs)).trans c3;have hBs : B ≤ wr.heap.size:=(by have:=hb.size; rw [HB.out] at this; exact this);have hT:=hRB.blk;have hown:=hRB.own;obtain ⟨r1,r2,r3⟩:=hT.rules;have g256:=(r1 256).trans (tabR_last _ _ _);have gC : wr.cell? ⟨g,125,none⟩ = some (.slice none 0 0):=((r1 125).trans (tabR_at 125 (by decide) _ _ _)).trans rfl;clear r1;have hne:=own_blk_ne hown hT (by decide);obtain ⟨A,cc,hvv,hrow,_⟩:=own_form hown;rw [hvv] at g256;have HV:=hid hvv;clear hvv hrow;have hcv : (convert 71 9 (.slice (some ⟨wr.heap.size,0,none⟩) 1 1)).run Tryz.prog (wr.alloc (.cells #[.int .u8 125] 5)) = .ok (.string ⟨#[125]⟩) (wr.alloc (.cells #[.int .u8 125] 5)) :=
      str_of_own (t:=[125]) (own_new1 wr hBs (.int .u8 125) 5)
     have hrow2 : Row ((wr.alloc (.cells #[.int .u8 125] 5)).alloc (.cells #[strV [125]] 9)) (some ⟨wr.heap.size + 1,0,none⟩) [strV [125]]:=by
      have:=Row.new (wr.alloc (.cells #[.int .u8 125] 5)) #[strV [125]] 9;simpa using this
     have hnl : (binOp .eql 71 (.slice none 0 0) (.slice none 0 0)).run Tryz.prog wr = .ok (.bool true) wr:=run_eql_nil_slice wr 71 5 none 0 0 0 0 Tryz.underlying71;have hx0 : ((⟨#[125]⟩ : ByteArray)[0]'(by decide)).toNat = 125:=rfl
     go_upto_region 34 with (at_builtin; refine wpList_append_row _ rfl (.tmp 119) (.tmp 123) 50 rfl B 9 i0 (.string ByteArray.empty) 1 16 Tryz.underlying50 hi0 hz0 hz1 hz2 rfl (by decide) _ 0 (doneT 0) HV.out.symm ((hown.alloc (.cells #[.int .u8 125] 5)).alloc (.cells #[strV [125]] 9)) (some ⟨wr.heap.size + 1,0,none⟩) 1 1 [strV [125]] rfl rfl hrow2 (by simp [Value.oneCell',strV]) (by decide) (by decide) (by simp; omega) ?_; intro v3 w3 hown3 hg3 hat3; have hT3:=((hT.alloc (.cells #[.int .u8 125] 5)).alloc (.cells #[strV [125]] 9)).grown hg3 (fun e => hne e.symm); obtain ⟨s1,s2,s3⟩:=hT3.rules; have g3:=(s1 256).trans (tabR_last _ _ _); clear s1; have hne3:=own_blk_ne hown3 hT3 (by decide); obtain ⟨A3,c3',rfl,_,_⟩:=own_form hown3)
     have hBg:=hRB.lo;have hb3:=((hb.alloc hBs (.cells #[.int .u8 125] 5)).alloc (by simp; omega) (.cells #[strV [125]] 9)).grown hg3 (by simp; omega) (fun k e => (hown.lt k e).1);have hT4:=hT3.set_ 256 (.slice A3 (0 + 1) c3');rw [tabR_set256] at hT4;have hown4:=own_farS (i:=256) hown3 hne3 (.slice A3 (0 + 1) c3');have hb4:=hb3.setCell (p:=⟨g,256,none⟩) hBg (.slice A3 (0 + 1) c3');have hk4:=((((KB.refl wr).alloc (.cells #[.int .u8 125] 5)).alloc (.cells #[strV [125]] 9)).grown hg3 ((hown.alloc (.cells #[.int .u8 125] 5)).alloc (.cells #[strV [125]] 9)) (by decide)).far hT3 (by decide) 256 (.slice A3 (0 + 1) c3');obtain ⟨w4,hw4⟩ : ∃ w4,w3.setCell ⟨g,256,none⟩ (.slice A3 (0 + 1) c3') = w4:=⟨_,rfl⟩;rw [hw4] at hT4 hown4 hb4 hk4 ⊢;clear hw4 hb3 s2 s3 g3 hne3 hown3 hT3 hg3 hat3 hrow2 hcv HV hne gC g256 r2 r3 hown hT;obtain ⟨c5,w5,hcv5,hd5,hb5,hlt5⟩:=bytes_two 125 w4;have hT5:=hT4.belowS hb5;have hown5:=own_same hown4 (fun k hk => hb5.block k (hown4.lt k hk).2);have hne5:=own_blk_ne hown5 hT5 (by decide);have hk5:=hk4.below hb5;have hbB:=below_then hb4 hb5 (by have:=hb4.size; rw [HB.out] at this; exact this);obtain ⟨s1,s2,s3⟩:=hT5.rules;have gC:=(s1 125).trans (tabR_at 125 (by decide) _ _ _);clear s1;obtain ⟨qx,hqx⟩ : ∃ qx,w4.heap.size = qx:=⟨_,rfl⟩;rw [hqx] at hcv5 hd5;clear hqx hb5 hT4 hown4 hb4 hk4 hlt5;go_wp2_with fail;have hT6:=hT5.set_ 125 (.slice (some ⟨qx,0,none⟩) 2 c5);rw [tabR_set125] at hT6;have hown6:=own_farS (i:=125) hown5 hne5 (.slice (some ⟨qx,0,none⟩) 2 c5);have hb6:=hbB.setCell (p:=⟨g,125,none⟩) hBg (.slice (some ⟨qx,0,none⟩) 2 c5);have hk6:=hk5.far hT5 (by decide) 125 (.slice (some ⟨qx,0,none⟩) 2 c5);have hd6:=hd5.keep ((KB.refl w5).far hT5 (by decide) 125 (.slice (some ⟨qx,0,none⟩) 2 c5));go_roundw
     case rel => exact ⟨_,_,_,hb6,.inr (.inl ⟨rfl,hT6,hown6,hBg,fun h => absurd h (by decide),fun _ => rfl,fun _ => hd6,fun h => absurd h (by decide)⟩)⟩
     case measure => simp [RowKit.intOf]
    ·have hyn:=hRB.yn (by decide);subst hyn;have q0:=(hb.cell (p:=⟨q,0,none⟩) (by rw [HB.out] at hqs; exact hqs)).trans c0;have q1:=(hb.cell (p:=⟨q,1,none⟩) (by rw [HB.out] at hqs; exact hqs)).trans c1;have q2:=(hb.cell (p:=⟨q,2,none⟩) (by rw [HB.out] at hqs; exact hqs)).trans c2;have q3:=(hb.cell (p:=⟨q,3,none⟩) (by rw [HB.out] at hqs; exact hqs)).trans c3;have hBs : B ≤ wr.heap.size:=(by have:=hb.size; rw [HB.out] at this; exact this);have hT:=hRB.blk;have hown:=hRB.own;obtain ⟨r1,r2,r3⟩:=hT.rules;have g256:=(r1 256).trans (tabR_last _ _ _);have gC : wr.cell? ⟨g,123,none⟩ = some (.slice none 0 0):=((r1 123).trans (tabR_at 123 (by decide) _ _ _)).trans rfl;clear r1;have hne:=own_blk_ne hown hT (by decide);obtain ⟨A,cc,hvv,hrow,_⟩:=own_form hown;rw [hvv] at g256;have HV:=hid hvv;clear hvv hrow;have hcv : (convert 71 9 (.slice (some ⟨wr.heap.size,0,none⟩) 1 1)).run Tryz.prog (wr.alloc (.cells #[.int .u8 123] 5)) = .ok (.string ⟨#[123]⟩) (wr.alloc (.cells #[.int .u8 123] 5)) :=
      str_of_own (t:=[123]) (own_new1 wr hBs (.int .u8 123) 5)
     have hrow2 : Row ((wr.alloc (.cells #[.int .u8 123] 5)).alloc (.cells #[strV [123]] 9)) (some ⟨wr.heap.size + 1,0,none⟩) [strV [123]]:=by
      have:=Row.new (wr.alloc (.cells #[.int .u8 123] 5)) #[strV [123]] 9;simpa using this
     have hnl : (binOp .eql 71 (.slice none 0 0) (.slice none 0 0)).run Tryz.prog wr = .ok (.bool true) wr:=run_eql_nil_slice wr 71 5 none 0 0 0 0 Tryz.underlying71;have hx0 : ((⟨#[123]⟩ : ByteArray)[0]'(by decide)).toNat = 123:=rfl
     go_upto_region 34 with (at_builtin; refine wpList_append_row _ rfl (.tmp 119) (.tmp 123) 50 rfl B 9 i0 (.string ByteArray.empty) 1 16 Tryz.underlying50 hi0 hz0 hz1 hz2 rfl (by decide) _ 1 (doneT 1) HV.out.symm ((hown.alloc (.cells #[.int .u8 123] 5)).alloc (.cells #[strV [123]] 9)) (some ⟨wr.heap.size + 1,0,none⟩) 1 1 [strV [123]] rfl rfl hrow2 (by simp [Value.oneCell',strV]) (by decide) (by decide) (by simp; omega) ?_; intro v3 w3 hown3 hg3 hat3; have hT3:=((hT.alloc (.cells #[.int .u8 123] 5)).alloc (.cells #[strV [123]] 9)).grown hg3 (fun e => hne e.symm); obtain ⟨s1,s2,s3⟩:=hT3.rules; have g3:=(s1 256).trans (tabR_last _ _ _); clear s1; have hne3:=own_blk_ne hown3 hT3 (by decide); obtain ⟨A3,c3',rfl,_,_⟩:=own_form hown3)
     have hBg:=hRB.lo;have hb3:=((hb.alloc hBs (.cells #[.int .u8 123] 5)).alloc (by simp; omega) (.cells #[strV [123]] 9)).grown hg3 (by simp; omega) (fun k e => (hown.lt k e).1);have hT4:=hT3.set_ 256 (.slice A3 (1 + 1) c3');rw [tabR_set256] at hT4;have hown4:=own_farS (i:=256) hown3 hne3 (.slice A3 (1 + 1) c3');have hb4:=hb3.setCell (p:=⟨g,256,none⟩) hBg (.slice A3 (1 + 1) c3');have hk4:=((((KB.refl wr).alloc (.cells #[.int .u8 123] 5)).alloc (.cells #[strV [123]] 9)).grown hg3 ((hown.alloc (.cells #[.int .u8 123] 5)).alloc (.cells #[strV [123]] 9)) (by decide)).far hT3 (by decide) 256 (.slice A3 (1 + 1) c3');obtain ⟨w4,hw4⟩ : ∃ w4,w3.setCell ⟨g,256,none⟩ (.slice A3 (1 + 1) c3') = w4:=⟨_,rfl⟩;rw [hw4] at hT4 hown4 hb4 hk4 ⊢;clear hw4 hb3 s2 s3 g3 hne3 hown3 hT3 hg3 hat3 hrow2 hcv HV hne gC g256 r2 r3 hown hT;obtain ⟨c5,w5,hcv5,hd5,hb5,hlt5⟩:=bytes_two 123 w4;have hT5:=hT4.belowS hb5;have hown5:=own_same hown4 (fun k hk => hb5.block k (hown4.lt k hk).2);have hne5:=own_blk_ne hown5 hT5 (by decide);have hk5:=hk4.below hb5;have hbB:=below_then hb4 hb5 (by have:=hb4.size; rw [HB.out] at this; exact this);obtain ⟨s1,s2,s3⟩:=hT5.rules;have gC:=(s1 123).trans (tabR_at 123 (by decide) _ _ _);clear s1;obtain ⟨qx,hqx⟩ : ∃ qx,w4.heap.size = qx:=⟨_,rfl⟩;rw [hqx] at hcv5 hd5;clear hqx hb5 hT4 hown4 hb4 hk4 hlt5;go_wp2_with fail;have hT6:=hT5.set_ 123 (.slice (some ⟨qx,0,none⟩) 2 c5);rw [tabR_set123] at hT6;have hown6:=own_farS (i:=123) hown5 hne5 (.slice (some ⟨qx,0,none⟩) 2 c5);have hb6:=hbB.setCell (p:=⟨g,123,none⟩) hBg (.slice (some ⟨qx,0,none⟩) 2 c5);have hk6:=hk5.far hT5 (by decide) 123 (.slice (some ⟨qx,0,none⟩) 2 c5);have hd6:=hd5.keep ((KB.refl w5).far hT5 (by decide) 123 (.slice (some ⟨qx,0,none⟩) 2 c5));go_roundw
     case rel => exact ⟨_,_,_,hb6,.inr (.inr ⟨rfl,hT6,hown6,hBg,fun h => absurd h (by decide),fun h => absurd h (by decide),fun _ => (hRB.xd (by decide)).keep hk6,fun _ => hd6⟩)⟩
     case measure => simp [RowKit.intOf]
    ·go_wp2_with fail;go_ret;exact ⟨g,x,y,v,rfl,hRB,hb⟩
end
section
open Go.RowKit Go.Shelf Go.Lib Go.Maps
def Bld (w : World) (b:Nat) (l : List UInt8) : Prop:=Lib.IsBuilderF 99 5 b b (Lib.byteCells l) w
theorem Bld.new (w : World) : Bld (w.alloc (.cells #[.pointer none,.slice none 0 0] 99)) w.heap.size []:=Lib.IsBuilderF.of (Lib.fresh_isBuilder 99 5 w)
theorem Bld.at_ {w : World} {b : Nat} {l : List UInt8} (h : Bld w b l) : ∃ p,Lib.BuilderAtF 99 5 b b p (Lib.byteCells l) w:=by
 rcases h with h | h
 ·exact ⟨_,h⟩
 ·exact ⟨_,h⟩
theorem Bld.lt {w : World} {b : Nat} {l : List UInt8} (h : Bld w b l) : b < w.heap.size:=by
 obtain ⟨p,_,v,hb,_⟩:=h.at_;exact (Array.getElem?_eq_some_iff.1 hb).1
theorem rowF_belowS {w w' : World} {base : Nat} {e : TypeId} {size n : Nat} {v : Value} {xs : List Value} (h : w.ownsRowF base e size v n xs) (hb : Below w.heap.size w w') : w'.ownsRowF base e size v n xs:=by
 refine ⟨h.1,?_⟩;rcases h.2 with h2 | ⟨g,cap,cur,fz,hv,hge,hg,r⟩
 ·exact .inl h2
 ·exact .inr ⟨g,cap,cur,fz,hv,hge,(hb.block g (Array.getElem?_eq_some_iff.1 hg).1).trans hg,r⟩
theorem atF_belowS {w w' : World} {T e : TypeId} {B b : Nat} {p : Value} {bs : List Value} (h : Lib.BuilderAtF T e B b p bs w) (hb : Below w.heap.size w w') : Lib.BuilderAtF T e B b p bs w':=by
 obtain ⟨hB,v,hbk,hown,hne⟩:=h;exact ⟨hB,v,(hb.block b (Array.getElem?_eq_some_iff.1 hbk).1).trans hbk,rowF_belowS hown hb,hne⟩
theorem Bld.belowS {w w' : World} {b : Nat} {l : List UInt8} (h : Bld w b l) (hb : Below w.heap.size w w') : Bld w' b l:=h.elim (fun x => .inl (atF_belowS x hb)) (fun x => .inr (atF_belowS x hb))
theorem Blk.others {w w' : World} {g b t : Nat} {cs : Array Value} (h : Blk w g t cs) (ho : Lib.OthersKept 5 (some b) w w') (hg : g ≠ b) (ht : t ≠ 5) : Blk w' g t cs :=
 ho g _ h (fun e => hg (Option.some.inj e)) (fun c fz e => by injection e with _ e2; exact ht e2)
theorem bld_byte {b : Nat} {l : List UInt8} {w : World} (h : Bld w b l) (hl : l.length ≤ 100000000) (c : UInt8) (n:Int) (hn : n = (c.toNat:Int)) :
  Calls Tryz.prog 77 #[.pointer (some ⟨b,0,none⟩),.int .u8 n] w fun e w' => e = .returned .nilIface∧Bld w' b (l ++ [c])∧Below b w w'∧Lib.OthersKept 5 (some b) w w':=by
 subst hn;refine (Any.Builder_WriteByte_k Tryz.laysB167 Tryz.Builder_ExtraB b b (Lib.byteCells l) (c.toNat:Int) w h (by rw [Lib.byteCells_length]; omega) (Nat.le_of_lt h.lt)).mono ?_;rintro e w' ⟨rfl,h1,h2,h3⟩;refine ⟨rfl,.inr ?_,h2,h3⟩;rw [show Lib.byteCells (l ++ [c]) = Lib.byteCells l ++ [.int .u8 (c.toNat:Int)] from by simp [Lib.byteCells]];exact h1
theorem bld_str {b : Nat} {l : List UInt8} {w : World} (h : Bld w b l) (hl : l.length ≤ 100000000) (t : List UInt8) (ht : t.length ≤ 140737087000000) :
  Calls Tryz.prog 62 #[.pointer (some ⟨b,0,none⟩),.string ⟨t.toArray⟩] w fun e w' => (∃ n : Int,e = .returned (.tuple #[.int .i64 n,.nilIface]))∧Bld w' b (l ++ t)∧Below b w w'∧Lib.OthersKept 5 (some b) w w':=by
 have hsz : (⟨t.toArray⟩ : ByteArray).size = t.length:=by simp [ByteArray.size]
 refine (Any.Builder_WriteString_k Tryz.laysB166 Tryz.Builder_ExtraB b b (Lib.byteCells l) ⟨t.toArray⟩ w h (by rw [Lib.byteCells_length,hsz]; omega) (Nat.le_of_lt h.lt)).mono ?_;rintro e w' ⟨rfl,h1,h2,h3⟩;refine ⟨⟨_,rfl⟩,.inr ?_,h2,h3⟩;rw [show Lib.byteCells (l ++ t) = Lib.byteCells l ++ Lib.strCells ⟨t.toArray⟩ from by simp [Lib.byteCells,Lib.strCells]];exact h1
theorem bld_rune {b : Nat} {l : List UInt8} {w : World} (h : Bld w b l) (hl : l.length ≤ 100000000) (n:Nat) (hn : n ≤ 2147483647) :
  Calls Tryz.prog 79 #[.pointer (some ⟨b,0,none⟩),.int .i32 (n:Int)] w fun e w' => (∃ k : Int,e = .returned (.tuple #[.int .i64 k,.nilIface]))∧Bld w' b (l ++ runeB n)∧Below b w w'∧Lib.OthersKept 5 (some b) w w':=by
 refine (Any.Builder_WriteRune_k Tryz.laysB168 Tryz.Builder_ExtraB b b (Lib.byteCells l) (n:Int) (by omega) (by omega) w h (by rw [Lib.byteCells_length]; omega) (Nat.le_of_lt h.lt)).mono ?_;rintro e w' ⟨rfl,h1,h2,h3⟩;refine ⟨⟨_,rfl⟩,.inr ?_,h2,h3⟩;rw [show Lib.byteCells (l ++ runeB n) = Lib.byteCells l ++ Lib.runeCells (n:Int) from by rw [← runeB_cells]; simp [Lib.byteCells,bytc]];exact h1
theorem bld_string {b : Nat} {l : List UInt8} {w : World} (h : Bld w b l) :
  Calls Tryz.prog 66 #[.pointer (some ⟨b,0,none⟩)] w fun e w' => e = .returned (.string ⟨l.toArray⟩)∧Bld w' b l∧Below b w w':=by
 refine (Any.Builder_String_any_k Tryz.laysB169 Tryz.Builder_ExtraB b b l w h (Nat.le_of_lt h.lt)).mono ?_;rintro e w' ⟨rfl,h1,h2,h3⟩;exact ⟨rfl,h1,h2⟩
theorem bld_len {b : Nat} {l : List UInt8} {w : World} (h : Bld w b l) :
  Calls Tryz.prog 65 #[.pointer (some ⟨b,0,none⟩)] w fun e w' => e = .returned (.int .i64 (l.length:Int))∧w = w':=by
 obtain ⟨p,_,v,hbk,hown,_⟩:=h.at_;obtain ⟨A,cap,rfl⟩ : ∃ A cap,v = .slice A l.length cap:=by
  have hl:=Lib.byteCells_length l;rcases hown.2 with ⟨hv,h0⟩ | ⟨g,cap,cur,fz,hv,_⟩
  ·exact ⟨none,0,by rw [hv,← hl,h0]⟩
  ·exact ⟨_,cap,by rw [hv,hl]⟩
 have hB : Blk w b 99 #[p,.slice A l.length cap]:=hbk;obtain ⟨q1,q2,q3⟩:=hB.rules;clear h hown hbk;go_enter Tryz.func65,Tryz.ntmps65;go_wp2_with fail;go_ret;exact ⟨rfl,rfl⟩
end
end Go.Proofs.YtonehlkiackhcaaGreatDoor