/- The literals: lists of the call's own. Nothing is claimed here. -/
import Derived.WalkKit
import Derived.Lib.Hide
import Derived.BigQuiet
import Derived.Maps.AppendAt
import Derived.Lib.Index
import Derived.Test.YtonehlkiackhcaaGreatDoorProg
import Derived.Great.BuildSlice
set_option linter.unusedVariables false
set_option linter.unusedSimpArgs false
set_option maxRecDepth 100000
set_option maxHeartbeats 16000000
namespace Go.Proofs.YtonehlkiackhcaaGreatDoor
section
open Go.RowKit
def Row (w : World) (A : Option Addr) (xs : List Value) : Prop :=
 xs = []∨∃ b off,A = some ⟨b,off,none⟩∧b < w.heap.size∧∀ j u,xs[j]? = some u → w.cell? ⟨b,off + j,none⟩ = some u
theorem Row.nil (w : World) (A : Option Addr) : Row w A []:=.inl rfl
theorem Row.keepB {w w' : World} {A : Option Addr} {xs : List Value} (h : Row w A xs) (hb : Below w.heap.size w w') : Row w' A xs:=by
 rcases h with h | ⟨b,off,e,hlt,hc⟩
 ·exact .inl h
 ·exact .inr ⟨b,off,e,Nat.lt_of_lt_of_le hlt hb.size,fun j u hu => (hb.cell (p:=⟨b,off + j,none⟩) hlt).trans (hc j u hu)⟩
theorem Row.at_ {w : World} {A : Option Addr} {xs : List Value} (h : Row w A xs) {k : Nat} (hk : k < xs.length) :
  ∃ b off,A = some ⟨b,off,none⟩∧b < w.heap.size∧∀ j u,xs[j]? = some u → w.cell? ⟨b,off + j,none⟩ = some u:=by
 rcases h with h | h
 ·subst h; simp at hk
 ·exact h
theorem flat_at {α : Type} (f : α → List Value) (s:Nat) (hf : ∀ x,(f x).length = s) : ∀ (l : List α) (k:Nat) (hk : k < l.length) (i:Nat),i < s → (l.flatMap f)[k * s + i]? = (f l[k])[i]?
 | x :: l,0,_,i,hi => by
  simp only [List.flatMap_cons,Nat.zero_mul,Nat.zero_add,List.getElem_cons_zero];rw [List.getElem?_append_left (by rw [hf]; exact hi)]
 | x :: l,k + 1,hk,i,hi => by
  simp only [List.flatMap_cons,List.getElem_cons_succ];rw [List.getElem?_append_right (by rw [hf,Nat.add_mul]; omega),hf];have e : (k + 1) * s + i - s = k * s + i:=(by rw [Nat.add_mul]; omega);rw [e];exact flat_at f s hf l k (by simpa using hk) i hi
theorem flat_len {α : Type} (f : α → List Value) (s:Nat) (hf : ∀ x,(f x).length = s) : ∀ l : List α,(l.flatMap f).length = l.length * s
 | [] => by simp
 | x :: l => by simp only [List.flatMap_cons,List.length_append,hf,flat_len f s hf l,List.length_cons,Nat.add_mul]; omega
theorem Row.elem {α : Type} {f : α → List Value} {s : Nat} (hf : ∀ x,(f x).length = s) (hs : 0 < s) {w : World} {A : Option Addr} {l : List α} (h : Row w A (l.flatMap f)) {k : Nat} (hk : k < l.length) :
  ∃ b off,A = some ⟨b,off,none⟩∧b < w.heap.size∧∀ i u,i < s → (f l[k])[i]? = some u → w.cell? ⟨b,off + k * s + i,none⟩ = some u:=by
 obtain ⟨b,off,e,hlt,hc⟩:=h.at_ (k:=k * s) (by rw [flat_len f s hf]; exact Nat.mul_lt_mul_of_pos_right hk hs);refine ⟨b,off,e,hlt,fun i u hi hu => ?_⟩;rw [Nat.add_assoc];exact hc _ u (by rw [flat_at f s hf l k hk i hi]; exact hu)
theorem Row.of_own {w : World} {base size n c : Nat} {A : Option Addr} {e : TypeId} {xs : List Value} (h : w.ownsRow base e size (.slice A n c) n xs) : Row w A xs:=by
 rcases h.2 with ⟨hv,rfl⟩ | ⟨g,cap,cur,hv,hb,hg,_⟩
 ·exact .inl (List.eq_nil_of_length_eq_zero (by simpa using h.1))
 ·injection hv with hA hn hc;subst hA;refine .inr ⟨g,0,rfl,(Array.getElem?_eq_some_iff.1 hg).1,fun j u hu => ?_⟩;have:=h.cells (g:=g) rfl j u hu;rw [Addr.add_lit] at this;exact this
theorem own_form {w : World} {base size n : Nat} {e : TypeId} {v : Value} {xs : List Value} (h : w.ownsRow base e size v n xs) : ∃ A c,v = .slice A n c∧Row w A xs∧n ≤ c:=by
 rcases h.2 with ⟨hv,rfl⟩ | ⟨g,cap,cur,hv,hb,hg,hnc,_⟩
 ·exact ⟨none,0,hv,.inl (List.eq_nil_of_length_eq_zero (by simpa using h.1)),Nat.le_refl _⟩
 ·subst hv;exact ⟨_,_,rfl,Row.of_own h,hnc⟩
theorem ret_bool {a b : Bool} (h : a = b) : Ending.returned (.bool a) = .returned (.bool b):=by rw [h]
def Blk (w : World) (g:Nat) (t : TypeId) (cs : Array Value) : Prop:=w.heap[g]? = some (.cells cs t (0,0))
section
variable {w w' : World} {g : Nat} {t : TypeId} {cs : Array Value}
theorem Blk.lt (h : Blk w g t cs) : g < w.heap.size:=by
 rcases Nat.lt_or_ge g w.heap.size with hlt | hge
 ·exact hlt
 ·unfold Blk at h; rw [Array.getElem?_eq_none hge] at h; cases h
theorem Blk.cell (h : Blk w g t cs) (i:Nat) : w.cell? ⟨g,i,none⟩ = cs[i]?:=cell_of_row w g i cs t (0,0) h
theorem Blk.frozen (h : Blk w g t cs) (i:Nat) : w.frozen? ⟨g,i,none⟩ = false:=by
 unfold Blk at h;simp [World.frozen?,h]
theorem Blk.new (w : World) (t : TypeId) (cs : Array Value) : Blk (w.alloc (.cells cs t)) w.heap.size t cs:=heap_alloc_new w _
theorem Blk.drew (h : Blk w g t cs) : Blk w.drew g t cs:=h
theorem Blk.drewN (h : Blk w g t cs) (n:Nat) : Blk (w.drewN n) g t cs:=h
theorem Blk.alloc (h : Blk w g t cs) (o : Obj) : Blk (w.alloc o) g t cs:=(Below.heap_alloc w o g h.lt).trans h
theorem Blk.set_ (h : Blk w g t cs) (i:Nat) (u : Value) : Blk (w.setCell ⟨g,i,none⟩ u) g t (cs.setIfInBounds i u):=by
 unfold Blk at h ⊢;simp [World.setCell,Array.getElem?_modify,h]
theorem Blk.far (h : Blk w g t cs) {p : Addr} (hp : g ≠ p.block) (u : Value) : Blk (w.setCell p u) g t cs:=(Below.heap_setCell w p u g hp).trans h
theorem Blk.below {B : Nat} (h : Blk w g t cs) (hb : Below B w w') (hg : g < B) : Blk w' g t cs:=(hb.block g hg).trans h
theorem Blk.belowS (h : Blk w g t cs) (hb : Below w.heap.size w w') : Blk w' g t cs:=h.below hb h.lt
theorem Blk.grown {row : Option Nat} (h : Blk w g t cs) (hb : w.grownBy w' row) (hg : some g ≠ row) : Blk w' g t cs:=(hb.block g h.lt hg).trans h
theorem Blk.ne_ {g' : Nat} {t' : TypeId} {cs' : Array Value} (h : Blk w g t cs) (h' : Blk w g' t' cs') (hne : t ≠ t') : g ≠ g':=by
 rintro rfl;unfold Blk at h h';rw [h] at h';injection h' with h';injection h' with _ ht;exact hne ht
theorem own_blk_ne {base : Nat} {e : TypeId} {size n : Nat} {v : Value} {xs : List Value} (h : w.ownsRow base e size v n xs) (hg : Blk w g t cs) (hne : e ≠ t) : v.ownBlock ≠ some g:=by
 rcases h.2 with ⟨rfl,_⟩ | ⟨g',cap,cur,rfl,_,hh,_⟩
 ·simp [Value.ownBlock]
 ·intro he;have : g' = g:=(by simpa [Value.ownBlock] using he);subst this;exact Blk.ne_ (t:=e) hh hg hne rfl
theorem Blk.rules (h : Blk w g t cs) : (∀ i,w.cell? ⟨g,i,none⟩ = cs[i]?)∧(∀ i,w.frozen? ⟨g,i,none⟩ = false)∧g < w.heap.size:=⟨h.cell,h.frozen,h.lt⟩
end
theorem below_drewN {B : Nat} {a w : World} (h : Below B a w) (n:Nat) : Below B a (w.drewN n):=⟨h.os,h.tape,h.output,h.size,h.block⟩
theorem below_then {B : Nat} {a w w' : World} (h : Below B a w) (hb : Below w.heap.size w w') (hB : B ≤ w.heap.size) : Below B a w':=h.trans (hb.mono hB)
section
variable {P : Program} {fn : Func} {R : Ending → World → Prop} {a : Act} {w : World} {p g t ty : Nat} {cs : Array Value}
theorem ret_blk (hres : fn.results = #[.cell p ty]) (hp : a.tmps.getD p undef = .pointer (some ⟨g,0,none⟩)) (hB : Blk w g t cs) (d : TypeDesc) (hu : P.underlying ty = some d)
  (hd : (match d with | .struct _ | .array _ _ => true | _ => false) = true) (hi : (P.info? ty).map (·.size) = some cs.size) (hdf : a.defers = []) (hR : R (.returned (.agg cs)) w) : bodyPost P fn R .ret a w :=
 bodyPost_ret (results_cell_row hres _ _ g t cs (0,0) d hp hB hu hd hi) hdf hR
theorem results_tmp_blk {q : Nat} (hres : fn.results = #[.tmp q,.cell p ty]) (hp : a.tmps.getD p undef = .pointer (some ⟨g,0,none⟩)) (hB : Blk w g t cs) (d : TypeDesc) (hu : P.underlying ty = some d)
  (hd : (match d with | .struct _ | .array _ _ => true | _ => false) = true) (hi : (P.info? ty).map (·.size) = some cs.size) :
  (results fn a.tmps).run P w = .ok (.tuple #[a.tmps.getD q undef,.agg cs]) w:=by
 have hp' : a.tmps[p]?.getD undef = .pointer (some ⟨g,0,none⟩):=by simpa using hp
 simp [results,hres,hp',asAddr,run_loadVar_row w g t ty cs (0,0) d hB hu hd hi]
theorem ret_tmp_blk {q : Nat} (hres : fn.results = #[.tmp q,.cell p ty]) (hp : a.tmps.getD p undef = .pointer (some ⟨g,0,none⟩)) (hB : Blk w g t cs) (d : TypeDesc) (hu : P.underlying ty = some d)
  (hd : (match d with | .struct _ | .array _ _ => true | _ => false) = true) (hi : (P.info? ty).map (·.size) = some cs.size) (hdf : a.defers = []) (v : Value) (hv : a.tmps.getD q undef = v)
  (hR : R (.returned (.tuple #[v,.agg cs])) w) : bodyPost P fn R .ret a w:=by
 subst hv;exact bodyPost_ret (results_tmp_blk hres hp hB d hu hd hi) hdf hR
end
theorem grownBy_alloc (w : World) (o : Obj) (row : Option Nat) : w.grownBy (w.alloc o) row:=World.grownBy_alloc w o row
def Moved (a : World) (r s : Option Nat) : Prop:=s = r∨∃ g,s = some g∧a.heap.size ≤ g
theorem Moved.refl (a : World) (r : Option Nat) : Moved a r r:=.inl rfl
theorem Moved.next {a b : World} {r s t : Option Nat} (h : Moved a r s) (k : t = s∨t = some b.heap.size) (hab : a.heap.size ≤ b.heap.size) : Moved a r t:=by
 rcases k with k | k
 ·rw [k]; exact h
 ·exact .inr ⟨_,k,hab⟩
theorem Moved.trans {a b : World} {r s t : Option Nat} (h : Moved a r s) (k : Moved b s t) (hab : a.heap.size ≤ b.heap.size) : Moved a r t:=by
 rcases k with k | ⟨g,k,hg⟩
 ·rw [k]; exact h
 ·exact .inr ⟨g,k,Nat.le_trans hab hg⟩
section
variable {P : Program} (w : World)
theorem run_append_of_nil (base:Nat) (t ty e : TypeId) (i : TypeInfo) (size:Nat) (ht : P.underlying t = some (.slice e)) (hi : P.info? e = some i)
  (v : Value) (n:Nat) (xs : List Value) (hown : w.ownsRow base e size v n xs) (c:Nat) : (Builtin.append_ #[t,t] ty #[v,.slice none 0 c]).run P w = .ok v w:=by
 rcases hown.2 with ⟨rfl,rfl⟩ | ⟨g,cap,cur,rfl,_,_,hnc,_⟩
 ·simp [Builtin.append_,run_underlying ht,sizeOf,typeInfo,hi,Builtin.lenOf,Builtin.firstCells]
 ·simp [Builtin.append_,run_underlying ht,sizeOf,typeInfo,hi,Builtin.lenOf,Builtin.firstCells,hnc,storeCells]
theorem run_append_row (base:Nat) (t ty e : TypeId) (i : TypeInfo) (z : Value) (size bytes:Nat) (ht : P.underlying t = some (.slice e)) (hi : P.info? e = some i) (hz : i.zero = some z)
  (hsize : i.size = size) (hby : i.bytes = bytes) (hzs : z.cells.size = size) (hsz : 0 < size)
  (v : Value) (n:Nat) (xs : List Value) (hown : w.ownsRow base e size v n xs)
  (A : Option Addr) (m c:Nat) (news : List Value) (hl : news.length = m * size) (hr : Row w A news) (h1 : ∀ u ∈ news,u.oneCell' = true)
  (h63 : n + m ≤ maxLen) (hbytes : (n + m) * bytes ≤ 140737488355328) (hbase : base ≤ w.heap.size) :
  ∃ v' w',(Builtin.append_ #[t,t] ty #[v,.slice A m c]).run P w = .ok v' w'∧w'.ownsRow base e size v' (n + m) (xs ++ news)∧w.grownBy w' v.ownBlock ∧
   (v'.ownBlock = v.ownBlock∨v'.ownBlock = some w.heap.size):=by
 rcases A with _ | ad
 ·have hn : news = []:=by
   rcases hr with hr | ⟨b,off,h,_⟩
   ·exact hr
   ·cases h
  subst hn;have hm : m = 0:=by
   rcases Nat.eq_zero_or_pos m with h0 | h0
   ·exact h0
   ·have : 0 < m * size:=Nat.mul_pos h0 hsz;simp at hl;omega
  subst hm;exact ⟨v,w,run_append_of_nil w base t ty e i size ht hi v n xs hown c,by simpa using hown,World.grownBy.refl w _,.inl rfl⟩
 ·have hcells : ∀ j u,news[j]? = some u → w.cell? (ad.add j) = some u:=by
   intro j u hu;rcases hr with hr | ⟨b,off,h,_,hc⟩
   ·subst hr; simp at hu
   ·injection h with h;subst h;rw [Go.WideShapes.add_plain];exact hc j u hu
  obtain ⟨v',w',hrun,h2,h3,_,h5⟩:=run_append_own_at (P:=P) w base t ty e i z size bytes ht hi hz hsize hby hzs hsz v n xs hown ad m c news hl hcells h1 h63 hbytes hbase;exact ⟨v',w',hrun,h2,h3,h5⟩
theorem wpList_append_row {ops : Array Oper} {rest : List Oper} {o : Oper} {a : Act} {Q : Exit → Act → World → Prop} (hgd : o.guard = none) (s x : Operand) (t : TypeId)
  (ho : o.op = .call { callee:=.builtin .append,args:=#[s,x],argTypes:=#[t,t] })
  (base:Nat) (e : TypeId) (i : TypeInfo) (z : Value) (size bytes:Nat) (ht : P.underlying t = some (.slice e)) (hi : P.info? e = some i) (hz : i.zero = some z)
  (hsize : i.size = size) (hby : i.bytes = bytes) (hzs : z.cells.size = size) (hsz : 0 < size)
  (v : Value) (n:Nat) (xs : List Value) (hs : a.eval s = v) (hown : w.ownsRow base e size v n xs)
  (A : Option Addr) (m c:Nat) (news : List Value) (hx : a.eval x = .slice A m c) (hl : news.length = m * size) (hr : Row w A news) (h1 : ∀ u ∈ news,u.oneCell' = true)
  (h63 : n + m ≤ maxLen) (hbytes : (n + m) * bytes ≤ 140737488355328) (hbase : base ≤ w.heap.size)
  (h : ∀ v' w',w'.ownsRow base e size v' (n + m) (xs ++ news) → w.grownBy w' v.ownBlock → (v'.ownBlock = v.ownBlock∨v'.ownBlock = some w.heap.size) → wpList P ops Q rest (a.put o.dst v') w') : wpList P ops Q (o :: rest) a w:=by
 refine wpList_plain hgd fun K hK => ?_;obtain ⟨v',w',hrun,h2,h3,h5⟩:=run_append_row (P:=P) w base t o.type e i z size bytes ht hi hz hsize hby hzs hsz v n xs hown A m c news hl hr h1 h63 hbytes hbase;unfold Oper.wp execOp;simp only [ho,resolve,invoke,builtin,Sem.run_bind,Sem.run_pure,Result.andThen_ok,List.map_toArray,List.map_cons,List.map_nil,hs,hx,hrun];exact hK _ _ (h v' w' h2 h3 h5)
end
section
variable {P : Program} (w : World)
end
theorem Row.grown {w w' : World} {A : Option Addr} {xs : List Value} {row : Option Nat} (h : Row w A xs) (hg : w.grownBy w' row) (hne : ∀ a,A = some a → some a.block ≠ row) : Row w' A xs:=by
 rcases h with h | ⟨b,off,e,hlt,hc⟩
 ·exact .inl h
 ·exact .inr ⟨b,off,e,Nat.lt_of_lt_of_le hlt hg.size,fun j u hu => hg.cell (a:=⟨b,off + j,none⟩) (hc j u hu) (hne ⟨b,off,none⟩ e)⟩
theorem own_belowS {w w' : World} {base : Nat} {e : TypeId} {size n : Nat} {v : Value} {xs : List Value} (h : w.ownsRow base e size v n xs) (hb : Below w.heap.size w w') : w'.ownsRow base e size v n xs:=by
 refine ⟨h.1,?_⟩;rcases h.2 with h2 | ⟨g,cap,cur,hv,hg,hh,r⟩
 ·exact Or.inl h2
 ·exact Or.inr ⟨g,cap,cur,hv,hg,by rw [hb.block g (Array.getElem?_eq_some_iff.1 hh).1]; exact hh,r⟩
end
section
def dig (B n:Nat) : List Nat:=if h : n = 0∨B < 2 then [] else n % B :: dig B (n / B)
termination_by n
decreasing_by
 simp only [not_or,Nat.not_lt] at h;exact Nat.div_lt_self (Nat.pos_of_ne_zero h.1) h.2
def V (B:Nat) : List Nat → Nat
 | [] => 0
 | x :: l => x + B * V B l
theorem dig_zero (B:Nat) : dig B 0 = []:=by
 rw [dig,dif_pos (.inl rfl)]
theorem dig_pos {B n : Nat} (hB : 2 ≤ B) (hn : n ≠ 0) : dig B n = n % B :: dig B (n / B):=by
 rw [dig,dif_neg (by omega)]
theorem V_dig {B : Nat} (hB : 2 ≤ B) (n:Nat) : V B (dig B n) = n:=by
 induction n using Nat.strongRecOn with
 | _ n ih =>
  by_cases hn : n = 0
  ·subst hn;rw [dig_zero];rfl
  ·rw [dig_pos hB hn,V,ih (n / B) (Nat.div_lt_self (Nat.pos_of_ne_zero hn) hB)];exact Nat.mod_add_div n B
theorem dig_lt {B : Nat} (hB : 2 ≤ B) (n:Nat) : ∀ x ∈ dig B n,x < B:=by
 induction n using Nat.strongRecOn with
 | _ n ih =>
  by_cases hn : n = 0
  ·subst hn;rw [dig_zero];simp
  ·rw [dig_pos hB hn];intro x hx;rcases List.mem_cons.1 hx with rfl | hx
   ·exact Nat.mod_lt _ (by omega)
   ·exact ih (n / B) (Nat.div_lt_self (Nat.pos_of_ne_zero hn) hB) x hx
def normed (l : List Nat) : Prop:=l = []∨∃ x,l.getLast? = some x∧x ≠ 0
theorem V_pos {B : Nat} (hB : 2 ≤ B) : ∀ l : List Nat,l ≠ [] → normed l → V B l ≠ 0
 | [],h,_ => absurd rfl h
 | [x],_,h => by
  rcases h with h | ⟨y,h,hy⟩
  ·cases h
  ·simp at h;subst h;simp [V,hy]
 | x :: y :: l,_,h => by
  have:=V_pos hB (y :: l) (by simp) (by
   rcases h with h | ⟨z,h,hz⟩
   ·cases h
   ·exact .inr ⟨z,by rw [List.getLast?_cons_cons] at h; exact h,hz⟩)
  rw [V];have h2 : 0 < B * V B (y :: l):=Nat.mul_pos (by omega) (Nat.pos_of_ne_zero this);omega
theorem dig_V {B : Nat} (hB : 2 ≤ B) : ∀ l : List Nat,(∀ x ∈ l,x < B) → normed l → dig B (V B l) = l
 | [],_,_ => by rw [V,dig_zero]
 | x :: l,h,hn => by
  have hx:=h x (by simp);have h0:=V_pos hB (x :: l) (by simp) hn;have hl : normed l:=by
   rcases l with _ | ⟨y,l⟩
   ·exact .inl rfl
   ·rcases hn with hn | ⟨z,hz,h2⟩
    ·cases hn
    ·exact .inr ⟨z,by rw [List.getLast?_cons_cons] at hz; exact hz,h2⟩
  rw [dig_pos hB h0,V,Nat.add_mul_mod_self_left,Nat.mod_eq_of_lt hx,Nat.add_mul_div_left _ _ (by omega),Nat.div_eq_of_lt hx,Nat.zero_add,
   dig_V hB l (fun y hy => h y (List.mem_cons_of_mem _ hy)) hl]
theorem dig_normed {B : Nat} (hB : 2 ≤ B) (n:Nat) : normed (dig B n):=by
 induction n using Nat.strongRecOn with
 | _ n ih =>
  by_cases hn : n = 0
  ·subst hn;rw [dig_zero];exact .inl rfl
  ·rw [dig_pos hB hn];rcases ih (n / B) (Nat.div_lt_self (Nat.pos_of_ne_zero hn) hB) with h | ⟨x,h,hx⟩
   ·rw [h];refine .inr ⟨n % B,rfl,fun e => hn ?_⟩;have h2:=V_dig hB (n / B);rw [h] at h2;have h3:=Nat.mod_add_div n B;rw [← h2,e] at h3;simpa [V] using h3.symm
   ·refine .inr ⟨x,?_,hx⟩;rcases hd : dig B (n / B) with _ | ⟨y,l⟩
    ·rw [hd] at h;cases h
    ·rw [List.getLast?_cons_cons,← hd];exact h
theorem dig_nil {B n : Nat} (hB : 2 ≤ B) : dig B n = [] ↔ n = 0:=by
 constructor
 ·intro h;have:=V_dig hB n;rw [h] at this;exact this.symm
 ·rintro rfl;exact dig_zero B
theorem V_append (B:Nat) : ∀ a b : List Nat,V B (a ++ b) = V B a + B ^ a.length * V B b
 | [],b => by simp [V]
 | x :: a,b => by
  rw [List.cons_append,V,V_append B a b,V,List.length_cons,Nat.pow_succ,Nat.mul_add,← Nat.mul_assoc,Nat.mul_comm B (B ^ a.length)];omega
theorem V_lt {B : Nat} (hB : 2 ≤ B) : ∀ l : List Nat,(∀ x ∈ l,x < B) → V B l < B ^ l.length
 | [],_ => by simp [V]
 | x :: l,h => by
  have h1:=V_lt hB l (fun y hy => h y (List.mem_cons_of_mem _ hy));have h2:=h x (by simp);rw [V,List.length_cons,Nat.pow_succ,Nat.mul_comm (B ^ l.length)];have h3 : B * V B l + B ≤ B * B ^ l.length:=(by rw [← Nat.mul_succ]; exact Nat.mul_le_mul (Nat.le_refl _) h1);omega
theorem dig_len {B : Nat} (hB : 2 ≤ B) : ∀ (k n:Nat),n < B ^ k → (dig B n).length ≤ k
 | 0,n,h => by
  have : n = 0:=(by simpa using h);subst this;rw [dig_zero];exact Nat.le_refl _
 | k + 1,n,h => by
  by_cases hn : n = 0
  ·subst hn;rw [dig_zero];exact Nat.zero_le _
  ·rw [dig_pos hB hn,List.length_cons];have:=dig_len hB k (n / B) (by rw [Nat.div_lt_iff_lt_mul (by omega)]; rwa [Nat.pow_succ] at h);omega
def trimZ (l : List Nat) : List Nat:=(l.reverse.dropWhile (· == 0)).reverse
theorem trimZ_snoc_zero (l : List Nat) : trimZ (l ++ [0]) = trimZ l:=by simp [trimZ]
theorem trimZ_snoc {x : Nat} (l : List Nat) (h : x ≠ 0) : trimZ (l ++ [x]) = l ++ [x]:=by simp [trimZ,h]
theorem V_trimZ (B:Nat) (l : List Nat) : V B (trimZ l) = V B l:=by
 induction h : l.length generalizing l with
 | zero =>
  have : l = []:=List.eq_nil_of_length_eq_zero h;subst this;rfl
 | succ k ih =>
  obtain ⟨a,x,rfl⟩ : ∃ a x,l = a ++ [x]:=⟨l.dropLast,l.getLast (by rintro rfl; simp at h),(List.dropLast_concat_getLast _).symm⟩
  by_cases hx : x = 0
  ·subst hx;rw [trimZ_snoc_zero,ih a (by simp at h; exact h),V_append];simp [V]
  ·rw [trimZ_snoc a hx]
theorem trimZ_mem (l : List Nat) : ∀ x ∈ trimZ l,x ∈ l:=by
 intro x hx;unfold trimZ at hx;rw [List.mem_reverse] at hx;exact List.mem_reverse.1 ((List.dropWhile_sublist _).subset hx)
theorem trimZ_normed (l : List Nat) : normed (trimZ l):=by
 induction h : l.length generalizing l with
 | zero =>
  have : l = []:=List.eq_nil_of_length_eq_zero h;subst this;exact .inl rfl
 | succ k ih =>
  obtain ⟨a,x,rfl⟩ : ∃ a x,l = a ++ [x]:=⟨l.dropLast,l.getLast (by rintro rfl; simp at h),(List.dropLast_concat_getLast _).symm⟩
  by_cases hx : x = 0
  ·subst hx;rw [trimZ_snoc_zero];exact ih a (by simp at h; exact h)
  ·rw [trimZ_snoc a hx];exact .inr ⟨x,by simp,hx⟩
theorem trimZ_dig {B : Nat} (hB : 2 ≤ B) (l : List Nat) (h : ∀ x ∈ l,x < B) : trimZ l = dig B (V B l):=by
 rw [← V_trimZ B l];exact (dig_V hB _ (fun x hx => h x (trimZ_mem l x hx)) (trimZ_normed l)).symm
def mulGo (B m:Nat) : List Nat → Nat → List Nat × Nat
 | [],c => ([],c)
 | x :: l,c => ((c + x * m) % B :: (mulGo B m l ((c + x * m) / B)).1,(mulGo B m l ((c + x * m) / B)).2)
theorem mulGo_V (B m:Nat) : ∀ (l : List Nat) (c:Nat),V B (mulGo B m l c).1 + B ^ l.length * (mulGo B m l c).2 = V B l * m + c
 | [],c => by simp [mulGo,V]
 | x :: l,c => by
  have h:=mulGo_V B m l ((c + x * m) / B);rw [mulGo];simp only;rw [V,List.length_cons,Nat.pow_succ,V];have h2:=Nat.mod_add_div (c + x * m) B;have h3 : B * (V B (mulGo B m l ((c + x * m) / B)).1 + B ^ l.length * (mulGo B m l ((c + x * m) / B)).2) = B * (V B l * m) + B * ((c + x * m) / B):=(by rw [h,Nat.mul_add]);rw [Nat.mul_add,← Nat.mul_assoc,Nat.mul_comm B (B ^ l.length)] at h3;rw [Nat.add_mul,Nat.mul_assoc B];omega
theorem mulGo_len (B m:Nat) : ∀ (l : List Nat) (c:Nat),(mulGo B m l c).1.length = l.length
 | [],_ => rfl
 | x :: l,c => by rw [mulGo]; simp [mulGo_len B m l]
theorem mulGo_lt {B m : Nat} (hB : 2 ≤ B) : ∀ (l : List Nat) (c:Nat),∀ x ∈ (mulGo B m l c).1,x < B
 | [],_,x,h => by simp [mulGo] at h
 | y :: l,c,x,h => by
  rw [mulGo] at h;simp only at h;rcases List.mem_cons.1 h with rfl | h
  ·exact Nat.mod_lt _ (by omega)
  ·exact mulGo_lt hB l _ x h
theorem mulGo_carry {B m : Nat} (hB : 2 ≤ B) (hm : m < B) : ∀ (l : List Nat) (c:Nat),(∀ x ∈ l,x < B) → c < B → (mulGo B m l c).2 < B
 | [],c,_,h => h
 | x :: l,c,hl,h => by
  rw [mulGo];have hx:=hl x (by simp);refine mulGo_carry hB hm l _ (fun y hy => hl y (List.mem_cons_of_mem _ hy)) ?_;rw [Nat.div_lt_iff_lt_mul (by omega)];have h1 : x * m ≤ (B - 1) * (B - 1):=Nat.mul_le_mul (by omega) (by omega);obtain ⟨k,rfl⟩ : ∃ k,B = k + 1:=⟨B - 1,by omega⟩;simp only [Nat.add_sub_cancel] at h1;have h2 : (k + 1) * (k + 1) = k * k + k + k + 1:=(by rw [Nat.mul_add,Nat.add_mul]; omega);omega
theorem mulGo_snoc (B m:Nat) : ∀ (l : List Nat) (x c:Nat),mulGo B m (l ++ [x]) c = ((mulGo B m l c).1 ++ [((mulGo B m l c).2 + x * m) % B],((mulGo B m l c).2 + x * m) / B)
 | [],x,c => rfl
 | y :: l,x,c => by
  rw [List.cons_append,mulGo,mulGo_snoc B m l x,mulGo];rfl
def divGo (B d:Nat) : List Nat → List Nat × Nat
 | [] => ([],0)
 | x :: l => (((divGo B d l).2 * B + x) / d :: (divGo B d l).1,((divGo B d l).2 * B + x) % d)
theorem divGo_len (B d:Nat) : ∀ l : List Nat,(divGo B d l).1.length = l.length
 | [] => rfl
 | x :: l => by rw [divGo]; simp [divGo_len B d l]
theorem divGo_rest {B d : Nat} (hd : 0 < d) : ∀ l : List Nat,(divGo B d l).2 < d
 | [] => hd
 | x :: l => Nat.mod_lt _ hd
theorem divGo_lt {B d : Nat} (hd : 0 < d) : ∀ l : List Nat,(∀ x ∈ l,x < B) → ∀ x ∈ (divGo B d l).1,x < B
 | [],_,x,h => by simp [divGo] at h
 | y :: l,hl,x,h => by
  rw [divGo] at h;simp only at h;rcases List.mem_cons.1 h with rfl | h
  ·have h1:=divGo_rest (B:=B) hd l;have h2:=hl y (by simp);rw [Nat.div_lt_iff_lt_mul hd];have h3 : (divGo B d l).2 * B + B ≤ d * B:=(by rw [← Nat.succ_mul]; exact Nat.mul_le_mul h1 (Nat.le_refl _));rw [Nat.mul_comm B d];omega
  ·exact divGo_lt hd l (fun z hz => hl z (List.mem_cons_of_mem _ hz)) x h
theorem divGo_V {B d : Nat} (hd : 0 < d) : ∀ l : List Nat,V B (divGo B d l).1 = V B l / d∧(divGo B d l).2 = V B l % d
 | [] => by simp [divGo,V]
 | x :: l => by
  obtain ⟨h1,h2⟩:=divGo_V hd l (B:=B);have h3 : V B (x :: l) = ((divGo B d l).2 * B + x) + d * (B * V B (divGo B d l).1):=by
   rw [V,h1,h2];have h4:=Nat.mod_add_div (V B l) d;have h5 : B * V B l = B * (V B l % d) + B * (d * (V B l / d)):=(by rw [← Nat.mul_add,h4]);rw [h5,Nat.mul_comm B (V B l % d),← Nat.mul_assoc B d,Nat.mul_comm B d,Nat.mul_assoc d B];omega
  rw [h3,Nat.add_mul_div_left _ _ hd,Nat.add_mul_mod_self_left];exact ⟨rfl,rfl⟩
theorem divGo_dig {B d : Nat} (hB : 2 ≤ B) (hd : 0 < d) (n:Nat) : trimZ (divGo B d (dig B n)).1 = dig B (n / d)∧(divGo B d (dig B n)).2 = n % d:=by
 have h:=divGo_V (B:=B) hd (dig B n);rw [V_dig hB] at h;exact ⟨by rw [trimZ_dig hB _ (divGo_lt hd _ (dig_lt hB n)),h.1],h.2⟩
theorem mulGo_dig {B m : Nat} (hB : 2 ≤ B) (hm : m < B) (hm0 : 0 < m) (n c:Nat) (hc : c < B) :
  (mulGo B m (dig B n) c).1 ++ (if 0 < (mulGo B m (dig B n) c).2 then [(mulGo B m (dig B n) c).2] else []) = dig B (n * m + c):=by
 have hV:=mulGo_V B m (dig B n) c;rw [V_dig hB] at hV;have hcr:=mulGo_carry hB hm (dig B n) c (dig_lt hB n) hc;have hlt:=mulGo_lt (m:=m) hB (dig B n) c;have hlen:=mulGo_len B m (dig B n) c;rcases Nat.eq_zero_or_pos (mulGo B m (dig B n) c).2 with h0 | h0
 ·rw [if_neg (by omega),List.append_nil];rw [h0,Nat.mul_zero,Nat.add_zero] at hV;rw [← hV];refine (dig_V hB _ hlt ?_).symm;rcases dig_normed hB n with hn | ⟨x,hx,hx0⟩
  ·have h3 : (mulGo B m (dig B n) c).1.length = 0:=(by rw [hlen,hn]; rfl);exact .inl (List.eq_nil_of_length_eq_zero h3)
  ·obtain ⟨a,ha⟩ : ∃ a,dig B n = a ++ [x]:=by
    obtain ⟨ne,hg⟩:=List.getLast?_eq_some_iff.1 hx;exact ⟨ne,hg⟩
   rw [ha,mulGo_snoc] at h0 ⊢;simp only at h0 ⊢;refine .inr ⟨((mulGo B m a c).2 + x * m) % B,by simp,?_⟩;have h1:=Nat.mod_add_div ((mulGo B m a c).2 + x * m) B;rw [h0,Nat.mul_zero,Nat.add_zero] at h1;rw [h1];have : 0 < x * m:=Nat.mul_pos (Nat.pos_of_ne_zero hx0) hm0;omega
 ·rw [if_pos h0];have h1 : V B ((mulGo B m (dig B n) c).1 ++ [(mulGo B m (dig B n) c).2]) = n * m + c:=by
   rw [V_append,hlen];simpa [V] using hV
  rw [← h1];refine (dig_V hB _ ?_ (.inr ⟨(mulGo B m (dig B n) c).2,by simp,by omega⟩)).symm;intro x hx;rcases List.mem_append.1 hx with hx | hx
  ·exact hlt x hx
  ·rw [List.mem_singleton.1 hx];exact hcr
end
section
open Go.RowKit
theorem own_below {w w' : World} {base : Nat} {e : TypeId} {size n : Nat} {v : Value} {xs : List Value} (h : w.ownsRow base e size v n xs) (hb : Below w.heap.size w w') : w'.ownsRow base e size v n xs:=by
 refine ⟨h.1,?_⟩;rcases h.2 with h2 | ⟨g,cap,cur,hv,hg',hh,r⟩
 ·exact Or.inl h2
 ·exact Or.inr ⟨g,cap,cur,hv,hg',by rw [hb.block g (Array.getElem?_eq_some_iff.1 hh).1]; exact hh,r⟩
theorem own_some {w : World} {base : Nat} {e : TypeId} {n : Nat} {v : Value} {xs : List Value} (h : w.ownsRow base e 1 v n xs) (hn : n ≠ 0) :
  ∃ g c cs,v = .slice (some ⟨g,0,none⟩) n c∧base ≤ g∧Blk w g e cs∧n ≤ cs.size∧cs.toList.take n = xs∧n ≤ c:=by
 rcases h.2 with ⟨_,h2⟩ | ⟨g,cap,cur,hv,hb,hh,hnc,_,hsz,ht⟩
 ·exact absurd h2 hn
 ·exact ⟨g,cap,cur,hv,hb,hh,by omega,by rw [Nat.mul_one] at ht; exact ht,hnc⟩
def u32s (l : List Nat) : List Value:=l.map fun n : Nat => Value.int .u32 (n:Int)
theorem u32s_snoc (d : List Nat) (x:Nat) : u32s (d ++ [x]) = u32s d ++ [.int .u32 (x:Int)]:=by simp [u32s]
theorem info_u32 : (Tryz.prog.info? 63).map (fun i => (i.zero,i.size,i.bytes)) = some (some (.int .u32 0),1,4):=by kernel_rfl
theorem row_u32 {w : World} {A : Option Addr} {m : List Nat} (h : Row w A (u32s m)) {j : Nat} (hj : j < m.length) : ∃ b off,A = some ⟨b,off,none⟩∧w.cell? ⟨b,off + j,none⟩ = some (.int .u32 (m[j]:Int)):=by
 obtain ⟨b,off,e,hlt,hc⟩:=h.at_ (k:=j) (by simpa [u32s] using hj);exact ⟨b,off,e,hc j _ (by simp [u32s,hj])⟩
end
end Go.Proofs.YtonehlkiackhcaaGreatDoor