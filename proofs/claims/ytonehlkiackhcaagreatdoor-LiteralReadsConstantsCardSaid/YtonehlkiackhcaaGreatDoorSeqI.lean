/- Small words on byte strings. Nothing is claimed here. -/
import Derived.WalkKit
import Derived.Lib.Hide
import Derived.Deep.QuietTactic
import Derived.BigQuiet
import Derived.Maps.AppendAt
import Derived.Deep.Draws
import Derived.WideShapes
import Derived.Shelf.Small.Utf8
import Derived.Shelf.Small.Strs
import Derived.Shelf.Strings.Search1
import Derived.Shelf.Strings.Search2
import Derived.Shelf.Strings.Prefix
import Derived.Shelf.LaysM
import Derived.Shelf.Strings.Shaped
import Derived.Shelf.Utf8.RuneCount
import Derived.Shelf.Strings.Search3
import Derived.Shelf.Strings.Repeat
import Derived.Shelf.Unicode.Decode
import Derived.Shelf.Unicode.DecodeAny
import Derived.Shelf.Strings.Fields
import Derived.Test.YtonehlkiackhcaaGreatDoorProg
import Derived.Lib.RuneCountTail
import Derived.Lib.MapLaws
import Derived.Lib.LastIndexByte
import Derived.Lib.Bytealg
import Derived.Lib.Strings
import Derived.RangeFuncOwn
import Derived.Laws.Strings2
set_option linter.unusedVariables false
set_option maxRecDepth 100000
set_option maxHeartbeats 16000000
namespace Go.Proofs.YtonehlkiackhcaaGreatDoor
open Go.RowKit
def Row (w : World) (A : Option Addr) (xs : List Value) : Prop :=
 xs = [] ∨ ∃ b off,A = some ⟨b,off,none⟩ ∧ b < w.heap.size ∧ ∀ j u,xs[j]? = some u → w.cell? ⟨b,off + j,none⟩ = some u
theorem Row.nil (w : World) (A : Option Addr) : Row w A []:=.inl rfl
theorem Row.keepB {w w' : World} {A : Option Addr} {xs : List Value} (h : Row w A xs) (hb : Below w.heap.size w w') : Row w' A xs:=by
 rcases h with h | ⟨b,off,e,hlt,hc⟩
 ·exact .inl h
 ·exact .inr ⟨b,off,e,Nat.lt_of_lt_of_le hlt hb.size,fun j u hu => (hb.cell (p:=⟨b,off + j,none⟩) hlt).trans (hc j u hu)⟩
theorem Row.at_ {w : World} {A : Option Addr} {xs : List Value} (h : Row w A xs) {k : Nat} (hk : k < xs.length) :
  ∃ b off,A = some ⟨b,off,none⟩ ∧ b < w.heap.size ∧ ∀ j u,xs[j]? = some u → w.cell? ⟨b,off + j,none⟩ = some u:=by
 rcases h with h | h
 ·subst h; simp at hk
 ·exact h
theorem flat_at {α : Type} (f : α → List Value) (s : Nat) (hf : ∀ x,(f x).length = s) : ∀ (l : List α) (k : Nat) (hk : k < l.length) (i : Nat),i < s → (l.flatMap f)[k * s + i]? = (f l[k])[i]?
 | x :: l,0,_,i,hi => by
  simp only [List.flatMap_cons,Nat.zero_mul,Nat.zero_add,List.getElem_cons_zero];rw [List.getElem?_append_left (by rw [hf]; exact hi)]
 | x :: l,k + 1,hk,i,hi => by
  simp only [List.flatMap_cons,List.getElem_cons_succ];rw [List.getElem?_append_right (by rw [hf,Nat.add_mul]; omega),hf];have e : (k + 1) * s + i - s = k * s + i:=(by rw [Nat.add_mul]; omega);rw [e];exact flat_at f s hf l k (by simpa using hk) i hi
theorem flat_len {α : Type} (f : α → List Value) (s : Nat) (hf : ∀ x,(f x).length = s) : ∀ l : List α,(l.flatMap f).length = l.length * s
 | [] => by simp
 | x :: l => by simp only [List.flatMap_cons,List.length_append,hf,flat_len f s hf l,List.length_cons,Nat.add_mul]; omega
theorem Row.elem {α : Type} {f : α → List Value} {s : Nat} (hf : ∀ x,(f x).length = s) (hs : 0 < s) {w : World} {A : Option Addr} {l : List α} (h : Row w A (l.flatMap f)) {k : Nat} (hk : k < l.length) :
  ∃ b off,A = some ⟨b,off,none⟩ ∧ b < w.heap.size ∧ ∀ i u,i < s → (f l[k])[i]? = some u → w.cell? ⟨b,off + k * s + i,none⟩ = some u:=by
 obtain ⟨b,off,e,hlt,hc⟩:=h.at_ (k:=k * s) (by rw [flat_len f s hf]; exact Nat.mul_lt_mul_of_pos_right hk hs);refine ⟨b,off,e,hlt,fun i u hi hu => ?_⟩;rw [Nat.add_assoc];exact hc _ u (by rw [flat_at f s hf l k hk i hi]; exact hu)
theorem Row.of_own {w : World} {base size n c : Nat} {A : Option Addr} {e : TypeId} {xs : List Value} (h : w.ownsRow base e size (.slice A n c) n xs) : Row w A xs:=by
 rcases h.2 with ⟨hv,rfl⟩ | ⟨g,cap,cur,hv,hb,hg,_⟩
 ·exact .inl (List.eq_nil_of_length_eq_zero (by simpa using h.1))
 ·injection hv with hA hn hc;subst hA;refine .inr ⟨g,0,rfl,(Array.getElem?_eq_some_iff.1 hg).1,fun j u hu => ?_⟩;have:=h.cells (g:=g) rfl j u hu;rw [Addr.add_lit] at this;exact this
theorem own_form {w : World} {base size n : Nat} {e : TypeId} {v : Value} {xs : List Value} (h : w.ownsRow base e size v n xs) : ∃ A c,v = .slice A n c ∧ Row w A xs ∧ n ≤ c:=by
 rcases h.2 with ⟨hv,rfl⟩ | ⟨g,cap,cur,hv,hb,hg,hnc,_⟩
 ·exact ⟨none,0,hv,.inl (List.eq_nil_of_length_eq_zero (by simpa using h.1)),Nat.le_refl _⟩
 ·subst hv;exact ⟨_,_,rfl,Row.of_own h,hnc⟩
theorem ret_int {k : IntKind} {a b : Int} (h : a = b) : Ending.returned (.int k a) = .returned (.int k b):=by rw [h]
theorem ret_bool {a b : Bool} (h : a = b) : Ending.returned (.bool a) = .returned (.bool b):=by rw [h]
def Blk (w : World) (g : Nat) (t : TypeId) (cs : Array Value) : Prop:=w.heap[g]? = some (.cells cs t (0,0))
section
variable {w w' : World} {g : Nat} {t : TypeId} {cs : Array Value}
theorem Blk.lt (h : Blk w g t cs) : g < w.heap.size:=by
 rcases Nat.lt_or_ge g w.heap.size with hlt | hge
 ·exact hlt
 ·unfold Blk at h; rw [Array.getElem?_eq_none hge] at h; cases h
theorem Blk.cell (h : Blk w g t cs) (i : Nat) : w.cell? ⟨g,i,none⟩ = cs[i]?:=cell_of_row w g i cs t (0,0) h
theorem Blk.frozen (h : Blk w g t cs) (i : Nat) : w.frozen? ⟨g,i,none⟩ = false:=by
 unfold Blk at h;simp [World.frozen?,h]
theorem Blk.new (w : World) (t : TypeId) (cs : Array Value) : Blk (w.alloc (.cells cs t)) w.heap.size t cs:=heap_alloc_new w _
theorem Blk.drew (h : Blk w g t cs) : Blk w.drew g t cs:=h
theorem Blk.drewN (h : Blk w g t cs) (n : Nat) : Blk (w.drewN n) g t cs:=h
theorem Blk.alloc (h : Blk w g t cs) (o : Obj) : Blk (w.alloc o) g t cs:=(Below.heap_alloc w o g h.lt).trans h
theorem Blk.set_ (h : Blk w g t cs) (i : Nat) (u : Value) : Blk (w.setCell ⟨g,i,none⟩ u) g t (cs.setIfInBounds i u):=by
 unfold Blk at h ⊢;simp [World.setCell,Array.getElem?_modify,h]
theorem Blk.far (h : Blk w g t cs) {p : Addr} (hp : g ≠ p.block) (u : Value) : Blk (w.setCell p u) g t cs:=(Below.heap_setCell w p u g hp).trans h
theorem Blk.below {B : Nat} (h : Blk w g t cs) (hb : Below B w w') (hg : g < B) : Blk w' g t cs:=(hb.block g hg).trans h
theorem Blk.belowS (h : Blk w g t cs) (hb : Below w.heap.size w w') : Blk w' g t cs:=h.below hb h.lt
theorem Blk.grown {row : Option Nat} (h : Blk w g t cs) (hb : w.grownBy w' row) (hg : some g ≠ row) : Blk w' g t cs:=(hb.block g h.lt hg).trans h
theorem Blk.ne_ {g' : Nat} {t' : TypeId} {cs' : Array Value} (h : Blk w g t cs) (h' : Blk w g' t' cs') (hne : t ≠ t') : g ≠ g':=by
 rintro rfl;unfold Blk at h h';rw [h] at h';injection h' with h';injection h' with _ ht;exact hne ht
theorem own_blk_ne {base : Nat} {e : TypeId} {size n : Nat} {v : Value} {xs : List Value} (h : w.ownsRow base e size v n xs) (hg : Blk w g t cs) (hne : e ≠ t) : v.ownBlock ≠ some g:=by
 rcases h.2 with ⟨rfl,_⟩ | ⟨g',cap,cur,rfl,_,hh,_⟩
 ·simp [Value.ownBlock]
 ·intro he;have : g' = g:=(by simpa [Value.ownBlock] using he);subst this;exact Blk.ne_ (t:=e) hh hg hne rfl
theorem Blk.rules (h : Blk w g t cs) : (∀ i,w.cell? ⟨g,i,none⟩ = cs[i]?) ∧ (∀ i,w.frozen? ⟨g,i,none⟩ = false) ∧ g < w.heap.size:=⟨h.cell,h.frozen,h.lt⟩
end
theorem below_drewN {B : Nat} {a w : World} (h : Below B a w) (n : Nat) : Below B a (w.drewN n):=⟨h.os,h.tape,h.output,h.size,h.block⟩
theorem below_then {B : Nat} {a w w' : World} (h : Below B a w) (hb : Below w.heap.size w w') (hB : B ≤ w.heap.size) : Below B a w':=h.trans (hb.mono hB)
section
variable {P : Program} {fn : Func} {R : Ending → World → Prop} {a : Act} {w : World} {p g t ty : Nat} {cs : Array Value}
theorem ret_blk (hres : fn.results = #[.cell p ty]) (hp : a.tmps.getD p undef = .pointer (some ⟨g,0,none⟩)) (hB : Blk w g t cs) (d : TypeDesc) (hu : P.underlying ty = some d)
  (hd : (match d with | .struct _ | .array _ _ => true | _ => false) = true) (hi : (P.info? ty).map (·.size) = some cs.size) (hdf : a.defers = []) (hR : R (.returned (.agg cs)) w) : bodyPost P fn R .ret a w :=
 bodyPost_ret (results_cell_row hres _ _ g t cs (0,0) d hp hB hu hd hi) hdf hR
theorem results_tmp_blk {q : Nat} (hres : fn.results = #[.tmp q,.cell p ty]) (hp : a.tmps.getD p undef = .pointer (some ⟨g,0,none⟩)) (hB : Blk w g t cs) (d : TypeDesc) (hu : P.underlying ty = some d)
  (hd : (match d with | .struct _ | .array _ _ => true | _ => false) = true) (hi : (P.info? ty).map (·.size) = some cs.size) :
  (results fn a.tmps).run P w = .ok (.tuple #[a.tmps.getD q undef,.agg cs]) w:=by
 have hp' : a.tmps[p]?.getD undef = .pointer (some ⟨g,0,none⟩):=by simpa using hp
 simp [results,hres,hp',asAddr,run_loadVar_row w g t ty cs (0,0) d hB hu hd hi]
theorem ret_tmp_blk {q : Nat} (hres : fn.results = #[.tmp q,.cell p ty]) (hp : a.tmps.getD p undef = .pointer (some ⟨g,0,none⟩)) (hB : Blk w g t cs) (d : TypeDesc) (hu : P.underlying ty = some d)
  (hd : (match d with | .struct _ | .array _ _ => true | _ => false) = true) (hi : (P.info? ty).map (·.size) = some cs.size) (hdf : a.defers = []) (v : Value) (hv : a.tmps.getD q undef = v)
  (hR : R (.returned (.tuple #[v,.agg cs])) w) : bodyPost P fn R .ret a w:=by
 subst hv;exact bodyPost_ret (results_tmp_blk hres hp hB d hu hd hi) hdf hR
end
theorem grownBy_alloc (w : World) (o : Obj) (row : Option Nat) : w.grownBy (w.alloc o) row:=World.grownBy_alloc w o row
def Moved (a : World) (r s : Option Nat) : Prop:=s = r ∨ ∃ g,s = some g ∧ a.heap.size ≤ g
theorem Moved.refl (a : World) (r : Option Nat) : Moved a r r:=.inl rfl
theorem Moved.next {a b : World} {r s t : Option Nat} (h : Moved a r s) (k : t = s ∨ t = some b.heap.size) (hab : a.heap.size ≤ b.heap.size) : Moved a r t:=by
 rcases k with k | k
 ·rw [k]; exact h
 ·exact .inr ⟨_,k,hab⟩
theorem Moved.trans {a b : World} {r s t : Option Nat} (h : Moved a r s) (k : Moved b s t) (hab : a.heap.size ≤ b.heap.size) : Moved a r t:=by
 rcases k with k | ⟨g,k,hg⟩
 ·rw [k]; exact h
 ·exact .inr ⟨g,k,Nat.le_trans hab hg⟩
section
variable {P : Program} (w : World)
theorem run_append_of_nil (base : Nat) (t ty e : TypeId) (i : TypeInfo) (size : Nat) (ht : P.underlying t = some (.slice e)) (hi : P.info? e = some i)
  (v : Value) (n : Nat) (xs : List Value) (hown : w.ownsRow base e size v n xs) (c : Nat) : (Builtin.append_ #[t,t] ty #[v,.slice none 0 c]).run P w = .ok v w:=by
 rcases hown.2 with ⟨rfl,rfl⟩ | ⟨g,cap,cur,rfl,_,_,hnc,_⟩
 ·simp [Builtin.append_,run_underlying ht,sizeOf,typeInfo,hi,Builtin.lenOf,Builtin.firstCells]
 ·simp [Builtin.append_,run_underlying ht,sizeOf,typeInfo,hi,Builtin.lenOf,Builtin.firstCells,hnc,storeCells]
theorem run_append_row (base : Nat) (t ty e : TypeId) (i : TypeInfo) (z : Value) (size bytes : Nat) (ht : P.underlying t = some (.slice e)) (hi : P.info? e = some i) (hz : i.zero = some z)
  (hsize : i.size = size) (hby : i.bytes = bytes) (hzs : z.cells.size = size) (hsz : 0 < size)
  (v : Value) (n : Nat) (xs : List Value) (hown : w.ownsRow base e size v n xs)
  (A : Option Addr) (m c : Nat) (news : List Value) (hl : news.length = m * size) (hr : Row w A news) (h1 : ∀ u ∈ news,u.oneCell' = true)
  (h63 : n + m ≤ maxLen) (hbytes : (n + m) * bytes ≤ 140737488355328) (hbase : base ≤ w.heap.size) :
  ∃ v' w',(Builtin.append_ #[t,t] ty #[v,.slice A m c]).run P w = .ok v' w' ∧ w'.ownsRow base e size v' (n + m) (xs ++ news) ∧ w.grownBy w' v.ownBlock ∧
   (v'.ownBlock = v.ownBlock ∨ v'.ownBlock = some w.heap.size):=by
 rcases A with _ | ad
 ·have hn : news = []:=by
   rcases hr with hr | ⟨b,off,h,_⟩
   ·exact hr
   ·cases h
  subst hn;have hm : m = 0:=by
   rcases Nat.eq_zero_or_pos m with h0 | h0
   ·exact h0
   ·have : 0 < m * size:=Nat.mul_pos h0 hsz;simp at hl;omega
  subst hm;exact ⟨v,w,run_append_of_nil w base t ty e i size ht hi v n xs hown c,by simpa using hown,World.grownBy.refl w _,.inl rfl⟩
 ·have hcells : ∀ j u,news[j]? = some u → w.cell? (ad.add j) = some u:=by
   intro j u hu;rcases hr with hr | ⟨b,off,h,_,hc⟩
   ·subst hr; simp at hu
   ·injection h with h;subst h;rw [Go.WideShapes.add_plain];exact hc j u hu
  obtain ⟨v',w',hrun,h2,h3,_,h5⟩:=run_append_own_at (P:=P) w base t ty e i z size bytes ht hi hz hsize hby hzs hsz v n xs hown ad m c news hl hcells h1 h63 hbytes hbase;exact ⟨v',w',hrun,h2,h3,h5⟩
theorem wpList_append_row {ops : Array Oper} {rest : List Oper} {o : Oper} {a : Act} {Q : Exit → Act → World → Prop} (hgd : o.guard = none) (s x : Operand) (t : TypeId)
  (ho : o.op = .call { callee:=.builtin .append,args:=#[s,x],argTypes:=#[t,t] })
  (base : Nat) (e : TypeId) (i : TypeInfo) (z : Value) (size bytes : Nat) (ht : P.underlying t = some (.slice e)) (hi : P.info? e = some i) (hz : i.zero = some z)
  (hsize : i.size = size) (hby : i.bytes = bytes) (hzs : z.cells.size = size) (hsz : 0 < size)
  (v : Value) (n : Nat) (xs : List Value) (hs : a.eval s = v) (hown : w.ownsRow base e size v n xs)
  (A : Option Addr) (m c : Nat) (news : List Value) (hx : a.eval x = .slice A m c) (hl : news.length = m * size) (hr : Row w A news) (h1 : ∀ u ∈ news,u.oneCell' = true)
  (h63 : n + m ≤ maxLen) (hbytes : (n + m) * bytes ≤ 140737488355328) (hbase : base ≤ w.heap.size)
  (h : ∀ v' w',w'.ownsRow base e size v' (n + m) (xs ++ news) → w.grownBy w' v.ownBlock → (v'.ownBlock = v.ownBlock ∨ v'.ownBlock = some w.heap.size) → wpList P ops Q rest (a.put o.dst v') w') : wpList P ops Q (o :: rest) a w:=by
 refine wpList_plain hgd fun K hK => ?_;obtain ⟨v',w',hrun,h2,h3,h5⟩:=run_append_row (P:=P) w base t o.type e i z size bytes ht hi hz hsize hby hzs hsz v n xs hown A m c news hl hr h1 h63 hbytes hbase;unfold Oper.wp execOp;simp only [ho,resolve,invoke,builtin,Sem.run_bind,Sem.run_pure,Result.andThen_ok,List.map_toArray,List.map_cons,List.map_nil,hs,hx,hrun];exact hK _ _ (h v' w' h2 h3 h5)
end
section
variable {P : Program} (w : World)
end
theorem Row.grown {w w' : World} {A : Option Addr} {xs : List Value} {row : Option Nat} (h : Row w A xs) (hg : w.grownBy w' row) (hne : ∀ a,A = some a → some a.block ≠ row) : Row w' A xs:=by
 rcases h with h | ⟨b,off,e,hlt,hc⟩
 ·exact .inl h
 ·exact .inr ⟨b,off,e,Nat.lt_of_lt_of_le hlt hg.size,fun j u hu => hg.cell (a:=⟨b,off + j,none⟩) (hc j u hu) (hne ⟨b,off,none⟩ e)⟩
theorem own_belowS {w w' : World} {base : Nat} {e : TypeId} {size n : Nat} {v : Value} {xs : List Value} (h : w.ownsRow base e size v n xs) (hb : Below w.heap.size w w') : w'.ownsRow base e size v n xs:=by
 refine ⟨h.1,?_⟩;rcases h.2 with h2 | ⟨g,cap,cur,hv,hg,hh,r⟩
 ·exact Or.inl h2
 ·exact Or.inr ⟨g,cap,cur,hv,hg,by rw [hb.block g (Array.getElem?_eq_some_iff.1 hh).1]; exact hh,r⟩
end Go.Proofs.YtonehlkiackhcaaGreatDoor

namespace Go.Proofs
open Go.Shelf
def Tryz.lays137_ren : Go.Shelf.Ren:=⟨fun | 137 => 87 | 217 => 124 | 266 => 160 | n => n,fun | 9 => 9 | 5 => 5 | 3 => 3 | n => n,fun | n => n⟩
theorem Tryz.lays137 : Go.Proofs.Lays.n137 Tryz.prog Tryz.lays137_ren:={
 mixed:=by kernel_rfl
 f137:=Tryz.func87.trans (congrArg some (by kernel_rfl))
 f217:=Tryz.func124.trans (congrArg some (by kernel_rfl))
 f266:=Tryz.func160.trans (congrArg some (by kernel_rfl))
 t3:=Tryz.underlying3
 a3:=Tryz.isAgg3
 z3:=Tryz.sizeOf3
 v3:=Tryz.zeroValue3
 t5:=Tryz.underlying5
 a5:=Tryz.isAgg5
 z5:=Tryz.sizeOf5
 v5:=Tryz.zeroValue5
 t9:=Tryz.underlying9
 a9:=Tryz.isAgg9
 z9:=Tryz.sizeOf9
 v9:=Tryz.zeroValue9 }
open Go.RowKit in
theorem Tryz.strings_IndexByte (s : ByteArray) (c : Int) (w : World) :
  Calls Tryz.prog 87 #[.string s,.int .u8 c] w fun e w' => e = .returned (.int .i64 (Lib.indexByte s.data.toList c.toNat.toUInt8)) ∧ w' = w:=Any.strings_IndexByte Tryz.lays137 s c w
def Tryz.lays195_ren : Go.Shelf.Ren:=⟨fun | 195 => 186 | n => n,fun | 9 => 9 | 3 => 3 | 0 => 0 | 4 => 4 | n => n,fun | n => n⟩
theorem Tryz.lays195 : Go.Proofs.Lays.n195 Tryz.prog Tryz.lays195_ren:={
 mixed:=by kernel_rfl
 f195:=Tryz.func186.trans (congrArg some (by kernel_rfl))
 t0:=Tryz.underlying0
 a0:=Tryz.isAgg0
 z0:=Tryz.sizeOf0
 v0:=Tryz.zeroValue0
 t3:=Tryz.underlying3
 a3:=Tryz.isAgg3
 z3:=Tryz.sizeOf3
 v3:=Tryz.zeroValue3
 t4:=Tryz.underlying4
 a4:=Tryz.isAgg4
 z4:=Tryz.sizeOf4
 v4:=Tryz.zeroValue4
 t9:=Tryz.underlying9
 a9:=Tryz.isAgg9
 z9:=Tryz.sizeOf9
 v9:=Tryz.zeroValue9 }
open Go.RowKit in
theorem Tryz.utf8_RuneCountInString (s : ByteArray) (w : World) (hs : s.size < 9223372036854775807) :
  Calls Tryz.prog 186 #[.string s] w fun e w' => e = .returned (.int .i64 (Lib.runeCount s)) ∧ ∃ pos,w' = w.iter s pos:=Any.utf8_RuneCountInString Tryz.lays195 s w hs
def Tryz.lays144_ren : Go.Shelf.Ren:=⟨fun | 144 => 130 | 143 => 131 | 219 => 108 | 217 => 124 | 225 => 107 | 224 => 106 | 267 => 141 | 266 => 160 | 314 => 180 | n => n,fun | 9 => 9 | 4 => 4 | 3 => 3 | 5 => 5 | 46 => 121 | 146 => 198 | 51 => 63 | n => n,fun | 1 => 2 | n => n⟩
theorem Tryz.lays144 : Go.Proofs.Lays.n144 Tryz.prog Tryz.lays144_ren:={
 mixed:=by kernel_rfl
 f143:=Tryz.func131.trans (congrArg some (by kernel_rfl))
 f144:=Tryz.func130.trans (congrArg some (by kernel_rfl))
 f217:=Tryz.func124.trans (congrArg some (by kernel_rfl))
 f219:=Tryz.func108.trans (congrArg some (by kernel_rfl))
 f224:=Tryz.func106.trans (congrArg some (by kernel_rfl))
 f225:=Tryz.func107.trans (congrArg some (by kernel_rfl))
 f266:=Tryz.func160.trans (congrArg some (by kernel_rfl))
 f267:=Tryz.func141.trans (congrArg some (by kernel_rfl))
 f314:=Tryz.func180.trans (congrArg some (by kernel_rfl))
 t3:=Tryz.underlying3
 a3:=Tryz.isAgg3
 z3:=Tryz.sizeOf3
 v3:=Tryz.zeroValue3
 t4:=Tryz.underlying4
 a4:=Tryz.isAgg4
 z4:=Tryz.sizeOf4
 v4:=Tryz.zeroValue4
 t5:=Tryz.underlying5
 a5:=Tryz.isAgg5
 z5:=Tryz.sizeOf5
 v5:=Tryz.zeroValue5
 t9:=Tryz.underlying9
 a9:=Tryz.isAgg9
 z9:=Tryz.sizeOf9
 v9:=Tryz.zeroValue9
 t46:=Tryz.underlying121
 a46:=Tryz.isAgg121
 z46:=Tryz.sizeOf121
 v46:=Tryz.zeroValue121
 t51:=Tryz.underlying63
 a51:=Tryz.isAgg63
 z51:=Tryz.sizeOf63
 v51:=Tryz.zeroValue63
 t146:=Tryz.underlying198
 a146:=Tryz.isAgg198
 z146:=Tryz.sizeOf198
 v146:=Tryz.zeroValue198
 g1:=by kernel_rfl }
open Go.RowKit Go.Lib in
theorem Tryz.strings_Contains_one (s : ByteArray) (c : UInt8) (w : World) :
  Calls Tryz.prog 130 #[.string s,.string ⟨#[c]⟩] w fun e w' => e = .returned (.bool (decide (0 ≤ Lib.indexByte s.data.toList c))) ∧ w' = w:=Any.strings_Contains_one Tryz.lays144 s c w
def Tryz.laysM144_ren : Go.Shelf.Ren:=⟨fun | 144 => 130 | 143 => 131 | 219 => 108 | 217 => 124 | 225 => 107 | 224 => 106 | 267 => 141 | 266 => 160 | 314 => 180 | n => n,fun | 9 => 9 | 4 => 4 | 3 => 3 | 5 => 5 | 46 => 121 | 146 => 198 | 51 => 63 | n => n,fun | 1 => 2 | n => n⟩
open Go.RowKit Go.Lib in
def Tryz.lays99_ren : Go.Shelf.Ren:=⟨fun | 99 => 39 | 206 => 82 | n => n,fun | 9 => 9 | 4 => 4 | 3 => 3 | n => n,fun | n => n⟩
theorem Tryz.lays99 : Go.Proofs.Lays.n99 Tryz.prog Tryz.lays99_ren:={
 mixed:=by kernel_rfl
 f99:=Tryz.func39.trans (congrArg some (by kernel_rfl))
 f206:=Tryz.func82.trans (congrArg some (by kernel_rfl))
 t3:=Tryz.underlying3
 a3:=Tryz.isAgg3
 z3:=Tryz.sizeOf3
 v3:=Tryz.zeroValue3
 t4:=Tryz.underlying4
 a4:=Tryz.isAgg4
 z4:=Tryz.sizeOf4
 v4:=Tryz.zeroValue4
 t9:=Tryz.underlying9
 a9:=Tryz.isAgg9
 z9:=Tryz.sizeOf9
 v9:=Tryz.zeroValue9 }
open Go.RowKit Go.Lib in
theorem Tryz.strings_HasPrefix (s p : ByteArray) (w : World) :
  Calls Tryz.prog 39 #[.string s,.string p] w fun e w' => e = .returned (.bool (Lib.hasPrefix s.data.toList p.data.toList)) ∧ w' = w:=Any.strings_HasPrefix Tryz.lays99 s p w
def Tryz.lays157_ren : Go.Shelf.Ren:=⟨fun | 157 => 145 | 229 => 182 | 199 => 183 | 261 => 214 | 311 => 234 | 312 => 235 | n => n,fun | 9 => 9 | 31 => 50 | 3 => 3 | 5 => 5 | 4 => 4 | 119 => 160 | 0 => 0 | 40 => 47 | 152 => 265 | 21 => 21 | 154 => 267 | 51 => 63 | 141 => 269 | 196 => 290 | 193 => 287 | 198 => 293 | 49 => 291 | 194 => 288 | 201 => 296 | 226 => 310 | 46 => 121 | 227 => 311 | n => n,fun | 0 => 3 | 6 => 5 | n => n⟩
theorem Tryz.lays157 : Go.Proofs.Lays.n157 Tryz.prog Tryz.lays157_ren:={
 mixed:=by kernel_rfl
 f157:=Tryz.func145.trans (congrArg some (by kernel_rfl))
 f199:=Tryz.func183.trans (congrArg some (by kernel_rfl))
 f229:=Tryz.func182.trans (congrArg some (by kernel_rfl))
 f261:=Tryz.func214.trans (congrArg some (by kernel_rfl))
 f311:=Tryz.func234.trans (congrArg some (by kernel_rfl))
 f312:=Tryz.func235.trans (congrArg some (by kernel_rfl))
 t0:=Tryz.underlying0
 a0:=Tryz.isAgg0
 z0:=Tryz.sizeOf0
 v0:=Tryz.zeroValue0
 t3:=Tryz.underlying3
 a3:=Tryz.isAgg3
 z3:=Tryz.sizeOf3
 v3:=Tryz.zeroValue3
 t4:=Tryz.underlying4
 a4:=Tryz.isAgg4
 z4:=Tryz.sizeOf4
 v4:=Tryz.zeroValue4
 t5:=Tryz.underlying5
 a5:=Tryz.isAgg5
 z5:=Tryz.sizeOf5
 v5:=Tryz.zeroValue5
 t9:=Tryz.underlying9
 a9:=Tryz.isAgg9
 z9:=Tryz.sizeOf9
 v9:=Tryz.zeroValue9
 t21:=Tryz.underlying21
 a21:=Tryz.isAgg21
 z21:=Tryz.sizeOf21
 v21:=Tryz.zeroValue21
 t31:=Tryz.underlying50
 a31:=Tryz.isAgg50
 z31:=Tryz.sizeOf50
 v31:=Tryz.zeroValue50
 t40:=Tryz.underlying47
 a40:=Tryz.isAgg47
 z40:=Tryz.sizeOf47
 v40:=Tryz.zeroValue47
 t46:=Tryz.underlying121
 a46:=Tryz.isAgg121
 z46:=Tryz.sizeOf121
 v46:=Tryz.zeroValue121
 t49:=Tryz.underlying291
 a49:=Tryz.isAgg291
 z49:=Tryz.sizeOf291
 v49:=Tryz.zeroValue291
 t51:=Tryz.underlying63
 a51:=Tryz.isAgg63
 z51:=Tryz.sizeOf63
 v51:=Tryz.zeroValue63
 t119:=Tryz.underlying160
 a119:=Tryz.isAgg160
 z119:=Tryz.sizeOf160
 t141:=Tryz.underlying269
 a141:=Tryz.isAgg269
 z141:=Tryz.sizeOf269
 v141:=Tryz.zeroValue269
 t152:=Tryz.underlying265
 a152:=Tryz.isAgg265
 z152:=Tryz.sizeOf265
 v152:=Tryz.zeroValue265
 t154:=Tryz.underlying267
 a154:=Tryz.isAgg267
 z154:=Tryz.sizeOf267
 v154:=Tryz.zeroValue267
 t193:=Tryz.underlying287
 a193:=Tryz.isAgg287
 z193:=Tryz.sizeOf287
 v193:=Tryz.zeroValue287
 t194:=Tryz.underlying288
 a194:=Tryz.isAgg288
 z194:=Tryz.sizeOf288
 v194:=Tryz.zeroValue288
 t196:=Tryz.underlying290
 a196:=Tryz.isAgg290
 z196:=Tryz.sizeOf290
 v196:=Tryz.zeroValue290
 t198:=Tryz.underlying293
 a198:=Tryz.isAgg293
 z198:=Tryz.sizeOf293
 v198:=Tryz.zeroValue293
 t201:=Tryz.underlying296
 a201:=Tryz.isAgg296
 z201:=Tryz.sizeOf296
 v201:=Tryz.zeroValue296
 t226:=Tryz.underlying310
 a226:=Tryz.isAgg310
 z226:=Tryz.sizeOf310
 v226:=Tryz.zeroValue310
 t227:=Tryz.underlying311
 a227:=Tryz.isAgg311
 z227:=Tryz.sizeOf311
 v227:=Tryz.zeroValue311
 g0:=by kernel_rfl
 g6:=by kernel_rfl }
open Go.RowKit Go.Lib in
theorem Tryz.strings_Fields (s : ByteArray) (w : World) (hs : s.size < 4294967281) (hascii : ∀ (j : Nat) b,s.data.toList[j]? = some b → b.toNat < 128) (htab : Lib.TabIs Tryz.prog w "strings.asciiSpace" .u8 Lib.asciiSpaceTab) :
  Calls Tryz.prog 145 #[.string s] w fun e w' =>
   e = .returned (.slice (some ⟨w.heap.size,0,none⟩) (Lib.fields s.data.toList).length (Lib.fields s.data.toList).length) ∧ w' = w.alloc (.cells ((Lib.fields s.data.toList).map fun l => Value.string ⟨l.toArray⟩).toArray 9):=Any.strings_Fields Tryz.lays157 (by kernel_rfl) (by kernel_rfl) s w hs hascii htab
def Tryz.lays197_ren : Go.Shelf.Ren:=⟨fun | 197 => 84 | 260 => 121 | n => n,fun | 9 => 9 | 21 => 21 | 3 => 3 | 4 => 4 | 5 => 5 | 105 => 131 | 119 => 160 | 0 => 0 | 46 => 121 | 139 => 163 | 138 => 162 | n => n,fun | 3 => 0 | 4 => 1 | n => n⟩
theorem Tryz.lays197 : Go.Proofs.Lays.n197 Tryz.prog Tryz.lays197_ren:={
 mixed:=by kernel_rfl
 f197:=Tryz.func84.trans (congrArg some (by kernel_rfl))
 f260:=Tryz.func121.trans (congrArg some (by kernel_rfl))
 t0:=Tryz.underlying0
 a0:=Tryz.isAgg0
 z0:=Tryz.sizeOf0
 v0:=Tryz.zeroValue0
 t3:=Tryz.underlying3
 a3:=Tryz.isAgg3
 z3:=Tryz.sizeOf3
 v3:=Tryz.zeroValue3
 t4:=Tryz.underlying4
 a4:=Tryz.isAgg4
 z4:=Tryz.sizeOf4
 v4:=Tryz.zeroValue4
 t5:=Tryz.underlying5
 a5:=Tryz.isAgg5
 z5:=Tryz.sizeOf5
 v5:=Tryz.zeroValue5
 t9:=Tryz.underlying9
 a9:=Tryz.isAgg9
 z9:=Tryz.sizeOf9
 v9:=Tryz.zeroValue9
 t21:=Tryz.underlying21
 a21:=Tryz.isAgg21
 z21:=Tryz.sizeOf21
 v21:=Tryz.zeroValue21
 t46:=Tryz.underlying121
 a46:=Tryz.isAgg121
 z46:=Tryz.sizeOf121
 v46:=Tryz.zeroValue121
 t105:=Tryz.underlying131
 a105:=Tryz.isAgg131
 z105:=Tryz.sizeOf131
 v105:=Tryz.zeroValue131
 t119:=Tryz.underlying160
 a119:=Tryz.isAgg160
 z119:=Tryz.sizeOf160
 t138:=Tryz.underlying162
 a138:=Tryz.isAgg162
 z138:=Tryz.sizeOf162
 v138:=Tryz.zeroValue162
 t139:=Tryz.underlying163
 a139:=Tryz.isAgg163
 z139:=Tryz.sizeOf163
 v139:=Tryz.zeroValue163
 g3:=by kernel_rfl
 g4:=by kernel_rfl }
def Tryz.lays105_ren : Go.Shelf.Ren:=⟨fun | 105 => 73 | 212 => 104 | 99 => 39 | 165 => 105 | 166 => 62 | 170 => 65 | 169 => 66 | 263 => 138 | 264 => 139 | 206 => 82 | 240 => 99 | 241 => 140 | 276 => 133 | 277 => 179 | n => n,fun | 9 => 9 | 3 => 3 | 4 => 4 | 20 => 20 | 0 => 0 | 46 => 121 | 109 => 165 | 5 => 5 | 72 => 99 | 76 => 102 | 51 => 63 | 146 => 198 | 53 => 164 | 148 => 200 | 70 => 97 | 37 => 71 | 75 => 101 | 127 => 158 | 164 => 193 | 80 => 54 | n => n,fun | n => n⟩
theorem Tryz.lays105 : Go.Proofs.Lays.n105 Tryz.prog Tryz.lays105_ren:={
 mixed:=by kernel_rfl
 f99:=Tryz.func39.trans (congrArg some (by kernel_rfl))
 f105:=Tryz.func73.trans (congrArg some (by kernel_rfl))
 f165:=Tryz.func105.trans (congrArg some (by kernel_rfl))
 f166:=Tryz.func62.trans (congrArg some (by kernel_rfl))
 f169:=Tryz.func66.trans (congrArg some (by kernel_rfl))
 f170:=Tryz.func65.trans (congrArg some (by kernel_rfl))
 f206:=Tryz.func82.trans (congrArg some (by kernel_rfl))
 f212:=Tryz.func104.trans (congrArg some (by kernel_rfl))
 f240:=Tryz.func99.trans (congrArg some (by kernel_rfl))
 f241:=Tryz.func140.trans (congrArg some (by kernel_rfl))
 f263:=Tryz.func138.trans (congrArg some (by kernel_rfl))
 f264:=Tryz.func139.trans (congrArg some (by kernel_rfl))
 f276:=Tryz.func133.trans (congrArg some (by kernel_rfl))
 f277:=Tryz.func179.trans (congrArg some (by kernel_rfl))
 t0:=Tryz.underlying0
 a0:=Tryz.isAgg0
 z0:=Tryz.sizeOf0
 v0:=Tryz.zeroValue0
 t3:=Tryz.underlying3
 a3:=Tryz.isAgg3
 z3:=Tryz.sizeOf3
 v3:=Tryz.zeroValue3
 t4:=Tryz.underlying4
 a4:=Tryz.isAgg4
 z4:=Tryz.sizeOf4
 v4:=Tryz.zeroValue4
 t5:=Tryz.underlying5
 a5:=Tryz.isAgg5
 z5:=Tryz.sizeOf5
 v5:=Tryz.zeroValue5
 t9:=Tryz.underlying9
 a9:=Tryz.isAgg9
 z9:=Tryz.sizeOf9
 v9:=Tryz.zeroValue9
 t20:=Tryz.underlying20
 a20:=Tryz.isAgg20
 z20:=Tryz.sizeOf20
 v20:=Tryz.zeroValue20
 t37:=Tryz.underlying71
 a37:=Tryz.isAgg71
 z37:=Tryz.sizeOf71
 v37:=Tryz.zeroValue71
 t46:=Tryz.underlying121
 a46:=Tryz.isAgg121
 z46:=Tryz.sizeOf121
 v46:=Tryz.zeroValue121
 t51:=Tryz.underlying63
 a51:=Tryz.isAgg63
 z51:=Tryz.sizeOf63
 v51:=Tryz.zeroValue63
 t53:=Tryz.underlying164
 a53:=Tryz.isAgg164
 z53:=Tryz.sizeOf164
 v53:=Tryz.zeroValue164
 t70:=Tryz.underlying97
 a70:=Tryz.isAgg97
 z70:=Tryz.sizeOf97
 v70:=Tryz.zeroValue97
 t72:=Tryz.underlying99
 a72:=Tryz.isAgg99
 z72:=Tryz.sizeOf99
 v72:=Tryz.zeroValue99
 t75:=Tryz.underlying101
 a75:=Tryz.isAgg101
 z75:=Tryz.sizeOf101
 v75:=Tryz.zeroValue101
 t76:=Tryz.underlying102
 a76:=Tryz.isAgg102
 z76:=Tryz.sizeOf102
 v76:=Tryz.zeroValue102
 t109:=Tryz.underlying165
 a109:=Tryz.isAgg165
 z109:=Tryz.sizeOf165
 v109:=Tryz.zeroValue165
 t127:=Tryz.underlying158
 a127:=Tryz.isAgg158
 z127:=Tryz.sizeOf158
 v127:=Tryz.zeroValue158
 t146:=Tryz.underlying198
 a146:=Tryz.isAgg198
 z146:=Tryz.sizeOf198
 v146:=Tryz.zeroValue198
 t148:=Tryz.underlying200
 a148:=Tryz.isAgg200
 z148:=Tryz.sizeOf200
 v148:=Tryz.zeroValue200
 t164:=Tryz.underlying193
 a164:=Tryz.isAgg193
 z164:=Tryz.sizeOf193
 v164:=Tryz.zeroValue193 }
theorem Tryz.Builder_Extra_105 : Builder.Extra Tryz.prog Tryz.lays105_ren:={
 sizeBuilder:=by kernel_rfl
 liesBuilder:=by kernel_rfl
 t5:=Tryz.underlying5
 a5:=Tryz.isAgg5
 z5:=Tryz.sizeOf5
 v5:=Tryz.zeroValue5
 infoByte:=by kernel_rfl
 cellsByte:=by kernel_rfl
 sizeByte:=by kernel_rfl
 neB5:=by decide }
open Go.RowKit Go.Lib in
theorem Tryz.strings_Repeat (s : ByteArray) (c : Nat) (w : World) (hc : c ≤ 9223372036854775807) (hlen : s.size * c ≤ 140737488355328) :
  Calls Tryz.prog 73 #[.string s,.int .i64 c] w fun e w' => e = .returned (.string ⟨(Lib.repeatL s.data.toList c).toArray⟩) ∧ Below w.heap.size w w':=Any.strings_Repeat Tryz.lays105 Tryz.Builder_Extra_105 s c w hc hlen
open Go.RowKit Go.Lib in
theorem Tryz.utf8_DecodeRuneInString (s : ByteArray) (w : World) (hT : Lib.Utf8Tabs 0 1 w) :
  Calls Tryz.prog 84 #[.string s] w fun e w' => e = .returned (.tuple #[.int .i32 (Lib.decodeGo s).1,.int .i64 (Lib.decodeGo s).2]) ∧ Below w.heap.size w w':=Any.utf8_DecodeRuneInString Tryz.lays197 s w hT
end Go.Proofs

namespace Go.Proofs.YtonehlkiackhcaaGreatDoor
open Go.Lib
def bAt (l : List UInt8) (i : Nat) : Nat:=(l.getD i 0).toNat
theorem bAt_lt (l : List UInt8) (i : Nat) : bAt l i < 256:=(l.getD i 0).toNat_lt
theorem decodeL_eq (l : List UInt8) : decodeL l = decodeN l.length (bAt l 0) (bAt l 1) (bAt l 2) (bAt l 3):=by
 unfold decodeL;rw [decode_at];simp only [← getD_get!',Nat.zero_add,Nat.sub_zero];rfl
theorem decodeN_cases (n b0 b1 b2 b3 : Nat) :
  (b0 < 128 ∧ ∀ n' b1' b2' b3',decodeN n' b0 b1' b2' b3' = (b0,1)) ∨ decodeN n b0 b1 b2 b3 = (65533,1) ∨
  (2 ≤ n ∧ b0 / 64 = 3 ∧ b1 / 64 = 2 ∧ ∃ c,128 ≤ c ∧ ∀ n' b2' b3',2 ≤ n' → decodeN n' b0 b1 b2' b3' = (c,2)) ∨
  (3 ≤ n ∧ b0 / 64 = 3 ∧ b1 / 64 = 2 ∧ b2 / 64 = 2 ∧ ∃ c,128 ≤ c ∧ ∀ n' b3',3 ≤ n' → decodeN n' b0 b1 b2 b3' = (c,3)) ∨
  (4 ≤ n ∧ b0 / 64 = 3 ∧ b1 / 64 = 2 ∧ b2 / 64 = 2 ∧ b3 / 64 = 2 ∧ ∃ c,128 ≤ c ∧ ∀ n',4 ≤ n' → decodeN n' b0 b1 b2 b3 = (c,4)):=by
 by_cases h0 : b0 < 128
 ·exact .inl ⟨h0,fun _ _ _ _ => by unfold decodeN; rw [if_pos h0]⟩
 refine .inr ?_
 by_cases h2 : b0 / 32 = 6 ∧ (1 < n ∧ b1 / 64 = 2)
 ·by_cases hc : b0 % 32 * 64 + b1 % 64 ≥ 128
  ·refine .inr (.inl ⟨by omega,by omega,by omega,_,hc,fun n' b2' b3' hn => ?_⟩);unfold decodeN;rw [if_neg h0,if_pos ⟨h2.1,by omega,h2.2.2⟩,if_pos hc]
  ·refine .inl ?_;unfold decodeN;rw [if_neg h0,if_pos h2,if_neg hc]
 by_cases h3 : b0 / 16 = 14 ∧ (1 < n ∧ b1 / 64 = 2) ∧ (2 < n ∧ b2 / 64 = 2)
 ·by_cases hc : b0 % 16 * 4096 + b1 % 64 * 64 + b2 % 64 ≥ 2048 ∧ (b0 % 16 * 4096 + b1 % 64 * 64 + b2 % 64 < 55296 ∨ (57344 ≤ b0 % 16 * 4096 + b1 % 64 * 64 + b2 % 64 ∧ b0 % 16 * 4096 + b1 % 64 * 64 + b2 % 64 ≤ 1114111))
  ·refine .inr (.inr (.inl ⟨by omega,by omega,by omega,by omega,b0 % 16 * 4096 + b1 % 64 * 64 + b2 % 64,by omega,fun n' b3' hn => ?_⟩));unfold decodeN;rw [if_neg h0,if_neg (by omega),if_pos ⟨h3.1,⟨by omega,h3.2.1.2⟩,by omega,h3.2.2.2⟩,if_pos hc]
  ·refine .inl ?_;unfold decodeN;rw [if_neg h0,if_neg h2,if_pos h3,if_neg hc]
 by_cases h4 : b0 / 8 = 30 ∧ (1 < n ∧ b1 / 64 = 2) ∧ (2 < n ∧ b2 / 64 = 2) ∧ (3 < n ∧ b3 / 64 = 2)
 ·by_cases hc : b0 % 8 * 262144 + b1 % 64 * 4096 + b2 % 64 * 64 + b3 % 64 ≥ 65536 ∧ (b0 % 8 * 262144 + b1 % 64 * 4096 + b2 % 64 * 64 + b3 % 64 < 55296 ∨ (57344 ≤ b0 % 8 * 262144 + b1 % 64 * 4096 + b2 % 64 * 64 + b3 % 64 ∧ b0 % 8 * 262144 + b1 % 64 * 4096 + b2 % 64 * 64 + b3 % 64 ≤ 1114111))
  ·refine .inr (.inr (.inr ⟨by omega,by omega,by omega,by omega,by omega,b0 % 8 * 262144 + b1 % 64 * 4096 + b2 % 64 * 64 + b3 % 64,by omega,fun n' hn => ?_⟩));unfold decodeN;rw [if_neg h0,if_neg (by omega),if_neg (by omega),if_pos ⟨h4.1,⟨by omega,h4.2.1.2⟩,⟨by omega,h4.2.2.1.2⟩,by omega,h4.2.2.2.2⟩,if_pos hc]
  ·refine .inl ?_;unfold decodeN;rw [if_neg h0,if_neg h2,if_neg h3,if_pos h4,if_neg hc]
 refine .inl ?_;unfold decodeN;rw [if_neg h0,if_neg h2,if_neg h3,if_neg h4]
def badL (l : List UInt8) : Bool:=decide ((decodeL l).1 < 32) && (decodeL l).1 != 10 || (decodeL l).1 == 65533 && (decodeL l).2 == 1
structure Chr (c : List UInt8) : Prop where
 pos : 0 < c.length
 dec : ∀ t,decodeL (c ++ t) = ((decodeL c).1,c.length)
 ok : badL c = false
 head : bAt c 0 / 64 ≠ 2
 tail : ∀ j,0 < j → j < c.length → bAt c j / 64 = 2
 one : (decodeL c).1 < 128 → c.length = 1
theorem chr_mk (c : List UInt8) (r : Nat) (hp : 0 < c.length) (h : ∀ t,decodeL (c ++ t) = (r,c.length)) (hb : ¬ (r < 32 ∧ r ≠ 10)) (h1 : ¬ (r = 65533 ∧ c.length = 1)) (h2 : bAt c 0 / 64 ≠ 2)
  (h3 : ∀ j,0 < j → j < c.length → bAt c j / 64 = 2) (h4 : r < 128 → c.length = 1) : Chr c:=by
 have h0 : decodeL c = (r,c.length):=by have:=h []; rwa [List.append_nil] at this
 refine ⟨hp,fun t => by rw [h t,h0],?_,h2,h3,by rw [h0]; exact h4⟩;unfold badL;rw [h0];simp only [Bool.or_eq_false_iff,Bool.and_eq_false_iff,decide_eq_false_iff_not,bne_eq_false_iff_eq,beq_eq_false_iff_ne,ne_eq];exact ⟨by omega,by omega⟩
theorem bAt_zero (x : UInt8) (l : List UInt8) : bAt (x :: l) 0 = x.toNat:=by simp [bAt]
theorem chr_of (l : List UInt8) (hne : l ≠ []) (hb : badL l = false) : Chr (l.take (decodeL l).2) ∧ (decodeL l).2 ≤ l.length ∧ (l.take (decodeL l).2).length = (decodeL l).2 ∧ (decodeL (l.take (decodeL l).2)).1 = (decodeL l).1:=by
 have hb' : ¬ ((decodeL l).1 < 32 ∧ (decodeL l).1 ≠ 10) ∧ ¬ ((decodeL l).1 = 65533 ∧ (decodeL l).2 = 1):=by
  unfold badL at hb;simp only [Bool.or_eq_false_iff,Bool.and_eq_false_iff,decide_eq_false_iff_not,bne_eq_false_iff_eq,beq_eq_false_iff_ne,ne_eq] at hb;exact ⟨by omega,by omega⟩
 have key : ∀ (k r : Nat), decodeL l = (r, k) → 0 < k → k ≤ l.length → (∀ t, decodeL (l.take k ++ t) = (r, k)) → bAt l 0 / 64 ≠ 2 → (∀ j, 0 < j → j < k → bAt l j / 64 = 2) → (r < 128 → k = 1) → --
     Chr (l.take (decodeL l).2) ∧ (decodeL l).2 ≤ l.length ∧ (l.take (decodeL l).2).length = (decodeL l).2 ∧ (decodeL (l.take (decodeL l).2)).1 = (decodeL l).1:=by
   intro k r h0 hk hkl hd hh ht h1
   rw [h0] at hb' ⊢
   have hlen : (l.take k).length = k:=by rw [List.length_take]; omega
   have hat : ∀ j,j < k → bAt (l.take k) j = bAt l j:=fun j hj => by simp [bAt,hj]
   refine ⟨chr_mk (l.take k) r (by omega) (fun t => by rw [hd t,hlen]) hb'.1 (by rw [hlen]; exact hb'.2) (by rw [hat 0 hk]; exact hh) (fun j h1 h2 => by rw [hat j (by omega)]; exact ht j h1 (by omega)) (by rw [hlen]; exact h1),hkl,hlen,?_⟩
   have:=hd []
   rw [List.append_nil] at this
   rw [this]
 have hpos : 0 < l.length:=List.length_pos_iff.2 hne;rcases decodeN_cases l.length (bAt l 0) (bAt l 1) (bAt l 2) (bAt l 3) with ⟨h0,h⟩ | h | ⟨hn,h0,h1,c,hc,h⟩ | ⟨hn,h0,h1,h2,c,hc,h⟩ | ⟨hn,h0,h1,h2,h3,c,hc,h⟩
 ·refine key 1 (bAt l 0) (by rw [decodeL_eq]; exact h _ _ _ _) (by omega) (by omega) (fun t => ?_) (by omega) (fun j _ _ => by omega) (fun _ => rfl);obtain ⟨x,m,rfl⟩:=List.exists_cons_of_ne_nil hne;rw [decodeL_eq];simp only [List.take_succ_cons,List.take_zero,List.cons_append,List.nil_append,bAt_zero] at h ⊢;exact h _ _ _ _
 ·rw [decodeL_eq,h] at hb';exact absurd ⟨rfl,rfl⟩ hb'.2
 ·refine key 2 c (by rw [decodeL_eq]; exact h _ _ _ hn) (by omega) (by omega) (fun t => ?_) (by omega) (fun j _ _ => by rw [show j = 1 by omega]; exact h1) (fun _ => by omega)
  match l,hn with
  | x :: y :: m,_ =>
   have:=h (x :: y :: t).length (bAt (x :: y :: t) 2) (bAt (x :: y :: t) 3) (by simp);rw [decodeL_eq];exact this
 ·refine key 3 c (by rw [decodeL_eq]; exact h _ _ hn) (by omega) (by omega) (fun t => ?_) (by omega) (fun j _ _ => by rcases (show j = 1 ∨ j = 2 by omega) with rfl | rfl; exact h1; exact h2) (fun _ => by omega)
  match l,hn with
  | x :: y :: z :: m,_ =>
   have:=h (x :: y :: z :: t).length (bAt (x :: y :: z :: t) 3) (by simp);rw [decodeL_eq];exact this
 ·refine key 4 c (by rw [decodeL_eq]; exact h _ hn) (by omega) (by omega) (fun t => ?_) (by omega) (fun j _ _ => by rcases (show j = 1 ∨ j = 2 ∨ j = 3 by omega) with rfl | rfl | rfl; exact h1; exact h2; exact h3) (fun _ => by omega)
  match l,hn with
  | x :: y :: z :: u :: m,_ =>
   have:=h (x :: y :: z :: u :: t).length (by simp);rw [decodeL_eq];exact this
def badAt : Nat → List UInt8 → Nat → Option Nat
 | 0,_,_ => none
 | f + 1,l,p => if l = [] then none else if badL l then some p else badAt f (l.drop (decodeL l).2) (p + (decodeL l).2)
def sfault (l : List UInt8) : Int × Int:=if 16000 < l.length then (3,-1) else match badAt l.length l 0 with
 | none => (0,0)
 | some p => (1,p)
theorem width_pos (l : List UInt8) (hne : l ≠ []) : 1 ≤ (decodeL l).2:=by
 have:=decode_width_pos ⟨l.toArray⟩ 0 (by have:=List.length_pos_iff.2 hne; simpa [ByteArray.size] using this);exact this
theorem parts_of : ∀ (f : Nat) (l : List UInt8) (p : Nat),l.length ≤ f →
  (badAt f l p = none ∧ ∃ cs : List (List UInt8),l = cs.flatten ∧ ∀ c ∈ cs,Chr c) ∨
  (∃ (cs : List (List UInt8)) (r : List UInt8),badAt f l p = some (p + cs.flatten.length) ∧ l = cs.flatten ++ r ∧ (∀ c ∈ cs,Chr c) ∧ r ≠ [] ∧ badL r = true)
 | 0,l,p,h => by
  have : l = []:=List.eq_nil_of_length_eq_zero (by omega);subst this;exact .inl ⟨rfl,[],rfl,by simp⟩
 | f + 1,l,p,h => by
  by_cases hne : l = []
  ·subst hne;exact .inl ⟨by simp [badAt],[],rfl,by simp⟩
  ·by_cases hb : badL l = true
   ·exact .inr ⟨[],l,by simp [badAt,hne,hb],rfl,by simp,hne,hb⟩
   ·have hb' : badL l = false:=(by simpa using hb);obtain ⟨hc,hle,hlen,_⟩:=chr_of l hne hb';have hw:=width_pos l hne;have e : badAt (f + 1) l p = badAt f (l.drop (decodeL l).2) (p + (decodeL l).2):=by
     conv => lhs; unfold badAt
     rw [if_neg hne,if_neg hb]
    rw [e];rcases parts_of f (l.drop (decodeL l).2) (p + (decodeL l).2) (by rw [List.length_drop]; omega) with ⟨h1,cs,h2,h3⟩ | ⟨cs,r,h1,h2,h3,h4,h5⟩
    ·refine .inl ⟨h1,l.take (decodeL l).2 :: cs,?_,?_⟩
     ·rw [List.flatten_cons,← h2,List.take_append_drop]
     ·intro c hcm;rcases List.mem_cons.1 hcm with rfl | hcm
      ·exact hc
      ·exact h3 c hcm
    ·refine .inr ⟨l.take (decodeL l).2 :: cs,r,?_,?_,?_,h4,h5⟩
     ·rw [h1,List.flatten_cons,List.length_append,hlen,Nat.add_assoc]
     ·rw [List.flatten_cons,List.append_assoc,← h2,List.take_append_drop]
     ·intro c hcm;rcases List.mem_cons.1 hcm with rfl | hcm
      ·exact hc
      ·exact h3 c hcm
theorem chars_of (l : List UInt8) (h : (sfault l).1 = 0) : l.length ≤ 16000 ∧ ∃ cs : List (List UInt8),l = cs.flatten ∧ ∀ c ∈ cs,Chr c:=by
 unfold sfault at h;split at h
 ·simp at h
 ·refine ⟨by omega,?_⟩;rcases parts_of l.length l 0 (Nat.le_refl _) with ⟨_,h2⟩ | ⟨cs,r,h1,_⟩
  ·exact h2
  ·rw [h1] at h;simp at h
end Go.Proofs.YtonehlkiackhcaaGreatDoor

namespace Go.Proofs.YtonehlkiackhcaaGreatDoor
open Go.Lib
def splitB (c : UInt8) : List UInt8 → List (List UInt8)
 | [] => [[]]
 | x :: l => if x = c then [] :: splitB c l else match splitB c l with
  | [] => [[x]]
  | p :: ps => (x :: p) :: ps
end Go.Proofs.YtonehlkiackhcaaGreatDoor

namespace Go.Proofs.YtonehlkiackhcaaGreatDoor
open Go.RowKit Go.Shelf Go.Lib
def bs (l : List UInt8) : Value:=.string ⟨l.toArray⟩
theorem ba_ext {a b : ByteArray} (h : a.data.toList = b.data.toList) : a = b:=by
 cases a; cases b;simp only [ByteArray.mk.injEq];exact Array.toList_inj.1 h
theorem extract_from (r : List UInt8) (i n : Nat) (h : r.length ≤ n) : (⟨r.toArray⟩ : ByteArray).extract i n = ⟨(r.drop i).toArray⟩:=ba_ext (by rw [extract_data]; show (r.drop i).take (n - i) = r.drop i; exact List.take_of_length_le (by rw [List.length_drop]; omega))
theorem extract_sub (r : List UInt8) (i n : Nat) : (⟨r.toArray⟩ : ByteArray).extract i n = ⟨((r.drop i).take (n - i)).toArray⟩:=ba_ext (by rw [extract_data])
end Go.Proofs.YtonehlkiackhcaaGreatDoor
