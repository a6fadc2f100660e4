/- The built-in names: what the loop of the reference's heap at its beginning keeps. Nothing is claimed here. -/
import Derived.Deep.RegionLaw
import Derived.BigRegion
import Derived.Great.BuildSlice
import Derived.Test.YtfpmnkokmlghmaaDoorBltM
import Derived.Test.YtfpmnkokmlghmaaDoorBltI
namespace Go.Proofs.YtfpmnkokmlghmaaDoor
open Go.RowKit Go.Lib Go.Shelf Go.Sort
set_option linter.unusedVariables false
attribute [local go_sem] steady

/-- append into a list of the call's own, as one step of a region -/
theorem step_append_own {P : Program} {ops : Array Oper} {o : Oper} {a : Act} {w : World} {K : Act → World → Prop} {Q : Exit → Act → World → Prop} {E : Prop} (hgd : o.guard = none) (s x : Operand) (t : TypeId)
    (ho : o.op = .call { callee := .builtin .append, args := #[s, x], argTypes := #[t, t] })
    (base : Nat) (e : TypeId) (i : TypeInfo) (z : Value) (size bytes : Nat) (ht : P.underlying t = some (.slice e)) (hi : P.info? e = some i) (hz : i.zero = some z)
    (hsize : i.size = size) (hby : i.bytes = bytes) (hzs : z.cells.size = size) (hsz : 0 < size)
    (v : Value) (n : Nat) (xs : List Value) (hs : a.eval s = v) (hown : w.ownsRow base e size v n xs)
    (ad : Addr) (m c : Nat) (news : List Value) (hx : a.eval x = .slice (some ad) m c) (hl : news.length = m * size) (hnews : ∀ j u, news[j]? = some u → w.cell? (ad.add j) = some u) (h1 : ∀ u ∈ news, u.oneCell' = true)
    (h63 : n + m ≤ maxLen) (hbytes : (n + m) * bytes ≤ 140737488355328) (hbase : base ≤ w.heap.size)
    (h : ∀ v' w', w'.ownsRow base e size v' (n + m) (xs ++ news) → w.grownBy w' v.ownBlock → K (a.put o.dst v') w') :
    if Region.wanted o (yielded ops a.tmps) = true then Oper.wp P o a w K Q else E := by
  have hw : Region.wanted o (yielded ops a.tmps) = true := by simp [Region.wanted, hgd]
  rw [if_pos hw]
  obtain ⟨v', w', hr, h2, h3, h4, h5⟩ := run_append_own_at (P := P) w base t o.type e i z size bytes ht hi hz hsize hby hzs hsz v n xs hown ad m c news hl hnews h1 h63 hbytes hbase
  unfold Oper.wp execOp
  simp only [ho, resolve, invoke, builtin, Sem.run_bind, Sem.run_pure, Result.andThen_ok, List.map_toArray, List.map_cons, List.map_nil, hs, hx, hr]
  exact h v' w' h2 h3
theorem tre_data : ((List.range 49).all fun k => decide ((treL.getD k []).length ≤ 100) && ((hd 58 (treL.getD k [])) == clsL.getD k []) && (!(treL.getD k []).contains 58 || (decide (0 ≤ Lib.idxOfS (bas (clsL.take k)) ⟨(tl 58 (treL.getD k [])).toArray⟩) && decide (Lib.idxOfS (bas (clsL.take k)) ⟨(tl 58 (treL.getD k [])).toArray⟩ < (k : Int))))) = true := by decide +kernel

theorem Ob.ok.farAt {w : World} {m : Nat} {o : Ob} (h : o.ok w m) {p : Addr} (hp : o.ob ≠ p.block) (u : Value) : o.ok (w.setCell p u) m := by
  obtain ⟨h1, h2, h3, cs, h4, h5⟩ := h
  exact ⟨h1, h2, h3, cs, h4.far hp u, h5⟩
/-- what the loop keeps while it makes an object: the two lists, blocks below s -/
structure BegS (w : World) (b s k : Nat) (objs : List Ob) (v vn : Value) (wr : World) : Prop where
  ok : Hid (∀ (j : Nat) (o : Ob), objs[j]? = some o → o.ok wr (j + 1))
  own : wr.ownsRow (b + 3) 60 10 v k (objs.flatMap Ob.cells)
  nam : wr.ownsRow (b + 3) 9 1 vn k (strs (clsL.take k))
  t0 : Blk wr b 56 #[.slice none 0 0]
  t1 : Blk wr (b + 1) 56 #[v]
  n : Blk wr (b + 2) 9 (strs treL).toArray
  bel : Below b w wr
  lv : ∀ g, v.ownBlock = some g → b + 3 ≤ g ∧ g < s
  ln : ∀ g, vn.ownBlock = some g → b + 3 ≤ g ∧ g < s
  lo : Hid (∀ (j : Nat) (o : Ob), objs[j]? = some o → o.ob < s)
  bs : b + 3 ≤ s
  sz : s ≤ wr.heap.size
section
variable {w wr w' : World} {b s k : Nat} {objs : List Ob} {v vn : Value}
theorem BegS.below (h : BegS w b s k objs v vn wr) (hb : Below wr.heap.size wr w') : BegS w b s k objs v vn w' :=
  ⟨Lib.hid fun j o hj => (h.ok.out j o hj).below hb, own_below h.own hb, own_below h.nam hb, h.t0.belowS hb, h.t1.belowS hb, h.n.belowS hb, below_then h.bel hb (by have := h.bs; have := h.sz; omega), h.lv, h.ln, h.lo, h.bs, Nat.le_trans h.sz hb.size⟩
theorem BegS.alloc (h : BegS w b s k objs v vn wr) (o : Obj) : BegS w b s k objs v vn (wr.alloc o) := h.below ((Below.refl wr.heap.size wr).alloc (Nat.le_refl _) o)
theorem BegS.drewN (h : BegS w b s k objs v vn wr) (n : Nat) : BegS w b s k objs v vn (wr.drewN n) := h.below (below_drewN (Below.refl wr.heap.size wr) n)
theorem BegS.drew (h : BegS w b s k objs v vn wr) : BegS w b s k objs v vn wr.drew := ⟨h.ok, h.own, h.nam, h.t0, h.t1, h.n, below_drewN h.bel 1, h.lv, h.ln, h.lo, h.bs, h.sz⟩
theorem BegS.grown (h : BegS w b s k objs v vn wr) {row : Option Nat} (hg : wr.grownBy w' row) (hr : ∀ g, row = some g → s ≤ g) : BegS w b s k objs v vn w' := by
  have hbs := h.bs
  have hsz := h.sz
  refine ⟨Lib.hid fun j o hj => (h.ok.out j o hj).grownAt hg (fun e => ?_), own_grown h.own hg (fun g e e' => ?_), own_grown h.nam hg (fun g e e' => ?_), h.t0.grown hg (fun e => ?_), h.t1.grown hg (fun e => ?_), h.n.grown hg (fun e => ?_), h.bel.grown hg (by omega) (fun g e => ?_), h.lv, h.ln, h.lo, h.bs, Nat.le_trans h.sz hg.size⟩
  · have := h.lo.out j o hj; have := hr _ e.symm; omega
  · have := h.lv g e; have := hr _ e'.symm; omega
  · have := h.ln g e; have := hr _ e'.symm; omega
  · have := hr _ e.symm; omega
  · have := hr _ e.symm; omega
  · have := hr _ e.symm; omega
  · have := hr _ e; omega
theorem BegS.far (h : BegS w b s k objs v vn wr) {p : Addr} (hp : s ≤ p.block) (u : Value) : BegS w b s k objs v vn (wr.setCell p u) := by
  have hbs := h.bs
  refine ⟨Lib.hid fun j o hj => (h.ok.out j o hj).farAt (by have := h.lo.out j o hj; omega) u, own_far h.own (fun g e => by have := h.lv g e; omega) u, own_far h.nam (fun g e => by have := h.ln g e; omega) u, h.t0.far (by omega) u, h.t1.far (by omega) u, h.n.far (by omega) u, h.bel.setCell (by omega) u, h.lv, h.ln, h.lo, h.bs, by simpa [World.setCell] using h.sz⟩
end
/-- the state between the two appends of a round -/
structure BegM (w : World) (b q k : Nat) (objs : List Ob) (O : Ob) (v vn : Value) (wr : World) : Prop where
  ok : Hid (∀ (j : Nat) (o : Ob), objs[j]? = some o → o.ok wr (j + 1))
  own : wr.ownsRow (b + 3) 60 10 v k (objs.flatMap Ob.cells)
  nam : wr.ownsRow (b + 3) 9 1 vn (k + 1) (strs (clsL.take (k + 1)))
  t0 : Blk wr b 56 #[.slice none 0 0]
  t1 : Blk wr (b + 1) 56 #[v]
  n : Blk wr (b + 2) 9 (strs treL).toArray
  o : Blk wr q 60 O.cells.toArray
  okO : O.ok wr (k + 1)
  bel : Below b w wr
section
variable {w W w8 : World} {b s q k : Nat} {objs : List Ob} {O : Ob} {v vn v' : Value}
theorem BegS.mid {x : List UInt8} (h : BegS w b s k objs v vn W) (hs : s ≤ q) (hO : Blk W q 60 O.cells.toArray) (hok : O.ok W (k + 1)) (hx : clsL.take (k + 1) = clsL.take k ++ [x])
    (hown8 : w8.ownsRow (b + 3) 9 1 v' (k + 1) (strs (clsL.take k) ++ [.string ⟨x.toArray⟩])) (hg8 : (W.alloc (.cells #[.string ⟨x.toArray⟩] 9)).grownBy w8 vn.ownBlock) : BegM w b q k objs O v v' w8 := by
  have h1 := h.alloc (.cells #[.string ⟨x.toArray⟩] 9)
  have hbs := h.bs
  have hsz := h.sz
  have hln := h.ln
  have hna : (W.alloc (.cells #[.string ⟨x.toArray⟩] 9)).heap.size = W.heap.size + 1 := by simp
  have hal := (Below.refl W.heap.size W).alloc (Nat.le_refl _) (.cells #[.string ⟨x.toArray⟩] 9)
  refine ⟨Lib.hid fun j o hj => (h1.ok.out j o hj).grown h1.nam (by decide) hg8, own_grown h1.own hg8 (own_sep h1.own h1.nam (by decide)), by rw [hx, strs_snoc]; exact hown8, h1.t0.grown hg8 (fun e => ?_), h1.t1.grown hg8 (fun e => ?_), h1.n.grown hg8 (fun e => ?_), (hO.alloc _).grown hg8 (fun e => ?_), (hok.below hal).grown h1.nam (by decide) hg8, h1.bel.grown hg8 (by omega) (fun g e => ?_)⟩
  · have := hln _ e.symm; omega
  · have := hln _ e.symm; omega
  · have := hln _ e.symm; omega
  · have := hln _ e.symm; omega
  · have := hln _ e; omega
theorem BegM.fin (h : BegM w b q k objs O v vn W) (hol : objs.length = k) (hown8 : w8.ownsRow (b + 3) 60 10 v' (k + 1) (objs.flatMap Ob.cells ++ O.cells)) (hg8 : (W.alloc (.cells O.cells.toArray 60)).grownBy w8 v.ownBlock) : BegS w b (w8.setCell ⟨b + 1, 0, none⟩ v').heap.size (k + 1) (objs ++ [O]) v' vn (w8.setCell ⟨b + 1, 0, none⟩ v') := by
  have hal := (Below.refl W.heap.size W).alloc (Nat.le_refl _) (.cells O.cells.toArray 60)
  have hN := h.n.lt
  have hA : (W.alloc (.cells O.cells.toArray 60)).heap.size = W.heap.size + 1 := by simp
  have ho7 := own_below h.own hal
  have hlv : ∀ g, v.ownBlock = some g → b + 3 ≤ g := fun g e => (ho7.lt g e).1
  have hT1 : Blk w8 (b + 1) 56 #[v] := (h.t1.belowS hal).grown hg8 (fun e => by have := hlv _ e.symm; omega)
  have OK8 : ∀ (m : Nat) (o : Ob), o.ok W m → o.ok (w8.setCell ⟨b + 1, 0, none⟩ v') m := fun m o ho => ((ho.below hal).grown ho7 (by decide) hg8).far (p := ⟨b + 1, 0, none⟩) hT1 (by decide) _
  have hnam : w8.ownsRow (b + 3) 9 1 vn (k + 1) (strs (clsL.take (k + 1))) := own_grown (own_below h.nam hal) hg8 (own_sep (own_below h.nam hal) ho7 (by decide))
  have hsz8 : (w8.setCell ⟨b + 1, 0, none⟩ v').heap.size = w8.heap.size := by simp [World.setCell]
  have hown9 : (w8.setCell ⟨b + 1, 0, none⟩ v').ownsRow (b + 3) 60 10 v' (k + 1) ((objs ++ [O]).flatMap Ob.cells) := by
    rw [List.flatMap_append, List.flatMap_singleton]
    exact own_far (p := ⟨b + 1, 0, none⟩) hown8 (fun g e => by have := hown8.lt g e; simp; omega) v'
  have hnam9 : (w8.setCell ⟨b + 1, 0, none⟩ v').ownsRow (b + 3) 9 1 vn (k + 1) (strs (clsL.take (k + 1))) := own_far (p := ⟨b + 1, 0, none⟩) hnam (fun g e => by have := hnam.lt g e; simp; omega) v'
  have HOK : Hid (∀ (j : Nat) (o : Ob), (objs ++ [O])[j]? = some o → o.ok (w8.setCell ⟨b + 1, 0, none⟩ v') (j + 1)) := Lib.hid fun j o hj => by
    rcases Nat.lt_or_ge j objs.length with hj' | hj'
    · rw [List.getElem?_append_left hj'] at hj
      exact OK8 _ _ (h.ok.out j o hj)
    · rw [List.getElem?_append_right hj'] at hj
      have hj0 : j - objs.length = 0 := by
        rcases Nat.eq_zero_or_pos (j - objs.length) with h0 | h0
        · exact h0
        · rw [List.getElem?_eq_none (by simp; omega)] at hj; cases hj
      rw [hj0] at hj
      obtain rfl : O = o := by simpa using hj
      have : j = k := by omega
      subst this
      exact OK8 _ _ h.okO
  have hn9 : Blk (w8.setCell ⟨b + 1, 0, none⟩ v') (b + 2) 9 (strs treL).toArray := ((h.n.belowS hal).grown hg8 (fun e => by have := hlv _ e.symm; omega)).far (p := ⟨b + 1, 0, none⟩) (by simp) _
  have hN9 := hn9.lt
  refine ⟨HOK, hown9, hnam9, ((h.t0.belowS hal).grown hg8 (fun e => by have := hlv _ e.symm; omega)).far (p := ⟨b + 1, 0, none⟩) (by simp) _, hT1.set_ 0 v', hn9, ?_, fun g e => hown9.lt g e, fun g e => hnam9.lt g e, ?_, by omega, Nat.le_refl _⟩
  · exact ((below_then h.bel hal (by omega)).grown hg8 (by omega) (fun g e => by have := hlv _ e; omega)).setCell (p := ⟨b + 1, 0, none⟩) (by simp) v'
  · exact Lib.hid fun j o hj => by
      obtain ⟨_, _, _, cs, h4, _⟩ := HOK.out j o hj
      exact h4.lt
end
end Go.Proofs.YtfpmnkokmlghmaaDoor
