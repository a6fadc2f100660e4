/- Contracts of Go library functions over this dump, as the kit's command for the shelf lays them in plain words. Nothing is claimed here. -/
import Derived.WalkLawsBesides
import Derived.OneCell
import Derived.Maps.OwnSet
import Derived.Maps.OwnOps
import Derived.Test.YtonehlkiackhcaaGreatDoorTokF
import Derived.Test.YtonehlkiackhcaaGreatDoorLitC
import Derived.Test.YtonehlkiackhcaaGreatDoorQTail
import Derived.Test.YtonehlkiackhcaaGreatDoorLitD
import Derived.Shelf.Strconv.Itoa3
import Derived.Test.YtonehlkiackhcaaGreatDoorProg
import Derived.Shelf.Strings.Count
set_option linter.unusedVariables false
set_option maxRecDepth 100000
set_option maxHeartbeats 16000000
namespace Go.Proofs.YtonehlkiackhcaaGreatDoor
open Go.RowKit Go.Shelf Go.Lib Go.Maps
theorem law : Keyed Tryz.prog 9:=string_keyed Tryz.underlying9
theorem zeroInt (w : World) : (zeroValue 3).run Tryz.prog w = .ok (.int .i64 0) w:=by kernel_rfl
theorem info_int : (Tryz.prog.info? 3).map (fun i => (i.zero,i.size,i.bytes)) = some (some (.int .i64 0),1,8):=by kernel_rfl
theorem info_byte : (Tryz.prog.info? 5).map (fun i => (i.zero,i.size,i.bytes)) = some (some (.int .u8 0),1,1):=by kernel_rfl
theorem info_tok : (Tryz.prog.info? 130).map (fun i => (i.zero,i.size,i.bytes)) = some (some (.agg #[.int .i64 0,.string ByteArray.empty,.int .i64 0,.int .i64 0]),4,40):=by kernel_rfl
def intc (l : List Nat) : List Value:=l.map fun (n : Nat) => Value.int .i64 (n : Int)
def bytc (l : List UInt8) : List Value:=l.map fun (c : UInt8) => Value.int .u8 (c.toNat : Int)
def tokc (t : Tok) : List Value:=[.int .i64 t.kind,.string ⟨t.text.toArray⟩,.int .i64 t.line,.int .i64 t.col]
def strs (l : List (List UInt8)) : List Value:=l.map (fun s => Value.string ⟨s.toArray⟩)
def wordsF : List (List UInt8) → Nat → DataW Unit → DataW Unit
 | [],_,D => D
 | x :: l,k,D => wordsF l (k + 1) (D.put (.string x) (.lit (.int .i64 (k : Int))))
def wordsD : DataW Unit:=wordsF kws 0 (.map [])
def scCells (l : List UInt8) (at_ : Nat) (vi vo vt : Value) (m : Nat) (vs : Value) : Array Value :=
 #[.string ⟨l.toArray⟩,.int .i64 (at_ : Int),.int .i64 (lineAt l at_),.int .i64 ((bol l at_ : Nat) : Int),vi,vo,vt,.map (some m),vs]
structure ScR (w : World) (B g : Nat) (cs : Array Value) (ind : List Nat) (op : List UInt8) (ts : List Tok) (vi vo vt : Value) (m : Nat) (vs : Value) : Prop where
 blk : Blk w g 180 cs
 ge : B ≤ g
 oi : w.ownsRow B 3 1 vi ind.length (intc ind.reverse)
 oo : w.ownsRow B 5 1 vo op.length (bytc op.reverse)
 ot : w.ownsRow B 130 4 vt ts.length (ts.flatMap tokc)
 om : w.ownsMap Tryz.prog 9 (plainElem Tryz.prog 3) m 38 wordsD
 os : w.ownsRow B 9 1 vs 43 (strs sgs)
def Sc (w : World) (B g : Nat) (l : List UInt8) (at_ : Nat) (ind : List Nat) (op : List UInt8) (ts : List Tok) (vi vo vt : Value) (m : Nat) (vs : Value) : Prop :=
 ScR w B g (scCells l at_ vi vo vt m vs) ind op ts vi vo vt m vs
theorem row_kind {w : World} {B : Nat} {e : TypeId} {size : Nat} {v : Value} {n : Nat} {xs : List Value} (h : w.ownsRow B e size v n xs) : ∀ g,v.ownBlock = some g → ∃ c fz,w.heap[g]? = some (.cells c e fz):=by
 intro g hg;rcases h.2 with ⟨rfl,_⟩ | ⟨g',cap,cur,rfl,_,hgg,_⟩
 ·simp [Value.ownBlock] at hg
 ·simp [Value.ownBlock] at hg;subst hg;exact ⟨cur,(0,0),hgg⟩
theorem rows_ne {w : World} {B1 B2 : Nat} {e1 e2 : TypeId} {s1 s2 : Nat} {v1 v2 : Value} {n1 n2 : Nat} {xs1 xs2 : List Value} (h1 : w.ownsRow B1 e1 s1 v1 n1 xs1) (h2 : w.ownsRow B2 e2 s2 v2 n2 xs2) (hne : e1 ≠ e2) : v1.ownBlock = none ∨ v1.ownBlock ≠ v2.ownBlock:=by
 cases hv : v1.ownBlock with
 | none => exact .inl rfl
 | some g =>
  refine .inr fun e => ?_;obtain ⟨c,fz,hc⟩:=row_kind h1 g hv;obtain ⟨c',fz',hc'⟩:=row_kind h2 g e.symm;rw [hc] at hc';injection hc' with hc';injection hc' with _ h3;exact hne h3
theorem map_row_ne {w : World} {B : Nat} {e : TypeId} {s : Nat} {v : Value} {n k m : Nat} {xs : List Value} {kt : TypeId} {R : Value → Option (DataW Unit × List MemPlace)} {D : DataW Unit} (h : w.ownsMap Tryz.prog kt R m k D) (h2 : w.ownsRow B e s v n xs) : some m ≠ v.ownBlock:=by
 intro hv;obtain ⟨es,clock,hb,_⟩:=h;obtain ⟨c,fz,hc⟩:=row_kind h2 m hv.symm;rw [hb] at hc;simp at hc
theorem map_blk_ne {w : World} {g t k m : Nat} {cs : Array Value} {kt : TypeId} {R : Value → Option (DataW Unit × List MemPlace)} {D : DataW Unit} (h : w.ownsMap Tryz.prog kt R m k D) (h2 : Blk w g t cs) : m ≠ g:=by
 rintro rfl;obtain ⟨es,clock,hb,_⟩:=h;unfold Blk at h2;rw [hb] at h2;simp at h2
section
variable {w w' : World} {B g : Nat} {cs : Array Value} {l : List UInt8} {at_ : Nat} {ind : List Nat} {op : List UInt8} {ts : List Tok} {vi vo vt : Value} {m : Nat} {vs : Value}
theorem below_grown (hb : Below w.heap.size w w') : w.grownBy w' none:=⟨hb.os,hb.tape,hb.output,hb.size,fun i hi _ => hb.block i hi⟩
theorem ScR.belowS (h : ScR w B g cs ind op ts vi vo vt m vs) (hb : Below w.heap.size w w') : ScR w' B g cs ind op ts vi vo vt m vs :=
 ⟨h.blk.belowS hb,h.ge,own_belowS h.oi hb,own_belowS h.oo hb,own_belowS h.ot hb,h.om.kept (below_grown hb) (by simp),own_belowS h.os hb⟩
theorem Sc.belowS (h : Sc w B g l at_ ind op ts vi vo vt m vs) (hb : Below w.heap.size w w') : Sc w' B g l at_ ind op ts vi vo vt m vs:=ScR.belowS h hb
theorem ScR.drewN (h : ScR w B g cs ind op ts vi vo vt m vs) (n : Nat) : ScR (w.drewN n) B g cs ind op ts vi vo vt m vs:=h.belowS (below_drewN (Below.refl _ _) n)
theorem ScR.alloc (h : ScR w B g cs ind op ts vi vo vt m vs) (o : Obj) : ScR (w.alloc o) B g cs ind op ts vi vo vt m vs:=h.belowS ((Below.refl _ _).alloc (Nat.le_refl _) _)
theorem ScR.set (h : ScR w B g cs ind op ts vi vo vt m vs) (i : Nat) (u : Value) : ScR (w.setCell ⟨g,i,none⟩ u) B g (cs.setIfInBounds i u) ind op ts vi vo vt m vs :=
 ⟨h.blk.set_ i u,h.ge,ownsRow_setCell_other h.oi (own_blk_ne h.oi h.blk (by decide)) u,ownsRow_setCell_other h.oo (own_blk_ne h.oo h.blk (by decide)) u,ownsRow_setCell_other h.ot (own_blk_ne h.ot h.blk (by decide)) u,
  h.om.setCell (a:=⟨g,i,none⟩) (map_blk_ne h.om h.blk) u,ownsRow_setCell_other h.os (own_blk_ne h.os h.blk (by decide)) u⟩
theorem ScR.growT (h : ScR w B g cs ind op ts vi vo vt m vs) {vt' : Value} {ts' : List Tok} (hg : w.grownBy w' vt.ownBlock) (ho : w'.ownsRow B 130 4 vt' ts'.length (ts'.flatMap tokc)) : ScR w' B g cs ind op ts' vi vo vt' m vs :=
 ⟨h.blk.grown hg (fun e => own_blk_ne h.ot h.blk (by decide) e.symm),h.ge,h.oi.kept hg (rows_ne h.oi h.ot (by decide)),h.oo.kept hg (rows_ne h.oo h.ot (by decide)),ho,h.om.kept hg (map_row_ne h.om h.ot),h.os.kept hg (rows_ne h.os h.ot (by decide))⟩
theorem ScR.growI (h : ScR w B g cs ind op ts vi vo vt m vs) {vi' : Value} {ind' : List Nat} (hg : w.grownBy w' vi.ownBlock) (ho : w'.ownsRow B 3 1 vi' ind'.length (intc ind'.reverse)) : ScR w' B g cs ind' op ts vi' vo vt m vs :=
 ⟨h.blk.grown hg (fun e => own_blk_ne h.oi h.blk (by decide) e.symm),h.ge,ho,h.oo.kept hg (rows_ne h.oo h.oi (by decide)),h.ot.kept hg (rows_ne h.ot h.oi (by decide)),h.om.kept hg (map_row_ne h.om h.oi),h.os.kept hg (rows_ne h.os h.oi (by decide))⟩
theorem ScR.growO (h : ScR w B g cs ind op ts vi vo vt m vs) {vo' : Value} {op' : List UInt8} (hg : w.grownBy w' vo.ownBlock) (ho : w'.ownsRow B 5 1 vo' op'.length (bytc op'.reverse)) : ScR w' B g cs ind op' ts vi vo' vt m vs :=
 ⟨h.blk.grown hg (fun e => own_blk_ne h.oo h.blk (by decide) e.symm),h.ge,h.oi.kept hg (rows_ne h.oi h.oo (by decide)),ho,h.ot.kept hg (rows_ne h.ot h.oo (by decide)),h.om.kept hg (map_row_ne h.om h.oo),h.os.kept hg (rows_ne h.os h.oo (by decide))⟩
end
def probV (c i : Int) : Value:=.iface 181 (.agg #[.int .i64 c,.int .i64 i])
end Go.Proofs.YtonehlkiackhcaaGreatDoor

namespace Go.Proofs.YtonehlkiackhcaaGreatDoor
open Go.RowKit Go.Shelf Go.Lib Go.Maps
theorem fail_any (p : Value) (c i : Int) (w : World) : Calls Tryz.prog 148 #[p,.int .i64 c,.int .i64 i] w fun e w' => e = .panicked [{ v:=probV c i,recovered:=false }] ∧ w = w':=by
 go_enter Tryz.func148,Tryz.ntmps148;go_wp2;exact ⟨rfl,rfl,rfl⟩
theorem isLet_n (c : UInt8) : isLet c = decide ((97 ≤ (c.toNat : Int) ∧ (c.toNat : Int) ≤ 122) ∨ (65 ≤ (c.toNat : Int) ∧ (c.toNat : Int) ≤ 90) ∨ (c.toNat : Int) = 95):=by
 rw [Bool.eq_iff_iff];unfold isLet;simp only [Bool.or_eq_true,Bool.and_eq_true,decide_eq_true_eq,beq_iff_eq,UInt8.le_iff_toNat_le,← UInt8.toNat_inj];simp;omega
theorem isDig_n (c : UInt8) : isDig c = decide (48 ≤ (c.toNat : Int) ∧ (c.toNat : Int) ≤ 57):=by
 rw [Bool.eq_iff_iff];unfold isDig;simp only [Bool.and_eq_true,decide_eq_true_eq,UInt8.le_iff_toNat_le];simp;omega
theorem isBin_n (c : UInt8) : isBin c = decide ((c.toNat : Int) = 48 ∨ (c.toNat : Int) = 49):=by
 rw [Bool.eq_iff_iff];unfold isBin;simp only [Bool.or_eq_true,decide_eq_true_eq,beq_iff_eq,← UInt8.toNat_inj];simp;omega
theorem isHex_n (c : UInt8) : isHex c = decide ((48 ≤ (c.toNat : Int) ∧ (c.toNat : Int) ≤ 57) ∨ (97 ≤ (c.toNat : Int) ∧ (c.toNat : Int) ≤ 102)):=by
 rw [Bool.eq_iff_iff];unfold isHex;rw [Bool.or_eq_true,isDig_n];simp only [Bool.and_eq_true,decide_eq_true_eq,UInt8.le_iff_toNat_le];simp;omega
theorem inLn_n (c : UInt8) : inLn c = ((c.toNat : Int) != 10):=by
 rw [Bool.eq_iff_iff];unfold inLn;rw [bne_iff_ne,bne_iff_ne,ne_eq,ne_eq,← UInt8.toNat_inj];simp;omega
theorem letter_any (c : UInt8) (w : World) : Calls Tryz.prog 153 #[.int .u8 (c.toNat : Int)] w fun e w' => e = .returned (.bool (isLet c)) ∧ w = w':=by
 have HE:=Lib.hid (isLet_n c);generalize isLet c = r at *
 generalize (c.toNat : Int) = n at *
 go_enter Tryz.func153,Tryz.ntmps153;go_wp2
 all_goals
  go_ret;refine ⟨ret_bool ?_,rfl⟩;rw [HE.out,Bool.eq_iff_iff];simp only [Bool.or_eq_true,Bool.and_eq_true,decide_eq_true_eq,beq_iff_eq,true_iff] <;> first | omega | (simp <;> omega)
theorem digit_any (c : UInt8) (w : World) : Calls Tryz.prog 155 #[.int .u8 (c.toNat : Int)] w fun e w' => e = .returned (.bool (isDig c)) ∧ w = w':=by
 have HE:=Lib.hid (isDig_n c);generalize isDig c = r at *
 generalize (c.toNat : Int) = n at *
 go_enter Tryz.func155,Tryz.ntmps155;go_wp2
 all_goals
  go_ret;refine ⟨ret_bool ?_,rfl⟩;rw [HE.out,Bool.eq_iff_iff];simp only [Bool.or_eq_true,Bool.and_eq_true,decide_eq_true_eq,beq_iff_eq,true_iff] <;> first | omega | (simp <;> omega)
theorem number1_any (c : UInt8) (w : World) : Calls Tryz.prog 189 #[.int .u8 (c.toNat : Int)] w fun e w' => e = .returned (.bool (isBin c)) ∧ w = w':=by
 have HE:=Lib.hid (isBin_n c);generalize isBin c = r at *
 generalize (c.toNat : Int) = n at *
 go_enter Tryz.func189,Tryz.ntmps189;go_wp2
 all_goals
  go_ret;refine ⟨ret_bool ?_,rfl⟩;rw [HE.out,Bool.eq_iff_iff];simp only [Bool.or_eq_true,Bool.and_eq_true,decide_eq_true_eq,beq_iff_eq,true_iff] <;> first | omega | (simp <;> omega)
theorem inLine_any (p : Value) (c : UInt8) (w : World) : Calls Tryz.prog 185 #[p,.int .u8 (c.toNat : Int)] w fun e w' => e = .returned (.bool (inLn c)) ∧ w = w':=by
 have HE:=Lib.hid (inLn_n c);generalize inLn c = r at *
 generalize (c.toNat : Int) = n at *
 go_enter Tryz.func185,Tryz.ntmps185;go_wp2;go_ret;exact ⟨ret_bool HE.out.symm,rfl⟩
theorem name1_any (c : UInt8) (w : World) : Calls Tryz.prog 188 #[.int .u8 (c.toNat : Int)] w fun e w' => e = .returned (.bool (isWrd c)) ∧ w = w':=by
 have HE:=Lib.hid (show isWrd c = (isLet c || isDig c) from rfl);have h1:=letter_any c;have h2:=digit_any c;have H1:=Lib.hid h1;have H2:=Lib.hid h2;clear h1 h2;generalize isWrd c = r at *
 generalize isLet c = r1 at *
 generalize isDig c = r2 at *
 generalize (c.toNat : Int) = n at *
 go_enter Tryz.func188,Tryz.ntmps188;go_wp2_with fail;refine (H1.out _).mono ?_;rintro e w1 ⟨rfl,rfl⟩;cases r1
 ·go_wp2_with fail;refine (H2.out _).mono ?_;rintro e w1 ⟨rfl,rfl⟩;go_wp2_with fail;go_ret;exact ⟨ret_bool (by rw [HE.out,Bool.false_or]),rfl⟩
 ·go_wp2_with fail;go_ret;exact ⟨ret_bool (by rw [HE.out,Bool.true_or]),rfl⟩
theorem number2_any (c : UInt8) (w : World) : Calls Tryz.prog 190 #[.int .u8 (c.toNat : Int)] w fun e w' => e = .returned (.bool (isHex c)) ∧ w = w':=by
 have HE:=Lib.hid (isHex_n c);have HD:=Lib.hid (isDig_n c);have h2:=digit_any c;have H2:=Lib.hid h2;clear h2;generalize isHex c = r at *
 generalize isDig c = r2 at *
 generalize (c.toNat : Int) = n at *
 go_enter Tryz.func190,Tryz.ntmps190;go_wp2_with fail;refine (H2.out _).mono ?_;rintro e w1 ⟨rfl,rfl⟩;cases r2
 ·have hd:=HD.out;have hd' : ¬ (48 ≤ n ∧ n ≤ 57):=of_decide_eq_false hd.symm;have HDD:=Lib.hid hd';clear hd hd';go_wp2_with fail
  all_goals
   go_ret;refine ⟨ret_bool ?_,rfl⟩;have hd:=HDD.out;rw [HE.out,Bool.eq_iff_iff];simp only [Bool.or_eq_true,Bool.and_eq_true,decide_eq_true_eq,beq_iff_eq,true_iff] <;> first | omega | (simp <;> omega)
 ·have hd:=HD.out;have hd' : (48 ≤ n ∧ n ≤ 57):=of_decide_eq_true hd.symm;have HDD:=Lib.hid hd';clear hd hd';go_wp2_with fail;go_ret;refine ⟨ret_bool ?_,rfl⟩;have hd:=HDD.out;rw [HE.out,decide_eq_true (by omega)]
theorem run_idx (l : List UInt8) (k : Nat) (h : k < l.length) (x : Int) (hx : x = (k : Int)) (W : World) : (Instr.index 9 (.string ⟨l.toArray⟩) (.int .i64 x)).run Tryz.prog W = .ok (.int .u8 ((at0 l k).toNat : Int)) W:=by
 subst hx;rw [run_index_string W 9 ⟨l.toArray⟩ .i64 _ Tryz.underlying9,dif_pos ⟨by omega,by simpa [ByteArray.size] using h⟩,at0_lt l k h];rfl
theorem run_sub (l : List UInt8) (i j : Nat) (h1 : i ≤ j) (h2 : j ≤ l.length) (x y : Int) (hx : x = (i : Int)) (hy : y = (j : Int)) (W : World) :
  (Instr.slice 9 (.string ⟨l.toArray⟩) (some (.int .i64 x)) (some (.int .i64 y)) none).run Tryz.prog W = .ok (.string ⟨((l.drop i).take (j - i)).toArray⟩) W:=by
 subst hx hy;rw [run_slice_string W 9 ⟨l.toArray⟩ .i64 .i64 _ _ Tryz.underlying9 (by omega) (by omega) (by simp [ByteArray.size]; omega),Int.toNat_natCast,Int.toNat_natCast,extract_sub]
theorem run_tail (l : List UInt8) (i : Nat) (h2 : i ≤ l.length) (x : Int) (hx : x = (i : Int)) (W : World) :
  (Instr.slice 9 (.string ⟨l.toArray⟩) (some (.int .i64 x)) none none).run Tryz.prog W = .ok (.string ⟨(l.drop i).toArray⟩) W:=by
 subst hx;rw [run_slice_string_from_if W 9 ⟨l.toArray⟩ .i64 _ Tryz.underlying9,if_pos ⟨by omega,by simp [ByteArray.size]; omega⟩,Int.toNat_natCast,extract_from _ _ _ (by simp [ByteArray.size])]
theorem peek_any {w : World} {B g : Nat} {l : List UInt8} {at_ : Nat} {ind : List Nat} {op : List UInt8} {ts : List Tok} {vi vo vt : Value} {m : Nat} {vs : Value} (h : Sc w B g l at_ ind op ts vi vo vt m vs) (n : Nat) (hl : l.length ≤ 16000) (ha : at_ ≤ l.length) (hn : n ≤ 2) :
  Calls Tryz.prog 147 #[.pointer (some ⟨g,0,none⟩),.int .i64 (n : Int)] w fun e w' => e = .returned (.int .u8 ((at0 l (at_ + n)).toNat : Int)) ∧ ∃ k,w' = w.drewN k:=by
 obtain ⟨q1,q2,q3⟩:=h.blk.rules;unfold scCells at q1;have e1 : IntKind.i64.wrap ((at_ : Int) + (n : Int)) = (at_ : Int) + (n : Int):=IntWalk.i64_in _ (by omega)
 by_cases hlt : at_ + n < l.length
 ·have d2 : decide ((at_ : Int) + (n : Int) < (l.length : Int)) = true:=decide_eq_true (by omega);have hix:=run_idx l (at_ + n) hlt ((at_ : Int) + (n : Int)) (by omega);clear h;go_enter Tryz.func147,Tryz.ntmps147;go_wp2_with fail;go_quiet (fail);go_wp2_with fail;go_quiet (fail);go_wp2_with fail;go_ret;exact ⟨rfl,_,World.drewN_drewN _ _ _⟩
 ·have hb:=at0_ge l (at_ + n) (by omega);have HB:=Lib.hid hb;have d2 : decide ((at_ : Int) + (n : Int) < (l.length : Int)) = false:=decide_eq_false (by omega);clear hb h;go_enter Tryz.func147,Tryz.ntmps147;go_wp2_with fail;go_quiet (fail);go_wp2_with fail;go_ret;exact ⟨by rw [HB.out]; rfl,_,rfl⟩
end Go.Proofs.YtonehlkiackhcaaGreatDoor

namespace Go.Proofs.YtonehlkiackhcaaGreatDoor
open Go.RowKit Go.Lib
def rdC (l : List UInt8) (i : Nat) (x : Sht) : Array Value:=#[.string ⟨l.toArray⟩,.int .i64 (i : Int),.int .i64 (x.lim : Int),.int .u8 (x.pre.toNat : Int),.int .u8 (x.quo.toNat : Int)]
def probL (c i : Int) : Value:=.iface 125 (.agg #[.int .i64 c,.int .i64 i])
theorem lfault_any (c i : Int) (w : World) : Calls Tryz.prog 20 #[.int .i64 c,.int .i64 i] w fun e w' => e = .returned (.agg #[.int .i64 c,.int .i64 i]) ∧ Below w.heap.size w w':=by
 go_enter Tryz.func20,Tryz.ntmps20;go_wp2_with fail;exact ret_blk rfl rfl (Blk.new w 29 #[.int .i64 c,.int .i64 i]) _ Tryz.underlying29 rfl (by kernel_rfl) rfl ⟨rfl,(Below.refl _ _).alloc (Nat.le_refl _) _⟩
theorem lfail_any (p : Value) (i : Int) (w : World) : Calls Tryz.prog 59 #[p,.int .i64 i] w fun e w' => e = .panicked [{ v:=probL 1 i,recovered:=false }] ∧ Below w.heap.size w w':=by
 go_enter Tryz.func59,Tryz.ntmps59;go_wp2_with fail;refine (lfault_any 1 i w).mono ?_;rintro e w1 ⟨rfl,hb⟩;go_wp2_with fail;exact ⟨rfl,rfl,hb⟩
end Go.Proofs.YtonehlkiackhcaaGreatDoor

namespace Go.Proofs.YtonehlkiackhcaaGreatDoor
open Go.RowKit Go.Lib
def lg (n : Nat) : List Nat:=dig 4294967296 n
theorem lg_lt (n : Nat) : ∀ x ∈ lg n,x < 4294967296:=dig_lt (by decide) n
theorem lg_nil {n : Nat} : lg n = [] ↔ n = 0:=dig_nil (by decide)
theorem lg_len0 {n : Nat} : (lg n).length = 0 ↔ n = 0:=by rw [List.length_eq_zero_iff,lg_nil]
theorem quo_any {w : World} (n d : Nat) (A : Option Addr) (c : Nat) (hlen : (lg n).length ≤ 10000) (hd0 : 0 < d) (hd : d < 4294967296) (hr : Row w A (u32s (lg n))) :
  Calls Tryz.prog 71 #[.slice A (lg n).length c,.int .u32 (d : Int)] w fun e w' => (∃ A' c',e = .returned (.tuple #[.slice A' (lg (n / d)).length c',.int .u32 ((n % d : Nat) : Int)]) ∧ Row w' A' (u32s (lg (n / d)))) ∧ Below w.heap.size w w':=by
 have h:=divide_any (lg n) A c d (lg_lt n) hlen hd0 hd hr;obtain ⟨h1,h2⟩:=divGo_dig (B:=4294967296) (by decide) hd0 n;unfold lg at h ⊢;rw [h1,h2] at h;exact h
theorem prod_any {w : World} (n m x : Nat) (A : Option Addr) (c : Nat) (hlen : (lg n).length ≤ 10000) (hm0 : 0 < m) (hm : m < 4294967296) (hx : x < 4294967296) (hr : Row w A (u32s (lg n))) :
  Calls Tryz.prog 76 #[.slice A (lg n).length c,.int .u32 (m : Int),.int .u32 (x : Int)] w fun e w' => (∃ A' c',e = .returned (.slice A' (lg (n * m + x)).length c') ∧ Row w' A' (u32s (lg (n * m + x)))) ∧ Below w.heap.size w w':=by
 have h:=times_any (lg n) A c m x (lg_lt n) hlen hm hx hr;have h1:=mulGo_dig (B:=4294967296) (by decide) hm hm0 n x hx;unfold lg at h ⊢;rw [h1] at h;exact h
theorem lg_mono {a b : Nat} (h : a ≤ b) : (lg a).length ≤ (lg b).length:=by
 refine dig_len (by decide) _ _ ?_;have h1:=V_lt (B:=4294967296) (by decide) (lg b) (lg_lt b);have h2 : V 4294967296 (lg b) = b:=V_dig (by decide) b;omega
def wellV (l : List Nat) : Bool:=decide (l.length ≤ 128) && (decide (l = []) || decide (l.getLast? ≠ some 0))
theorem well_any {w : World} (l : List Nat) (A : Option Addr) (c : Nat) (hl : l.length ≤ 9223372036854775807) (hr : Row w A (u32s l)) :
  Calls Tryz.prog 68 #[.slice A l.length c] w fun e w' => e = .returned (.bool (wellV l)) ∧ Below w.heap.size w w':=by
 rcases List.eq_nil_or_concat l with rfl | ⟨a,x,hax⟩
 ·go_enter Tryz.func68,Tryz.ntmps68;go_wp2_with fail;go_ret;exact ⟨rfl,Below.refl _ _⟩
 ·rw [List.concat_eq_append] at hax;subst hax;obtain ⟨b,off,rfl,hc⟩:=row_u32 hr (j:=a.length) (by simp);have hx : (a ++ [x])[a.length]'(by simp) = x:=(by simp);rw [hx] at hc;have HW:=Lib.hid (show wellV (a ++ [x]) = (decide (a.length + 1 ≤ 128) && decide (x ≠ 0)) from by unfold wellV; simp);have hlen : (a ++ [x]).length = a.length + 1:=(by simp);rw [hlen] at hl ⊢;have hz : ((a.length : Int) + 1 == 0) = false:=(by rw [beq_eq_false_iff_ne]; omega);clear hr hx hlen
  by_cases h1 : a.length + 1 ≤ 128
  ·by_cases h2 : x = 0
   ·subst h2;go_enter Tryz.func68,Tryz.ntmps68;go_wp2_with fail;go_ret;exact ⟨ret_bool (by rw [HW.out]; simp),Below.refl _ _⟩
   ·have h2b : ((x : Int) == 0) = false:=(by rw [beq_eq_false_iff_ne]; omega);have h2c : ((x : Int) != 0) = true:=(by rw [bne,h2b]; rfl);have H2:=Lib.hid h2;clear h2;go_enter Tryz.func68,Tryz.ntmps68;go_wp2_with fail;go_ret;exact ⟨ret_bool (by rw [HW.out,decide_eq_true h1,decide_eq_true H2.out]; rfl),Below.refl _ _⟩
  ·go_enter Tryz.func68,Tryz.ntmps68;go_wp2_with fail;go_ret;exact ⟨ret_bool (by rw [HW.out]; simp; omega),Below.refl _ _⟩
theorem factor_any {w : World} (n p : Nat) (A : Option Addr) (c : Nat) (hlen : (lg n).length ≤ 10000) (K : Nat) (hn : n < 2 ^ K) (hK : K ≤ 1000000) (hp : 2 ≤ p) (hp2 : p < 4294967296) (hr : Row w A (u32s (lg n))) :
  Calls Tryz.prog 75 #[.slice A (lg n).length c,.int .u32 (p : Int)] w fun e w' => (∃ (k m : Nat) (A' : Option Addr) (c' : Nat),n = m * p ^ k ∧ (m % p ≠ 0 ∨ m = 0) ∧ (n = 0 → k = 0) ∧ k ≤ K ∧ e = .returned (.tuple #[.int .i64 (k : Int),.slice A' (lg m).length c']) ∧ Row w' A' (u32s (lg m))) ∧ Below w.heap.size w w':=by
 have hkb : ∀ k m : Nat,n = m * p ^ k → m ≠ 0 → k < K:=by
  intro k m h1 h2;have h3 : 2 ^ k ≤ p ^ k:=Nat.pow_le_pow_left hp k;have h4 : p ^ k ≤ m * p ^ k:=Nat.le_mul_of_pos_left _ (by omega);have h5 : 2 ^ k < 2 ^ K:=(by omega);exact (Nat.pow_lt_pow_iff_right (by decide)).1 h5
 have HKB:=Lib.hid hkb;clear hkb hn;go_enter Tryz.func75,Tryz.ntmps75;go_wp2_with fail
 go_loopw [0,6,7,8] (fun d i _ _ wr => ∃ (k m : Nat) (A' : Option Addr) (c' : Nat),d = .slice A' (lg m).length c' ∧ i = .int .i64 (k : Int) ∧ n = m * p ^ k ∧ (n = 0 → k = 0) ∧ k ≤ K ∧ Row wr A' (u32s (lg m)) ∧ Below w.heap.size w wr) (fun _ i _ _ _ => K - (RowKit.intOf i).toNat)
 case atStart => exact ⟨0,n,A,c,rfl,rfl,by simp,fun _ => rfl,Nat.zero_le _,hr,Below.refl _ _⟩
 case round =>
  obtain ⟨k,m,A',c',rfl,rfl,hnm,hn0,hkK,hrm,hbr⟩:=hrel;have HNM:=Lib.hid hnm;have HN0:=Lib.hid hn0;have hml : (lg m).length ≤ 10000:=by
   refine Nat.le_trans (lg_mono ?_) hlen;rw [hnm];exact Nat.le_mul_of_pos_right _ (Nat.pos_of_ne_zero (by intro h; rw [Nat.pow_eq_zero] at h; omega))
  clear hnm hn0 hr;go_wp2_with fail;refine (quo_any m p A' c' hml (by omega) hp2 hrm).mono ?_;rintro e w2 ⟨⟨A2,c2,rfl,hr2⟩,hbb⟩;have hrm2:=hrm.keepB hbb;have hb2:=below_then hbr hbb hbr.size;clear hrm hbb hbr
  by_cases hr0 : m % p = 0
  ·rw [hr0]
   by_cases hm0 : m = 0
   ·have hl0 : (lg m).length = 0:=lg_len0.2 hm0;have hc0 : ((lg m).length : Int) = 0:=(by omega);have HM:=Lib.hid hm0;clear hm0 hl0;go_wp2_with fail;go_ret2;exact ⟨⟨k,m,A',c',HNM.out,.inr HM.out,HN0.out,hkK,rfl,hrm2⟩,hb2⟩
   ·have hl0 : ((lg m).length : Int) ≠ 0:=by
     have : (lg m).length ≠ 0:=fun h => hm0 (lg_len0.1 h);omega
    have HM:=Lib.hid hm0;have hkl : k < K:=HKB.out k m HNM.out hm0;have HR:=Lib.hid hr0;clear hm0 hr0;go_wp2_with fail;go_roundw
    case rel =>
     refine ⟨k + 1,m / p,A2,c2,rfl,by go_num,?_,fun h => ?_,hkl,hr2,hb2⟩
     ·rw [HNM.out,Nat.pow_succ];have h1 : m / p * p = m:=Nat.div_mul_cancel (Nat.dvd_of_mod_eq_zero HR.out);rw [← Nat.mul_assoc,Nat.mul_right_comm,h1]
     ·have h1:=HNM.out;rw [h] at h1;have h2 : p ^ k ≠ 0:=(by intro h3; rw [Nat.pow_eq_zero] at h3; omega);rcases Nat.mul_eq_zero.1 h1.symm with h3 | h3
      ·exact absurd h3 HM.out
      ·exact absurd h3 h2
    case measure => simp [RowKit.intOf]; omega
  ·have hrb : (((m % p : Nat) : Int) == 0) = false:=(by rw [beq_eq_false_iff_ne]; omega);have HR:=Lib.hid hr0;obtain ⟨q,hq⟩ : ∃ q,m % p = q:=⟨_,rfl⟩;rw [hq] at hrb ⊢;clear hr0 hq;go_wp2_with fail;go_ret2;exact ⟨⟨k,m,A',c',HNM.out,.inl HR.out,HN0.out,hkK,rfl,hrm2⟩,hb2⟩
end Go.Proofs.YtonehlkiackhcaaGreatDoor

namespace Go.Proofs
open Go.Shelf
def Tryz.laysI_ren : Go.Shelf.Ren:=⟨fun | 129 => 210 | 171 => 72 | 243 => 103 | 246 => 137 | 283 => 175 | 284 => 176 | 285 => 177 | 286 => 178 | 317 => 209 | 318 => 211 | 319 => 212 | 320 => 213 | 337 => 232 | 338 => 233 | n => n,fun | 0 => 0 | 2 => 2 | 3 => 3 | 4 => 4 | 5 => 5 | 9 => 9 | 20 => 20 | 37 => 71 | 46 => 121 | 51 => 63 | 53 => 164 | 171 => 226 | 173 => 229 | 212 => 261 | 213 => 262 | 232 => 308 | 233 => 309 | n => n,fun | 17 => 4 | 18 => 9 | 19 => 10 | n => n⟩
theorem Tryz.laysI171 : Go.Proofs.Lays.n171 Tryz.prog Tryz.laysI_ren:={
 mixed:=by kernel_rfl
 f129:=Tryz.func210.trans (congrArg some (by kernel_rfl))
 f171:=Tryz.func72.trans (congrArg some (by kernel_rfl))
 f243:=Tryz.func103.trans (congrArg some (by kernel_rfl))
 f246:=Tryz.func137.trans (congrArg some (by kernel_rfl))
 f283:=Tryz.func175.trans (congrArg some (by kernel_rfl))
 f284:=Tryz.func176.trans (congrArg some (by kernel_rfl))
 f285:=Tryz.func177.trans (congrArg some (by kernel_rfl))
 f286:=Tryz.func178.trans (congrArg some (by kernel_rfl))
 f317:=Tryz.func209.trans (congrArg some (by kernel_rfl))
 f318:=Tryz.func211.trans (congrArg some (by kernel_rfl))
 f319:=Tryz.func212.trans (congrArg some (by kernel_rfl))
 f320:=Tryz.func213.trans (congrArg some (by kernel_rfl))
 f337:=Tryz.func232.trans (congrArg some (by kernel_rfl))
 f338:=Tryz.func233.trans (congrArg some (by kernel_rfl))
 t0:=Tryz.underlying0
 a0:=Tryz.isAgg0
 z0:=Tryz.sizeOf0
 v0:=Tryz.zeroValue0
 t2:=Tryz.underlying2
 a2:=Tryz.isAgg2
 z2:=Tryz.sizeOf2
 v2:=Tryz.zeroValue2
 t3:=Tryz.underlying3
 a3:=Tryz.isAgg3
 z3:=Tryz.sizeOf3
 v3:=Tryz.zeroValue3
 t4:=Tryz.underlying4
 a4:=Tryz.isAgg4
 z4:=Tryz.sizeOf4
 v4:=Tryz.zeroValue4
 t5:=Tryz.underlying5
 a5:=Tryz.isAgg5
 z5:=Tryz.sizeOf5
 v5:=Tryz.zeroValue5
 t9:=Tryz.underlying9
 a9:=Tryz.isAgg9
 z9:=Tryz.sizeOf9
 v9:=Tryz.zeroValue9
 t20:=Tryz.underlying20
 a20:=Tryz.isAgg20
 z20:=Tryz.sizeOf20
 v20:=Tryz.zeroValue20
 t37:=Tryz.underlying71
 a37:=Tryz.isAgg71
 z37:=Tryz.sizeOf71
 v37:=Tryz.zeroValue71
 t46:=Tryz.underlying121
 a46:=Tryz.isAgg121
 z46:=Tryz.sizeOf121
 v46:=Tryz.zeroValue121
 t51:=Tryz.underlying63
 a51:=Tryz.isAgg63
 z51:=Tryz.sizeOf63
 v51:=Tryz.zeroValue63
 t53:=Tryz.underlying164
 a53:=Tryz.isAgg164
 z53:=Tryz.sizeOf164
 v53:=Tryz.zeroValue164
 t171:=Tryz.underlying226
 a171:=Tryz.isAgg226
 z171:=Tryz.sizeOf226
 v171:=Tryz.zeroValue226
 t173:=Tryz.underlying229
 a173:=Tryz.isAgg229
 z173:=Tryz.sizeOf229
 v173:=Tryz.zeroValue229
 t212:=Tryz.underlying261
 a212:=Tryz.isAgg261
 z212:=Tryz.sizeOf261
 v212:=Tryz.zeroValue261
 t213:=Tryz.underlying262
 a213:=Tryz.isAgg262
 z213:=Tryz.sizeOf262
 t232:=Tryz.underlying308
 a232:=Tryz.isAgg308
 z232:=Tryz.sizeOf308
 v232:=Tryz.zeroValue308
 t233:=Tryz.underlying309
 a233:=Tryz.isAgg309
 z233:=Tryz.sizeOf309
 v233:=Tryz.zeroValue309
 g17:=by kernel_rfl
 g18:=by kernel_rfl
 g19:=by kernel_rfl
}
theorem Tryz.laysMI171 : Go.Proofs.LaysM.n171 Tryz.prog Tryz.laysI_ren:={ Tryz.laysI171 with
 i0:=by kernel_rfl
 i2:=by kernel_rfl
 i3:=by kernel_rfl
 i4:=by kernel_rfl
 i5:=by kernel_rfl
 i9:=by kernel_rfl
 i20:=by kernel_rfl
 i37:=by kernel_rfl
 i46:=by kernel_rfl
 i51:=by kernel_rfl
 i53:=by kernel_rfl
 i171:=by kernel_rfl
 i173:=by kernel_rfl
 i212:=by kernel_rfl
 i232:=by kernel_rfl
 i233:=by kernel_rfl
 m17:=by kernel_rfl
 m18:=by kernel_rfl
 m19:=by kernel_rfl }
open Go.RowKit Go.Lib Go.Sort in
theorem Tryz.strconv_Itoa (n : Int) (h0 : -9223372036854775808 ≤ n) (h1 : n ≤ 9223372036854775807) (w : World) (htab : Lib.TabIs Tryz.prog w "internal/strconv.uint64pow10" .u64 Lib.pow10Tab) :
  Calls Tryz.prog 72 #[.int .i64 n] w fun e w' => e = .returned (.string ⟨(Lib.itoa n).toArray⟩) ∧ ∃ k os,w' = grow (w.drewN k) os:=Any.strconv_Itoa Tryz.laysMI171 n h0 h1 w htab
end Go.Proofs

namespace Go.Proofs
open Go.Shelf
def Tryz.lays138_ren : Go.Shelf.Ren:=⟨fun | 138 => 237 | 195 => 186 | 218 => 246 | 143 => 131 | 219 => 108 | 217 => 124 | 225 => 107 | 224 => 106 | 267 => 141 | 266 => 160 | 314 => 180 | n => n,fun | 9 => 9 | 3 => 3 | 4 => 4 | 5 => 5 | 0 => 0 | 46 => 121 | 146 => 198 | 51 => 63 | n => n,fun | 1 => 2 | n => n⟩
theorem Tryz.lays138 : Go.Proofs.Lays.n138 Tryz.prog Tryz.lays138_ren:={
 mixed:=by kernel_rfl
 f138:=Tryz.func237.trans (congrArg some (by kernel_rfl))
 f143:=Tryz.func131.trans (congrArg some (by kernel_rfl))
 f195:=Tryz.func186.trans (congrArg some (by kernel_rfl))
 f217:=Tryz.func124.trans (congrArg some (by kernel_rfl))
 f218:=Tryz.func246.trans (congrArg some (by kernel_rfl))
 f219:=Tryz.func108.trans (congrArg some (by kernel_rfl))
 f224:=Tryz.func106.trans (congrArg some (by kernel_rfl))
 f225:=Tryz.func107.trans (congrArg some (by kernel_rfl))
 f266:=Tryz.func160.trans (congrArg some (by kernel_rfl))
 f267:=Tryz.func141.trans (congrArg some (by kernel_rfl))
 f314:=Tryz.func180.trans (congrArg some (by kernel_rfl))
 t0:=Tryz.underlying0
 a0:=Tryz.isAgg0
 z0:=Tryz.sizeOf0
 v0:=Tryz.zeroValue0
 t3:=Tryz.underlying3
 a3:=Tryz.isAgg3
 z3:=Tryz.sizeOf3
 v3:=Tryz.zeroValue3
 t4:=Tryz.underlying4
 a4:=Tryz.isAgg4
 z4:=Tryz.sizeOf4
 v4:=Tryz.zeroValue4
 t5:=Tryz.underlying5
 a5:=Tryz.isAgg5
 z5:=Tryz.sizeOf5
 v5:=Tryz.zeroValue5
 t9:=Tryz.underlying9
 a9:=Tryz.isAgg9
 z9:=Tryz.sizeOf9
 v9:=Tryz.zeroValue9
 t46:=Tryz.underlying121
 a46:=Tryz.isAgg121
 z46:=Tryz.sizeOf121
 v46:=Tryz.zeroValue121
 t51:=Tryz.underlying63
 a51:=Tryz.isAgg63
 z51:=Tryz.sizeOf63
 v51:=Tryz.zeroValue63
 t146:=Tryz.underlying198
 a146:=Tryz.isAgg198
 z146:=Tryz.sizeOf198
 v146:=Tryz.zeroValue198
 g1:=by kernel_rfl }
open Go.RowKit Go.Lib in
theorem Tryz.strings_Count_one (s : ByteArray) (c : UInt8) (w : World) :
  Calls Tryz.prog 237 #[.string s,.string ⟨#[c]⟩] w fun e w' => e = .returned (.int .i64 (Lib.countByte s.data.toList c)) ∧ w' = w:=Any.strings_Count_one Tryz.lays138 s c w
end Go.Proofs
