/- Walks: numbers in groups of seven bits. Nothing is claimed here. -/
import Derived.Test.YtdajaddgdmoneaaDoorOpA
namespace Go.Proofs.YtdajaddgdmoneaaDoor
open Go.RowKit
set_option linter.unusedVariables false

theorem info_byte : (Tryd.prog.info? 5).map (fun i => (i.zero, i.size, i.bytes)) = some (some (.int .u8 0), 1, 1) := by kernel_rfl

/-- the groups of a number below 2^21 -/
def sp (n : Int) : List Int := if n < 128 then [n] else if n < 16384 then [n % 128 + 128, n / 128] else [n % 128 + 128, n / 128 % 128 + 128, n / 16384]
theorem sp_low {n : Int} (h : n < 128) : sp n = [n] := by rw [sp, if_pos h]
theorem sp_high {n : Int} (h : 128 ≤ n) (h2 : n < 2097152) : sp n = (n % 128 + 128) :: sp (n / 128) := by
  unfold sp
  rw [if_neg (by omega)]
  by_cases h3 : n < 16384
  · rw [if_pos h3, if_pos (by omega)]
  · rw [if_neg h3, if_neg (by omega), if_pos (by omega)]
    congr 3
    omega
theorem sp_len (n : Int) : (sp n).length ≤ 3 := by unfold sp; split; simp; split <;> simp
def bcs (l : List Int) : List Value := l.map (Value.int .u8)

def VarintPost (base : Nat) (v : Value) (k : Nat) (xs : List Value) (l : List Int) (w : World) (e : Ending) (w' : World) : Prop :=
  ∃ v', e = .returned v' ∧ w'.ownsRow base 5 1 v' (k + l.length) (xs ++ bcs l) ∧ w.grownBy w' v.ownBlock ∧ Moved w v.ownBlock v'.ownBlock

def VarintRel (base : Nat) (v : Value) (k : Nat) (xs : List Value) (n : Int) (w : World) (a b : Value) (wr : World) : Prop :=
  ∃ (m : Int) (d : List Int) (v' : Value), 0 ≤ m ∧ m < 2097152 ∧ a = v' ∧ b = .int .i64 m ∧ sp n = d ++ sp m ∧ wr.ownsRow base 5 1 v' (k + d.length) (xs ++ bcs d) ∧ w.grownBy wr v.ownBlock ∧ Moved w v.ownBlock v'.ownBlock

set_option maxHeartbeats 400000 in
theorem varint_any (base : Nat) (v : Value) (k : Nat) (xs : List Value) (n : Int) (w : World) (h1 : 0 ≤ n) (h2 : n < 2097152) (hk : k ≤ 1000000000) (hown : w.ownsRow base 5 1 v k xs) (hbase : base ≤ w.heap.size) :
    Calls Tryd.prog 22 #[v, .int .i64 n] w (VarintPost base v k xs (sp n) w) := by
  obtain ⟨i0, hi, hz0, hz1, hz2⟩ := info_parts info_byte
  go_enter Tryd.func22, Tryd.ntmps22
  go_wp2
  go_loopw [0, 1] (fun a b wr => VarintRel base v k xs n w a b wr) (fun _ i _ => (intOf i).toNat)
  case atStart => exact ⟨n, [], v, h1, h2, rfl, rfl, rfl, by simpa [bcs] using hown, grownBy_refl _ _, Moved.refl _ _⟩
  case round =>
    obtain ⟨m, d, v', h1', h2', rfl, rfl, he, hown', hg, hmv⟩ := hrel
    have He := Lib.hid he
    have Hg := Lib.hid hg
    have hdl : d.length ≤ 3 := by have := sp_len n; rw [he, List.length_append] at this; omega
    clear he hg hown
    have hsz := Hg.out.size
    by_cases h : 127 < m
    · go_wp2_with (at_builtin; refine wpList_append_own_at _ rfl (.tmp 7) (.tmp 12) 22 rfl base 5 i0 (.int .u8 0) 1 1 Tryd.underlying22 hi hz0 hz1 hz2 rfl (by decide) _ _ _ rfl (hown'.alloc _) ⟨wr.heap.size, 0, none⟩ 1 1 [_] rfl rfl (cell_one_new _ _ _) (by simp [Value.oneCell']) (by unfold maxLen; omega) (by omega) (by simp; omega) ?_; intro v2 w2 hown2 hg2 _ hat2)
      have hg3 : (wr.alloc _).grownBy w2 u0.ownBlock := hg2
      have hat3 : v2.ownBlock = u0.ownBlock ∨ v2.ownBlock = some (wr.alloc _).heap.size := hat2
      rw [byte_hi m h1' (by omega)] at hown2
      go_roundw
      case rel =>
        refine ⟨m / 128, d ++ [m % 128 + 128], v2, by omega, by omega, rfl, rfl, ?_, ?_, grownBy_next (grownBy_next Hg.out (grownBy_alloc wr _ _) (.inl rfl)) hg3 hmv, hmv.next hat3 (by simp; omega)⟩
        · rw [He.out, sp_high (by omega) h2']; simp
        · simpa [bcs, Nat.add_assoc] using hown2
      case measure => simp [intOf]; omega
    · go_wp2_with (at_builtin; refine wpList_append_own_at _ rfl (.tmp 16) (.tmp 19) 22 rfl base 5 i0 (.int .u8 0) 1 1 Tryd.underlying22 hi hz0 hz1 hz2 rfl (by decide) _ _ _ rfl (hown'.alloc _) ⟨wr.heap.size, 0, none⟩ 1 1 [_] rfl rfl (cell_one_new _ _ _) (by simp [Value.oneCell']) (by unfold maxLen; omega) (by omega) (by simp; omega) ?_; intro v2 w2 hown2 hg2 _ hat2)
      have hg3 : (wr.alloc _).grownBy w2 u0.ownBlock := hg2
      have hat3 : v2.ownBlock = u0.ownBlock ∨ v2.ownBlock = some (wr.alloc _).heap.size := hat2
      go_ret
      refine ⟨v2, rfl, ?_, grownBy_next (grownBy_next Hg.out (grownBy_alloc wr _ _) (.inl rfl)) hg3 hmv, hmv.next hat3 (by simp; omega)⟩
      rw [He.out, sp_low (by omega)]
      simpa [bcs, Nat.add_assoc] using hown2

theorem own_nil_block {w : World} {base : Nat} {e : TypeId} {size n : Nat} {v : Value} {xs : List Value} (h : w.ownsRow base e size v n xs) : ∀ k, v.ownBlock = some k → base ≤ k := fun k hk => (h.lt k hk).1

/-- a slice of bytes of the call's own is handed back -/
def OwnPost (l : List Int) (w : World) (e : Ending) (w' : World) : Prop :=
  ∃ v', e = .returned v' ∧ w'.ownsRow w.heap.size 5 1 v' l.length (bcs l) ∧ Below w.heap.size w w'

set_option maxHeartbeats 400000 in
theorem septets_low (n : Int) (w : World) (h1 : 0 ≤ n) (h2 : n < 128) : Calls Tryd.prog 27 #[.int .i64 n] w (OwnPost (sp n) w) := by
  go_enter Tryd.func27, Tryd.ntmps27
  go_wp2_with fail
  go_ret
  refine ⟨_, rfl, ?_, (Below.refl _ _).alloc (Nat.le_refl _) _⟩
  rw [sp_low h2]
  have := World.ownsRow_lit (base := w.heap.size) (e := 5) (size := 1) w #[.int .u8 n] 1 (Nat.le_refl _) (by unfold maxLen; omega) rfl
  have e : n % 256 = n := by omega
  simpa [bcs, e] using this

set_option maxHeartbeats 400000 in
theorem septets_high (n : Int) (w : World) (h1 : 128 ≤ n) (h2 : n < 2097152) (ih : ∀ (w : World), Calls Tryd.prog 27 #[.int .i64 (n / 128)] w (OwnPost (sp (n / 128)) w)) : Calls Tryd.prog 27 #[.int .i64 n] w (OwnPost (sp n) w) := by
  obtain ⟨i0, hi, hz0, hz1, hz2⟩ := info_parts info_byte
  have IH := Lib.hid ih
  clear ih
  go_enter Tryd.func27, Tryd.ntmps27
  go_wp2_with fail
  refine (IH.out _).mono ?_
  rintro e w1 ⟨v1, rfl, hown1, hb1⟩
  obtain ⟨A, c, rfl, hr1, hc1⟩ := own_form hown1
  have ho : (w.alloc (.cells #[.int .u8 (128 + n % 128)] 5)).ownsRow w.heap.size 5 1 (.slice (some ⟨w.heap.size, 0, none⟩) 1 1) 1 [.int .u8 (128 + n % 128)] := World.ownsRow_lit w #[.int .u8 (128 + n % 128)] 1 (Nat.le_refl _) (by unfold maxLen; omega) rfl
  have ho1 := own_belowS ho hb1
  have hb0 : Below w.heap.size w w1 := below_then ((Below.refl _ _).alloc (Nat.le_refl _) _) hb1 (by simp)
  have hlen := sp_len (n / 128)
  have hs1 := hb0.size
  clear ho hown1
  go_wp2_with (at_builtin; refine wpList_append_row _ rfl (.tmp 12) (.tmp 15) 22 rfl w.heap.size 5 i0 (.int .u8 0) 1 1 Tryd.underlying22 hi hz0 hz1 hz2 rfl (by decide) (.slice (some ⟨w.heap.size, 0, none⟩) 1 1) 1 [.int .u8 (128 + n % 128)] rfl ho1 A _ c (bcs (sp (n / 128))) rfl (by simp [bcs]) hr1 (by intro u hu; simp [bcs] at hu; obtain ⟨x, _, rfl⟩ := hu; rfl) (by unfold maxLen; omega) (by omega) hs1 ?_; intro v2 w2 hown2 hg2 hat2)
  go_ret
  refine ⟨_, rfl, ?_, hb0.grown hg2 hs1 (by simp [Value.ownBlock])⟩
  rw [sp_high h1 h2]
  rw [Int.add_comm 128] at hown2
  simpa [bcs, Nat.add_comm] using hown2

theorem septets_any (n : Int) (w : World) (h1 : 0 ≤ n) (h2 : n < 2097152) : Calls Tryd.prog 27 #[.int .i64 n] w (OwnPost (sp n) w) := by
  have s1 : ∀ m : Int, 0 ≤ m → m < 16384 → ∀ w, Calls Tryd.prog 27 #[.int .i64 m] w (OwnPost (sp m) w) := fun m a b w => by
    by_cases h : m < 128
    · exact septets_low m w a h
    · exact septets_high m w (by omega) (by omega) fun w => septets_low _ w (by omega) (by omega)
  by_cases h : n < 128
  · exact septets_low n w h1 h
  · exact septets_high n w (by omega) (by omega) (s1 _ (by omega) (by omega))


end Go.Proofs.YtdajaddgdmoneaaDoor
