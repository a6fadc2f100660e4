/- The reference's comparison of two lists of tokens that are the same. Nothing is claimed here. -/
import Derived.Test.YtjoeojdciogcgaaDoorRefX
import Derived.Test.YtjoeojdciogcgaaDoorJoinB
namespace Go.Proofs.YtjoeojdciogcgaaDoor
open Go.RowKit Go.Shelf Go.Lib Go.Maps
set_option linter.unusedVariables false

set_option maxRecDepth 100000 in
set_option maxHeartbeats 4000000 in
theorem sameTokens_any (A B : Option Addr) (c d : Nat) (l : List Tok) (w : World) (hl : l.length ≤ 9223372036854775807) (ha : Row w A (l.flatMap tokc)) (hb : Row w B (l.flatMap tokc)) :
    Calls Tryd.prog 15 #[.slice A l.length c, .slice B l.length d] w fun e w' => e = .returned (.bool true) ∧ Below w.heap.size w w' := by
  have h0 : ((l.length : Int) != l.length) = false := by simp
  go_enter Tryd.func15, Tryd.ntmps15
  go_wp2_with fail
  go_loopw [13] (fun i wr => ∃ k : Nat, k ≤ l.length ∧ i = .int .i64 (k : Int) ∧ Below w.heap.size w wr) (fun i _ => l.length - (RowKit.intOf i).toNat)
  case atStart => exact ⟨0, Nat.zero_le _, rfl, Below.refl _ _⟩
  case round =>
    obtain ⟨k, hk, rfl, hbr⟩ := hrel
    by_cases hlt : k < l.length
    · obtain ⟨b1, o1, s, rfl, had1, H1, a1, a2, a3, a4⟩ := (ha.keepB hbr).tok hlt
      obtain ⟨b2, o2, t, rfl, had2, H2, c1, c2, c3, c4⟩ := (hb.keepB hbr).tok hlt
      have hst : t = s := by
        have := H1.out.symm.trans H2.out
        exact (Option.some.inj this).symm
      subst hst
      have i1 : (k : Int) < l.length := by omega
      have e1 : (t.kind != t.kind) = false := by simp
      have e2 : (t.text != t.text) = false := by simp
      clear ha hb
      go_wp2_with fail
      go_quiet (fail)
      go_wp2_with fail
      go_roundw
      case rel => exact ⟨k + 1, by omega, by go_num, below_drewN hbr _⟩
      case measure => simp [RowKit.intOf]; omega
    · go_wp2_with fail
      go_ret
      exact ⟨rfl, hbr⟩

end Go.Proofs.YtjoeojdciogcgaaDoor
