/- The law TokenScansSources: its walk. Nothing is claimed here. -/
import Derived.Test.YtjoeojdciogcgaaDoorTokW
import Derived.Test.YtjoeojdciogcgaaDoorRefV
import Derived.Test.YtjoeojdciogcgaaDoorRefTl
namespace Go.Proofs.YtjoeojdciogcgaaDoor
open Go.RowKit Go.Shelf Go.Lib Go.Maps Go.Sort
set_option linter.unusedVariables false

/-- the reserved words in one text -/
def kwsJ : List UInt8 := Lib.join ((kws.map fun k => (⟨k.toArray⟩ : ByteArray)).map (·.data.toList)) [32]
theorem joinK_any (w : World) (b : Nat) (hb : Blk w b 9 (strs kws).toArray) (w0 : World) (h0 : w = w0) :
    Calls Tryd.prog 11 #[.slice (some ⟨b, 0, none⟩) 38 38, .string ⟨#[32]⟩] w fun e w' => e = .returned (.string ⟨kwsJ.toArray⟩) ∧ Below w0.heap.size w0 w' := by
  subst h0
  have h := Tryd.strings_Join b 0 38 (kws.map fun k => (⟨k.toArray⟩ : ByteArray)) ⟨#[32]⟩ w (fun j x hx => by
    rw [Nat.zero_add, hb.cell j]
    rw [List.getElem?_map] at hx
    simp only [strs, List.getElem?_toArray, List.getElem?_map]
    cases hk : kws[j]? with
    | none => rw [hk] at hx; simp at hx
    | some k =>
      rw [hk] at hx
      simp only [Option.map_some, Option.some.injEq] at hx ⊢
      rw [hx]) hb.lt (by decide) (by decide) (of_decide_eq_true (by kernel_rfl))
  exact h

set_option maxRecDepth 1000000 in
set_option maxHeartbeats 8000000 in
theorem scansLaw_any (l : List UInt8) (w : World) (hl : l.length ≤ 9223372036854775807) (he : Env w) (hm : Lim w) :
    Calls Tryd.prog 5 #[.string ⟨l.toArray⟩] w fun e w' => e = .returned (.bool true) ∧ RowKit.Below w.heap.size w w' := by
  go_enter Tryd.func5, Tryd.ntmps5
  go_wp2_with fail
  refine (scans_any w he).mono ?_
  rintro e w1 ⟨rfl, hb1⟩
  have he1 := he.keepB hb1
  have hm1 := hm.keepB hb1
  clear he hm
  go_wp2_with fail
  refine (keywords_any w1 he1).mono ?_
  rintro e w2 ⟨rfl, hw2⟩
  have ba : Below w1.heap.size w1 w2 := by rw [hw2]; exact (Below.refl _ w1).alloc (Nat.le_refl _) _
  have hB2 : Blk w2 w1.heap.size 9 (strs kws).toArray := by rw [hw2]; exact Blk.new w1 9 (strs kws).toArray
  have he2 := he1.keepB ba
  have hm2 := hm1.keepB ba
  have hb2 := below_then hb1 ba hb1.size
  clear hw2 ba he1 hm1 hb1
  generalize w1.heap.size = b1 at hB2 ⊢
  go_wp2_with fail
  refine (joinK_any w2 b1 hB2 w2 rfl).mono ?_
  rintro e w3 ⟨rfl, ba⟩
  have he3 := he2.keepB ba
  have hm3 := hm2.keepB ba
  have hb3 := below_then hb2 ba hb2.size
  clear hB2 ba he2 hm2 hb2
  go_wp2_with fail
  refine (reserved_any w3).mono ?_
  rintro e w4 ⟨rfl, hw4⟩
  have ba : Below w3.heap.size w3 w4 := by rw [hw4]; exact (Below.refl _ w3).alloc (Nat.le_refl _) _
  have hB4 : Blk w4 w3.heap.size 9 (strs kws).toArray := by rw [hw4]; exact Blk.new w3 9 (strs kws).toArray
  have he4 := he3.keepB ba
  have hm4 := hm3.keepB ba
  have hb4 := below_then hb3 ba hb3.size
  clear hw4 ba he3 hm3 hb3
  generalize w3.heap.size = b3 at hB4 ⊢
  go_wp2_with fail
  refine (joinK_any w4 b3 hB4 w4 rfl).mono ?_
  rintro e w5 ⟨rfl, ba⟩
  have he5 := he4.keepB ba
  have hm5 := hm4.keepB ba
  have hb5 := below_then hb4 ba hb4.size
  clear hB4 ba he4 hm4 hb4
  generalize kwsJ = KJ
  go_wp2_with fail
  refine (scan_all l w5 hl he5).mono ?_
  rintro e w6 ⟨ba, hpost⟩
  have he6 := he5.keepB ba
  have hm6 := hm5.keepB ba
  have hb6 := below_then hb5 ba hb5.size
  clear ba he5 hm5 hb5
  obtain ⟨R, hR⟩ : ∃ R, scanT l = R := ⟨_, rfl⟩
  rw [hR] at hpost
  rcases R with ⟨ce, ie⟩ | ts
  · obtain rfl := hpost
    have hF6 := Blk.new w6 25 #[.int .i64 ce, .int .i64 ie]
    have ba := (Below.refl w6.heap.size w6).alloc (Nat.le_refl _) (.cells #[.int .i64 ce, .int .i64 ie] 25)
    have he7 := he6.keepB ba
    have hm7 := hm6.keepB ba
    have hb7 := hb6.alloc hb6.size (.cells #[.int .i64 ce, .int .i64 ie] 25)
    clear ba he6 hm6 hb6
    have HR := Lib.hid hR
    clear hR
    unfold flt
    go_wp2_with fail
    refine (tokens_any l _ hl he7.1 hm7).mono ?_
    rintro e w8 ⟨ba, hpost⟩
    rw [HR.out] at hpost
    obtain rfl := hpost
    have hF8 := hF6.belowS ba
    have hb8 := below_then hb7 ba hb7.size
    have he8 := he7.keepB ba
    clear ba he7 hm7 hb7 hF6
    obtain ⟨q1, q2, q3⟩ := hF8.rules
    unfold flt
    go_wp2_with fail
    have hb9 := hb8.alloc hb8.size (.cells #[.int .i64 ce, .int .i64 ie] 25)
    refine (sameTokens_any none none 0 0 [] _ (by simp) (.inl rfl) (.inl rfl)).mono ?_
    rintro e wz ⟨rfl, ba⟩
    have hbz := below_then hb9 ba hb9.size
    clear ba hb9 hb8 q1 q2 q3 hF8
    go_wp2_with fail
    go_ret
    exact ⟨rfl, hbz⟩
  · obtain ⟨vt, rfl, hown⟩ := hpost
    obtain ⟨A, c, rfl, _, _⟩ := own_form hown
    have hrw := Row.of_own hown
    have htl := (scanT_bd hR).2.1
    have HR := Lib.hid hR
    have hF6 := Blk.new w6 25 #[.int .i64 0, .int .i64 0]
    have ba := (Below.refl w6.heap.size w6).alloc (Nat.le_refl _) (.cells #[.int .i64 0, .int .i64 0] 25)
    have he7 := he6.keepB ba
    have hm7 := hm6.keepB ba
    have hr7 := hrw.keepB ba
    have hb7 := hb6.alloc hb6.size (.cells #[.int .i64 0, .int .i64 0] 25)
    clear ba he6 hm6 hb6 hrw hown hR
    unfold flt
    go_wp2_with fail
    refine (tokens_any l _ hl he7.1 hm7).mono ?_
    rintro e w8 ⟨ba, hpost⟩
    rw [HR.out] at hpost
    obtain ⟨vm, rfl, hown⟩ := hpost
    obtain ⟨B, d, rfl, _, _⟩ := own_form hown
    have hrm := Row.of_own hown
    have hF8 := hF6.belowS ba
    have hb8 := below_then hb7 ba hb7.size
    have hr8 := hr7.keepB ba
    have bb := (Below.refl w8.heap.size w8).alloc (Nat.le_refl _) (.cells #[.int .i64 0, .int .i64 0] 25)
    have hr9 := hr8.keepB bb
    have hm9 := hrm.keepB bb
    have hb9 := hb8.alloc hb8.size (.cells #[.int .i64 0, .int .i64 0] 25)
    clear ba bb he7 hm7 hb7 hF6 hr7 hr8 hrm hown
    obtain ⟨q1, q2, q3⟩ := hF8.rules
    unfold flt
    go_wp2_with fail
    refine (sameTokens_any A B c d ts _ (by omega) hr9 hm9).mono ?_
    rintro e wz ⟨rfl, ba⟩
    have hbz := below_then hb9 ba hb9.size
    clear ba hb9 hb8 q1 q2 q3 hF8 hr9 hm9
    go_wp2_with fail
    go_ret
    exact ⟨rfl, hbz⟩

end Go.Proofs.YtjoeojdciogcgaaDoor
