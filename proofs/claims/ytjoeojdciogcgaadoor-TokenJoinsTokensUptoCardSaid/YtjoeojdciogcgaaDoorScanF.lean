/- The scanner's function name: the token or the fault. Nothing is claimed here. -/
import Derived.StringKeys
import Derived.Test.YtjoeojdciogcgaaDoorScanE
namespace Go.Proofs.YtjoeojdciogcgaaDoor
open Go.RowKit Go.Shelf Go.Lib Go.Maps

theorem wordsF_map : ∀ (l : List (List UInt8)) (k : Nat) (D : DataW Unit), IsMap D → IsMap (wordsF l k D)
  | [], _, _, h => h
  | _ :: l, k, _, h => wordsF_map l (k + 1) _ (h.put _ _)
theorem has_wordsF (t : List UInt8) : ∀ (l : List (List UInt8)) (k : Nat) (D : DataW Unit), IsMap D → Maps.has (wordsF l k D) (.string t) = (Maps.has D (.string t) || l.contains t)
  | [], _, D, _ => by simp [wordsF]
  | x :: l, k, D, h => by
    unfold wordsF
    rw [has_wordsF t l (k + 1) _ (h.put _ _), List.contains_cons]
    by_cases hx : t = x
    · subst hx
      rw [has_put_same h (by trivial)]
      simp
    · rw [has_put_other (by simpa using hx), show (t == x) = false from by rw [beq_eq_false_iff_ne]; exact hx, Bool.false_or]
theorem has_words (t : List UInt8) : Maps.has wordsD (.string t) = kws.contains t := by
  unfold wordsD
  rw [has_wordsF t kws 0 _ isMap_empty]
  rfl

/-- a token was scanned, or a fault thrown -/
def LexPost (a : World) (B g : Nat) (l : List UInt8) (at_ : Nat) (ind : List Nat) (op : List UInt8) (ts : List Tok) (vi vo : Value) (m : Nat) (vs : Value) (r : Lex) (e : Ending) (w' : World) : Prop :=
  match r with
  | .error (c, k) => e = .panicked [{ v := probV c ((at_ + k : Nat) : Int), recovered := false }] ∧ Below B a w'
  | .ok (k, n) => ∃ vt', e = .returned (.tuple #[]) ∧ Sc w' B g l (at_ + n) ind op (ts ++ [tokAt l k ((l.drop at_).take n) at_]) vi vo vt' m vs ∧ Below B a w'
theorem LexPost.err {a : World} {B g : Nat} {l : List UInt8} {at_ : Nat} {ind : List Nat} {op : List UInt8} {ts : List Tok} {vi vo : Value} {m : Nat} {vs : Value} {r : Lex} {e : Ending} {w' : World} {c : Int} {k : Nat}
    (hr : r = .error (c, k)) (i : Int) (hi : i = ((at_ + k : Nat) : Int)) (he : e = .panicked [{ v := probV c i, recovered := false }]) (hb : Below B a w') : LexPost a B g l at_ ind op ts vi vo m vs r e w' := by
  subst hr hi
  exact ⟨he, hb⟩
theorem LexPost.ok {a : World} {B g : Nat} {l : List UInt8} {at_ : Nat} {ind : List Nat} {op : List UInt8} {ts : List Tok} {vi vo : Value} {m : Nat} {vs : Value} {r : Lex} {e : Ending} {w' : World} {k : Int} {n : Nat} {vt' : Value}
    (hr : r = .ok (k, n)) (he : e = .returned (.tuple #[])) (hs : Sc w' B g l (at_ + n) ind op (ts ++ [tokAt l k ((l.drop at_).take n) at_]) vi vo vt' m vs) (hb : Below B a w') : LexPost a B g l at_ ind op ts vi vo m vs r e w' := by
  subst hr
  exact ⟨vt', he, hs, hb⟩

set_option maxRecDepth 100000 in
set_option maxHeartbeats 4000000 in
/-- name scans a name or a keyword -/
theorem name_any {a w : World} {B g : Nat} {l : List UInt8} {at_ : Nat} {ind : List Nat} {op : List UInt8} {ts : List Tok} {vi vo vt : Value} {m : Nat} {vs : Value} (h : Sc w B g l at_ ind op ts vi vo vt m vs) (hl : l.length ≤ 16000) (ha : at_ ≤ l.length) (hb : Below B a w) (hts : ts.length ≤ 1000000) :
    Calls Tryd.prog 44 #[.pointer (some ⟨g, 0, none⟩)] w (LexPost a B g l at_ ind op ts vi vo m vs (lexName (l.drop at_))) := by
  have hsl := span_line isWrd (by decide) l at_ (span isWrd (l.drop at_)) ha (Nat.le_refl _)
  have hle := span_drop_le isWrd l at_ ha
  obtain ⟨n, hn⟩ : ∃ n, span isWrd (l.drop at_) = n := ⟨_, rfl⟩
  obtain ⟨t, ht⟩ : ∃ t, (l.drop at_).take n = t := ⟨_, rfl⟩
  rw [hn] at hsl hle
  have htl : t.length = n := by rw [← ht, List.length_take, List.length_drop]; omega
  have HN := Lib.hid hn
  have HT := Lib.hid ht
  have HTL := Lib.hid htl
  have HL1 := Lib.hid hsl.1
  have HL2 := Lib.hid hsl.2
  have hsub := run_sub l at_ (at_ + n) (by omega) hle (at_ : Int) ((at_ : Int) + (n : Int)) rfl (by omega)
  rw [show at_ + n - at_ = n by omega, ht] at hsub
  have hkey := WideMaps.keyOf_string_mk (P := Tryd.prog) (k := 9) Tryd.underlying9 (s := ⟨t.toArray⟩) (by simp [ByteArray.size, htl, maxLen]; omega)
  have HKEY := Lib.hid hkey
  have HSUB := Lib.hid hsub
  have HH := Lib.hid h
  clear hsl hn ht htl hkey hsub
  have h0 := h
  unfold Sc scCells at h0
  obtain ⟨q1, q2, q3⟩ := h0.blk.rules
  clear h h0
  go_enter Tryd.func44, Tryd.ntmps44
  go_wp2_with fail
  refine (while_wrd HH.out hl ha hb).mono ?_
  rintro e w1 ⟨rfl, hs1, hb1⟩
  rw [HN.out] at hs1
  have HS1 := Lib.hid hs1
  have hs1' := hs1
  unfold Sc scCells at hs1'
  clear q1 q2 q3
  obtain ⟨q1, q2, q3⟩ := hs1'.blk.rules
  clear hs1 hs1'
  have hsub := HSUB.out
  go_wp2_with fail
  go_quiet (fail)
  have hown := (ScR.drewN HS1.out nq).om
  have HS3 : Hid (Sc (w1.drewN nq) B g l (at_ + n) ind op ts vi vo vt m vs) := Lib.hid (ScR.drewN HS1.out nq)
  have hb3 := below_drewN hb1 nq
  have hlen : (⟨t.toArray⟩ : ByteArray).size = n := HTL.out
  clear hsub
  by_cases h24 : 24 < n
  · have HR := Lib.hid (show lexName (l.drop at_) = .error (7, 0) by unfold lexName; rw [HN.out, if_pos h24])
    have d24 : decide ((24 : Int) < (n : Int)) = true := decide_eq_true (by omega)
    cases hkw : kws.contains t
    all_goals
      have HK := Lib.hid hkw
      clear hkw h24
      go_wp2_with (at_lookup; refine wpList_lookup_own_ok_int _ rfl _ _ 42 rfl 9 3 .i64 law Tryd.underlying42 Tryd.underlying3 (zeroInt _) m 38 wordsD rfl hown _ _ rfl HKEY.out ?_; intro c hat hwc; rw [has_words, HK.out])
      refine (fail_any _ _ _ _).mono ?_
      rintro e w3 ⟨rfl, rfl⟩
      go_wp2_with fail
      exact ⟨rfl, LexPost.err HR.out _ rfl rfl hb3⟩
  · have d24 : decide ((24 : Int) < (n : Int)) = false := decide_eq_false (by omega)
    cases hkw : kws.contains t
    · have HR := Lib.hid (show lexName (l.drop at_) = .ok (4, n) by unfold lexName; rw [HN.out, if_neg h24, HT.out, hkw]; rfl)
      have HK := Lib.hid hkw
      clear hkw h24
      go_wp2_with (at_lookup; refine wpList_lookup_own_ok_int _ rfl _ _ 42 rfl 9 3 .i64 law Tryd.underlying42 Tryd.underlying3 (zeroInt _) m 38 wordsD rfl hown _ _ rfl HKEY.out ?_; intro c hat hwc; rw [has_words, HK.out])
      refine (add_any HS3.out hl hts hb3 _ _ _ (by omega) HL1.out HL2.out).mono ?_
      rintro e w4 ⟨vt4, rfl, hs4, hb4⟩
      have HS4 := Lib.hid hs4
      clear hs4
      go_wp2_with fail
      go_end0
      exact LexPost.ok HR.out rfl (by rw [HT.out]; exact HS4.out) hb4
    · have HR := Lib.hid (show lexName (l.drop at_) = .ok (5, n) by unfold lexName; rw [HN.out, if_neg h24, HT.out, hkw]; rfl)
      have HK := Lib.hid hkw
      clear hkw h24
      go_wp2_with (at_lookup; refine wpList_lookup_own_ok_int _ rfl _ _ 42 rfl 9 3 .i64 law Tryd.underlying42 Tryd.underlying3 (zeroInt _) m 38 wordsD rfl hown _ _ rfl HKEY.out ?_; intro c hat hwc; rw [has_words, HK.out])
      refine (add_any HS3.out hl hts hb3 _ _ _ (by omega) HL1.out HL2.out).mono ?_
      rintro e w4 ⟨vt4, rfl, hs4, hb4⟩
      have HS4 := Lib.hid hs4
      clear hs4
      go_wp2_with fail
      go_end0
      exact LexPost.ok HR.out rfl (by rw [HT.out]; exact HS4.out) hb4

end Go.Proofs.YtjoeojdciogcgaaDoor
