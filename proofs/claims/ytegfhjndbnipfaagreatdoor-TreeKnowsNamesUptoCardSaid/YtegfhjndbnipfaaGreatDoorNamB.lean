/- Names: the program's and the reference's functions on them, what they compute. Nothing is claimed here. -/
import Derived.Great.BuildSlice
import Derived.Lib.IndexAny
import Derived.IntWalk
import Derived.Test.YtegfhjndbnipfaaGreatDoorSrcShelf
import Derived.Test.YtegfhjndbnipfaaGreatDoorCore
import Derived.Test.YtegfhjndbnipfaaGreatDoorSeqI
import Derived.Test.YtegfhjndbnipfaaGreatDoorNamA
namespace Go.Proofs.YtegfhjndbnipfaaGreatDoor
open Go.RowKit Go.Shelf Go.Lib Go.Maps
set_option linter.unusedVariables false

def strs (l : List (List UInt8)) : List Value := l.map (fun s => Value.string ⟨s.toArray⟩)
theorem isLet_n (c : UInt8) : isLet c = decide ((97 ≤ (c.toNat : Int) ∧ (c.toNat : Int) ≤ 122) ∨ (65 ≤ (c.toNat : Int) ∧ (c.toNat : Int) ≤ 90) ∨ (c.toNat : Int) = 95) := by
  rw [Bool.eq_iff_iff]
  unfold isLet
  simp only [Bool.or_eq_true, Bool.and_eq_true, decide_eq_true_eq, beq_iff_eq, UInt8.le_iff_toNat_le, ← UInt8.toNat_inj]
  simp
  omega
theorem isDig_n (c : UInt8) : isDig c = decide (48 ≤ (c.toNat : Int) ∧ (c.toNat : Int) ≤ 57) := by
  rw [Bool.eq_iff_iff]
  unfold isDig
  simp only [Bool.and_eq_true, decide_eq_true_eq, UInt8.le_iff_toNat_le]
  simp
  omega
/-- a byte of a string is read -/
theorem run_idx (l : List UInt8) (k : Nat) (h : k < l.length) (x : Int) (hx : x = (k : Int)) (W : World) : (Instr.index 9 (.string ⟨l.toArray⟩) (.int .i64 x)).run Tryz.prog W = .ok (.int .u8 ((at0 l k).toNat : Int)) W := by
  subst hx
  rw [run_index_string W 9 ⟨l.toArray⟩ .i64 _ Tryz.underlying9, dif_pos ⟨by omega, by simpa [ByteArray.size] using h⟩, at0_lt l k h]
  rfl
/-- a part of a string is taken -/
theorem extract_sub (r : List UInt8) (i n : Nat) : (⟨r.toArray⟩ : ByteArray).extract i n = ⟨((r.drop i).take (n - i)).toArray⟩ := ba_ext (by rw [extract_data])
theorem run_sub (l : List UInt8) (i j : Nat) (h1 : i ≤ j) (h2 : j ≤ l.length) (x y : Int) (hx : x = (i : Int)) (hy : y = (j : Int)) (W : World) :
    (Instr.slice 9 (.string ⟨l.toArray⟩) (some (.int .i64 x)) (some (.int .i64 y)) none).run Tryz.prog W = .ok (.string ⟨((l.drop i).take (j - i)).toArray⟩) W := by
  subst hx hy
  rw [run_slice_string W 9 ⟨l.toArray⟩ .i64 .i64 _ _ Tryz.underlying9 (by omega) (by omega) (by simp [ByteArray.size]; omega), Int.toNat_natCast, Int.toNat_natCast, extract_sub]

/-- what the library's variables hold -/
def Env (w : World) : Prop := Lib.TabIs Tryz.prog w "strings.asciiSpace" .u8 Lib.asciiSpaceTab
theorem tab_keep {P : Program} {w w' : World} {n : String} {k : IntKind} {zs : List Int} (h : Lib.TabIs P w n k zs) (hb : Below w.heap.size w w') : Lib.TabIs P w' n k zs := by
  unfold Lib.TabIs World.var? at h ⊢
  cases hg : P.globalNamed n with
  | none => rw [hg] at h; simp at h
  | some g =>
    rw [hg] at h
    simp only [Option.bind_some] at h ⊢
    have hlt : g < w.heap.size := by
      rcases Nat.lt_or_ge g w.heap.size with hlt | hge
      · exact hlt
      · rw [Array.getElem?_eq_none hge] at h; simp at h
    rw [hb.block g hlt]
    exact h
theorem Env.keepB {w w' : World} (h : Env w) (hb : Below w.heap.size w w') : Env w' := tab_keep h hb
/-- words with a blank between two -/
def spaced : List (List UInt8) → List UInt8
  | [] => []
  | [x] => x
  | x :: y :: l => x ++ 32 :: spaced (y :: l)
theorem fields_lit (F : List (List UInt8)) (n : Nat) (s : ByteArray) (w : World) (h : s.data.toList = spaced F) (hn : F.length = n) (hF : Lib.fields (spaced F) = F) (ha : (spaced F).all (fun b => decide (b.toNat < 128)) = true) (hl : (spaced F).length < 1000) (he : Env w) :
    Calls Tryz.prog 32 #[.string s] w fun e w' => e = .returned (.slice (some ⟨w.heap.size, 0, none⟩) n n) ∧ w' = w.alloc (.cells (strs F).toArray 9) := by
  have hsz : s.size < 1000 := by
    show s.data.size < 1000
    rw [← Array.length_toList, h]
    exact hl
  have ha : ∀ (j : Nat) b, s.data.toList[j]? = some b → b.toNat < 128 := by
    intro j b hj
    rw [h] at hj
    have := List.all_eq_true.1 ha b (List.mem_of_getElem? hj)
    simpa using this
  refine (Tryz.strings_Fields s w (by omega) ha he).mono ?_
  rintro e w' ⟨rfl, rfl⟩
  rw [h, hF, hn]
  exact ⟨rfl, rfl⟩
theorem keywords_any (w : World) (he : Env w) : Calls Tryz.prog 16 #[] w fun e w' => e = .returned (.slice (some ⟨w.heap.size, 0, none⟩) 38 38) ∧ w' = w.alloc (.cells (strs kws).toArray 9) := by
  go_enter Tryz.func16, Tryz.ntmps16
  go_wp2_with fail
  refine (fields_lit kws 38 _ _ (by kernel_rfl) (by kernel_rfl) (by kernel_rfl) (by kernel_rfl) (of_decide_eq_true (by kernel_rfl)) he).mono ?_
  rintro e w1 ⟨rfl, rfl⟩
  go_wp2_with fail
  go_ret
  exact ⟨rfl, rfl⟩

/-- the place of a word -/
def IxPostS (x : List UInt8) (xs : List (List UInt8)) (w : World) (e : Ending) (w' : World) : Prop :=
  w = w' ∧ ((x ∉ xs ∧ e = .returned (.int .i64 (-1))) ∨ ∃ k : Nat, x ∈ xs ∧ e = .returned (.int .i64 (k : Int)))
set_option maxRecDepth 100000 in
set_option maxHeartbeats 1000000 in
/-- slices.Index on strings -/
theorem indexS_any {w : World} {b : Nat} {c n : Nat} {xs : List (List UInt8)} (hB : Blk w b 9 (strs xs).toArray) (hn : xs.length = n) (hx : n ≤ 1000000) (x : List UInt8) :
    Calls Tryz.prog 31 #[.slice (some ⟨b, 0, none⟩) n c, .string ⟨x.toArray⟩] w (IxPostS x xs w) := by
  have HR := Lib.hid hB
  have HN := Lib.hid hn
  clear hB hn
  go_enter Tryz.func31, Tryz.ntmps31
  go_wp2_with fail
  go_loop [8] (fun i => ∃ k : Nat, k ≤ n ∧ (∀ j, j < k → ∀ y, xs[j]? = some y → y ≠ x) ∧ i = .int .i64 (k : Int)) (fun i => n - (RowKit.intOf i).toNat)
  case atStart => exact ⟨0, Nat.zero_le _, fun j hj => by omega, rfl⟩
  case round =>
    obtain ⟨k, hk, hno, rfl⟩ := hrel
    have HNO := Lib.hid hno
    clear hno
    by_cases hlt : k < n
    · obtain ⟨y, hy⟩ : ∃ y, xs[k]? = some y := ⟨_, List.getElem?_eq_getElem (by rw [HN.out]; exact hlt)⟩
      have hcx : w.cell? ⟨b, k, none⟩ = some (.string ⟨y.toArray⟩) := by
        rw [HR.out.cell k]
        simp [strs, hy]
      have HX := Lib.hid hy
      clear hy
      by_cases he : x = y
      · subst he
        go_wp2_with fail
        go_ret
        exact ⟨rfl, .inr ⟨k, List.mem_of_getElem? HX.out, rfl⟩⟩
      · have hq : (x == y) = false := by rw [beq_eq_false_iff_ne]; exact he
        have HE := Lib.hid he
        clear he
        go_wp2_with fail
        go_round
        case rel =>
          refine ⟨k + 1, by omega, fun j hj z hz => ?_, by go_num⟩
          rcases Nat.lt_or_ge j k with h | h
          · exact HNO.out j h z hz
          · obtain rfl : j = k := by omega
            rw [HX.out] at hz
            injection hz with hz
            rw [← hz]
            exact fun e => HE.out e.symm
        case measure => simp [RowKit.intOf]; omega
    · have HF : Hid (x ∉ xs) := Lib.hid (fun hm => by
        obtain ⟨j, hj, e⟩ := List.getElem_of_mem hm
        exact HNO.out j (by have := HN.out; omega) x (by rw [List.getElem?_eq_getElem hj, e]) rfl)
      go_wp2_with fail
      go_ret
      exact ⟨rfl, .inl ⟨HF.out, rfl⟩⟩
set_option maxHeartbeats 1000000 in
theorem containsS_any {w : World} {b : Nat} {c n : Nat} {xs : List (List UInt8)} (hB : Blk w b 9 (strs xs).toArray) (hn : xs.length = n) (hx : n ≤ 1000000) (x : List UInt8) :
    Calls Tryz.prog 15 #[.slice (some ⟨b, 0, none⟩) n c, .string ⟨x.toArray⟩] w fun e w' => e = .returned (.bool (xs.contains x)) ∧ w = w' := by
  have HI := Lib.hid (indexS_any (c := c) hB hn hx x)
  clear hB hn
  go_enter Tryz.func15, Tryz.ntmps15
  go_wp2_with fail
  refine HI.out.mono ?_
  rintro e w1 ⟨rfl, ⟨hno, rfl⟩ | ⟨k, hm, rfl⟩⟩
  · have HF : Hid (xs.contains x = false) := Lib.hid (by simpa using hno)
    clear hno
    go_wp2_with fail
    go_ret
    exact ⟨ret_bool (by rw [HF.out]), rfl⟩
  · have HF : Hid (xs.contains x = true) := Lib.hid (by simpa using hm)
    clear hm
    go_wp2_with fail
    go_ret
    exact ⟨ret_bool (by rw [HF.out]), rfl⟩

set_option maxRecDepth 100000 in
set_option maxHeartbeats 4000000 in
/-- the program's Name -/
theorem tname_any (s : List UInt8) (w : World) (hl : s.length ≤ 9223372036854775807) (he : Env w) :
    Calls Tryz.prog 5 #[.string ⟨s.toArray⟩] w fun e w' => e = .returned (.bool (nameB s)) ∧ Below w.heap.size w w' := by
  obtain ⟨r, hr⟩ : ∃ r, nameB s = r := ⟨_, rfl⟩
  rw [hr]
  have HR := Lib.hid hr
  clear hr
  go_enter Tryz.func5, Tryz.ntmps5
  go_wp2_with fail
  go_loop [8] (fun i => ∃ k : Nat, k ≤ s.length ∧ Hid (0 < k → isLet (at0 s 0) = true) ∧ Hid (∀ j, j < k → isWrd (at0 s j) = true) ∧ i = .int .i64 (k : Int)) (fun i => s.length - (RowKit.intOf i).toNat)
  case atStart => exact ⟨0, Nat.zero_le _, Lib.hid (fun h => by omega), Lib.hid (fun j hj => by omega), rfl⟩
  case round =>
    obtain ⟨k, hk, H0, HK, rfl⟩ := hrel
    by_cases hlt : k < s.length
    · have hix := run_idx s k hlt (k : Int) rfl
      have h1 := isLet_n (at0 s k)
      have h2 := isDig_n (at0 s k)
      obtain ⟨c, hc⟩ : ∃ c : Int, ((at0 s k).toNat : Int) = c := ⟨_, rfl⟩
      rw [hc] at hix h1 h2
      have HF : Hid ((k = 0 ∧ ¬ ((97 ≤ c ∧ c ≤ 122) ∨ (65 ≤ c ∧ c ≤ 90) ∨ c = 95)) ∨ ¬ (((97 ≤ c ∧ c ≤ 122) ∨ (65 ≤ c ∧ c ≤ 90) ∨ c = 95) ∨ (48 ≤ c ∧ c ≤ 57)) → r = false) := Lib.hid (fun h => by
        rw [← HR.out]
        rcases h with ⟨rfl, h⟩ | h
        · exact name_bad0 (by rw [h1]; exact decide_eq_false h)
        · refine name_badk hlt ?_
          unfold isWrd
          rw [h1, h2, decide_eq_false (fun e => h (.inl e)), decide_eq_false (fun e => h (.inr e))]
          rfl)
      have HN : Hid (((97 ≤ c ∧ c ≤ 122) ∨ (65 ≤ c ∧ c ≤ 90) ∨ c = 95) ∨ (0 < k ∧ 48 ≤ c ∧ c ≤ 57) → (isLet (at0 s 0) = true) ∧ ∀ j, j < k + 1 → isWrd (at0 s j) = true) := Lib.hid (fun h => by
        have hw : isWrd (at0 s k) = true := by
          unfold isWrd
          rcases h with h | h
          · rw [h1, decide_eq_true h, Bool.true_or]
          · rw [h2, decide_eq_true h.2, Bool.or_true]
        refine ⟨?_, fun j hj => ?_⟩
        · rcases Nat.eq_zero_or_pos k with rfl | hp
          · rcases h with h | h
            · rw [h1]; exact decide_eq_true h
            · omega
          · exact H0.out hp
        · rcases Nat.lt_or_ge j k with hjk | hjk
          · exact HK.out j hjk
          · obtain rfl : j = k := by omega
            exact hw)
      clear h1 h2 hc
      go_wp2_with fail
      all_goals first
        | (go_ret; exact ⟨ret_bool (HF.out (by first | omega | (simp at *; omega))).symm, Below.refl _ _⟩)
        | (go_round
           case rel => exact ⟨k + 1, by omega, Lib.hid (fun _ => (HN.out (by first | omega | (simp at *; omega))).1), Lib.hid (HN.out (by first | omega | (simp at *; omega))).2, by go_num⟩
           case measure => simp [RowKit.intOf]; omega)
    · have hend := name_end (s := s) (fun h => H0.out (by omega)) (fun j hj => HK.out j (by omega))
      cases h0 : s.isEmpty
      · by_cases h24 : s.length ≤ 24
        · have c1 : decide ((s.length : Int) ≤ 24) = true := decide_eq_true (by omega)
          have HX : Hid (r = !kws.contains s) := Lib.hid (by rw [← HR.out, hend, h0, decide_eq_true h24]; simp)
          clear hend
          go_wp2_with fail
          refine (keywords_any w he).mono ?_
          rintro e w1 ⟨rfl, hw1⟩
          have hB : Blk w1 w.heap.size 9 (strs kws).toArray := by rw [hw1]; exact Blk.new w 9 (strs kws).toArray
          have hb : Below w.heap.size w w1 := by rw [hw1]; exact (Below.refl _ w).alloc (Nat.le_refl _) _
          clear hw1
          go_wp2_with fail
          refine (containsS_any hB rfl (by decide) s).mono ?_
          rintro e w2 ⟨rfl, rfl⟩
          generalize kws.contains s = kc at HX ⊢
          go_wp2_with fail
          go_ret
          exact ⟨ret_bool HX.out.symm, hb⟩
        · have c1 : decide ((s.length : Int) ≤ 24) = false := decide_eq_false (by omega)
          have HX : Hid (r = false) := Lib.hid (by rw [← HR.out, hend, decide_eq_false h24, Bool.and_false, Bool.false_and])
          clear hend h24
          go_wp2_with fail
          go_ret
          exact ⟨ret_bool HX.out.symm, Below.refl _ _⟩
      · have HX : Hid (r = false) := Lib.hid (by rw [← HR.out, hend, h0]; rfl)
        clear hend
        go_wp2_with fail
        go_ret
        exact ⟨ret_bool HX.out.symm, Below.refl _ _⟩

end Go.Proofs.YtegfhjndbnipfaaGreatDoor
