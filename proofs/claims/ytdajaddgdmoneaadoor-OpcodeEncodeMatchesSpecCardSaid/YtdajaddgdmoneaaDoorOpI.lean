/- Walks: the reference's list of instructions. Nothing is claimed here. -/
import Derived.Test.YtdajaddgdmoneaaDoorOpE
import Derived.Test.YtdajaddgdmoneaaDoorOpShelf
namespace Go.Proofs.YtdajaddgdmoneaaDoor
open Go.RowKit
set_option linter.unusedVariables false

def insText : List UInt8 :=
  [99, 111, 110, 115, 116, 58, 107, 32, 112, 111, 112, 58, 99, 32, 112, 105, 99, 107, 58, 100, 32, 114, 111, 108, 108, 58, 100, 32, 108, 111, 97, 100, 58, 112, 118, 32, 115, 
   116, 111, 114, 101, 58, 112, 118, 32, 100, 101, 108, 101, 116, 101, 58, 112, 118, 32, 102, 111, 114, 103, 101, 116, 58, 112, 118, 32, 114, 101, 102, 58, 108, 32, 97, 116, 
   116, 114, 58, 110, 32, 115, 101, 116, 97, 116, 116, 114, 58, 110, 32, 100, 101, 108, 97, 116, 116, 114, 58, 110, 32, 105, 116, 101, 109, 58, 32, 115, 101, 116, 105, 116, 
   101, 109, 58, 32, 100, 101, 108, 105, 116, 101, 109, 58, 32, 115, 108, 105, 99, 101, 58, 32, 115, 101, 116, 115, 108, 105, 99, 101, 58, 32, 100, 101, 108, 115, 108, 105, 
   99, 101, 58, 32, 117, 110, 97, 114, 121, 58, 117, 32, 98, 105, 110, 97, 114, 121, 58, 98, 32, 97, 117, 103, 109, 101, 110, 116, 58, 98, 32, 99, 111, 109, 112, 97, 114, 
   101, 58, 109, 32, 106, 117, 109, 112, 58, 116, 32, 106, 117, 109, 112, 116, 114, 117, 101, 58, 116, 32, 106, 117, 109, 112, 102, 97, 108, 115, 101, 58, 116, 32, 107, 101, 
   101, 112, 116, 114, 117, 101, 58, 116, 32, 107, 101, 101, 112, 102, 97, 108, 115, 101, 58, 116, 32, 116, 117, 112, 108, 101, 58, 99, 32, 108, 105, 115, 116, 58, 99, 32, 
   115, 101, 116, 58, 99, 32, 100, 105, 99, 116, 58, 99, 32, 98, 117, 105, 108, 100, 58, 32, 97, 100, 100, 58, 100, 32, 97, 100, 100, 97, 108, 108, 58, 100, 32, 97, 100, 100, 
   112, 97, 105, 114, 58, 100, 32, 97, 100, 100, 112, 97, 105, 114, 115, 58, 100, 32, 102, 105, 110, 105, 115, 104, 58, 121, 32, 97, 114, 103, 115, 58, 32, 97, 114, 103, 58, 
   32, 97, 114, 103, 115, 116, 97, 114, 58, 32, 97, 114, 103, 110, 97, 109, 101, 100, 58, 110, 32, 97, 114, 103, 112, 97, 105, 114, 115, 58, 32, 99, 97, 108, 108, 58, 32, 99, 
   97, 108, 108, 119, 105, 116, 104, 58, 99, 32, 102, 117, 110, 99, 116, 105, 111, 110, 58, 111, 99, 32, 99, 108, 97, 115, 115, 58, 111, 32, 105, 116, 101, 114, 58, 32, 110, 
   101, 120, 116, 58, 116, 32, 108, 111, 111, 112, 58, 32, 117, 110, 112, 97, 99, 107, 58, 99, 32, 117, 110, 112, 97, 99, 107, 97, 108, 108, 58, 99, 99, 32, 102, 111, 114, 
   109, 97, 116, 58, 120, 110, 32, 106, 111, 105, 110, 58, 99, 32, 105, 109, 112, 111, 114, 116, 58, 110, 32, 102, 114, 111, 109, 58, 110, 32, 119, 105, 116, 104, 58, 32, 
   108, 101, 97, 118, 101, 58, 32, 114, 97, 105, 115, 101, 58, 50, 32, 102, 97, 105, 108, 58, 49, 32, 109, 97, 116, 99, 104, 58, 97, 32, 104, 97, 110, 100, 108, 101, 58, 32, 
   117, 110, 104, 97, 110, 100, 108, 101, 58, 32, 109, 97, 116, 99, 104, 101, 115, 58, 32, 97, 103, 97, 105, 110, 58, 32, 112, 101, 110, 100, 58, 102, 32, 112, 101, 110, 100, 
   114, 97, 105, 115, 101, 58, 102, 32, 114, 111, 117, 116, 101, 58, 114, 32, 101, 110, 100, 58, 102, 32, 114, 101, 116, 117, 114, 110, 58, 32, 121, 105, 101, 108, 100, 58, 
   32, 100, 101, 108, 101, 103, 97, 116, 101, 58, 32, 97, 119, 97, 105, 116, 58, 32, 108, 105, 110, 101, 58, 105, 32, 115, 97, 102, 101, 58, 32, 103, 114, 111, 117, 112, 58, 
   32, 112, 97, 114, 116, 58, 32, 114, 97, 105, 115, 101, 100, 58, 32, 117, 110, 103, 114, 111, 117, 112, 58, 32, 115, 117, 112, 101, 114, 58, 108, 32, 114, 101, 115, 116, 
   58, 116]
def insF : List (List UInt8) :=
  [[99, 111, 110, 115, 116, 58, 107], [112, 111, 112, 58, 99], [112, 105, 99, 107, 58, 100], [114, 111, 108, 108, 58, 100], [108, 111, 97, 100, 58, 112, 118], 
   [115, 116, 111, 114, 101, 58, 112, 118], [100, 101, 108, 101, 116, 101, 58, 112, 118], [102, 111, 114, 103, 101, 116, 58, 112, 118], [114, 101, 102, 58, 108], 
   [97, 116, 116, 114, 58, 110], [115, 101, 116, 97, 116, 116, 114, 58, 110], [100, 101, 108, 97, 116, 116, 114, 58, 110], [105, 116, 101, 109, 58], 
   [115, 101, 116, 105, 116, 101, 109, 58], [100, 101, 108, 105, 116, 101, 109, 58], [115, 108, 105, 99, 101, 58], [115, 101, 116, 115, 108, 105, 99, 101, 58], 
   [100, 101, 108, 115, 108, 105, 99, 101, 58], [117, 110, 97, 114, 121, 58, 117], [98, 105, 110, 97, 114, 121, 58, 98], [97, 117, 103, 109, 101, 110, 116, 58, 98], 
   [99, 111, 109, 112, 97, 114, 101, 58, 109], [106, 117, 109, 112, 58, 116], [106, 117, 109, 112, 116, 114, 117, 101, 58, 116], 
   [106, 117, 109, 112, 102, 97, 108, 115, 101, 58, 116], [107, 101, 101, 112, 116, 114, 117, 101, 58, 116], [107, 101, 101, 112, 102, 97, 108, 115, 101, 58, 116], 
   [116, 117, 112, 108, 101, 58, 99], [108, 105, 115, 116, 58, 99], [115, 101, 116, 58, 99], [100, 105, 99, 116, 58, 99], [98, 117, 105, 108, 100, 58], 
   [97, 100, 100, 58, 100], [97, 100, 100, 97, 108, 108, 58, 100], [97, 100, 100, 112, 97, 105, 114, 58, 100], [97, 100, 100, 112, 97, 105, 114, 115, 58, 100], 
   [102, 105, 110, 105, 115, 104, 58, 121], [97, 114, 103, 115, 58], [97, 114, 103, 58], [97, 114, 103, 115, 116, 97, 114, 58], 
   [97, 114, 103, 110, 97, 109, 101, 100, 58, 110], [97, 114, 103, 112, 97, 105, 114, 115, 58], [99, 97, 108, 108, 58], [99, 97, 108, 108, 119, 105, 116, 104, 58, 99], 
   [102, 117, 110, 99, 116, 105, 111, 110, 58, 111, 99], [99, 108, 97, 115, 115, 58, 111], [105, 116, 101, 114, 58], [110, 101, 120, 116, 58, 116], [108, 111, 111, 112, 58], 
   [117, 110, 112, 97, 99, 107, 58, 99], [117, 110, 112, 97, 99, 107, 97, 108, 108, 58, 99, 99], [102, 111, 114, 109, 97, 116, 58, 120, 110], [106, 111, 105, 110, 58, 99], 
   [105, 109, 112, 111, 114, 116, 58, 110], [102, 114, 111, 109, 58, 110], [119, 105, 116, 104, 58], [108, 101, 97, 118, 101, 58], [114, 97, 105, 115, 101, 58, 50], 
   [102, 97, 105, 108, 58, 49], [109, 97, 116, 99, 104, 58, 97], [104, 97, 110, 100, 108, 101, 58], [117, 110, 104, 97, 110, 100, 108, 101, 58], 
   [109, 97, 116, 99, 104, 101, 115, 58], [97, 103, 97, 105, 110, 58], [112, 101, 110, 100, 58, 102], [112, 101, 110, 100, 114, 97, 105, 115, 101, 58, 102], 
   [114, 111, 117, 116, 101, 58, 114], [101, 110, 100, 58, 102], [114, 101, 116, 117, 114, 110, 58], [121, 105, 101, 108, 100, 58], 
   [100, 101, 108, 101, 103, 97, 116, 101, 58], [97, 119, 97, 105, 116, 58], [108, 105, 110, 101, 58, 105], [115, 97, 102, 101, 58], [103, 114, 111, 117, 112, 58], 
   [112, 97, 114, 116, 58], [114, 97, 105, 115, 101, 100, 58], [117, 110, 103, 114, 111, 117, 112, 58], [115, 117, 112, 101, 114, 58, 108], [114, 101, 115, 116, 58, 116]]

theorem insF_len : insF.length = 80 := by kernel_rfl
theorem ins_fields : Lib.fields insText = insF := by kernel_rfl
theorem ins_ascii : insText.all (fun b => decide (b.toNat < 128)) = true := by kernel_rfl
theorem ins_short : insText.length = 663 := by kernel_rfl
def cutN (s : List UInt8) : List UInt8 := (Lib.cut s [58]).1
def cutO (s : List UInt8) : List UInt8 := (Lib.cut s [58]).2.1
def lettersL : List (List UInt8) := insF.map cutO
theorem ins_names : insF.map cutN = nameL := by kernel_rfl
theorem letters_len : lettersL.length = 80 := by kernel_rfl
theorem ins_letters : lettersL.map List.length = opTab.map (fun e => opn e.2.1 e.2.2) := by kernel_rfl
theorem insF_short : insF.all (fun s => decide (s.length < 100)) = true := by kernel_rfl

/-- what the library's variables hold -/
def Env (w : World) : Prop := Lib.TabIs Tryd.prog w "strings.asciiSpace" .u8 Lib.asciiSpaceTab ∧ (∃ m, w.cell? ⟨2, 0, none⟩ = some (.int .i64 m)) ∧ 2 < w.heap.size
theorem tab_keep {P : Program} {w w' : World} {n : String} {k : IntKind} {zs : List Int} (h : Lib.TabIs P w n k zs) (hb : Below w.heap.size w w') : Lib.TabIs P w' n k zs := by
  unfold Lib.TabIs World.var? at h ⊢
  cases hg : P.globalNamed n with
  | none => rw [hg] at h; simp at h
  | some g =>
    rw [hg] at h
    simp only [Option.bind_some] at h ⊢
    have hlt : g < w.heap.size := by
      rcases Nat.lt_or_ge g w.heap.size with hlt | hge
      · exact hlt
      · rw [Array.getElem?_eq_none hge] at h; simp at h
    rw [hb.block g hlt]
    exact h
theorem Env.keepB {w w' : World} (h : Env w) (hb : Below w.heap.size w w') : Env w' := by
  obtain ⟨h1, ⟨m, h2⟩, h3⟩ := h
  exact ⟨tab_keep h1 hb, ⟨m, (hb.cell (p := ⟨_, 0, none⟩) h3).trans h2⟩, Nat.lt_of_lt_of_le h3 hb.size⟩

theorem fields_lit (s : ByteArray) (w : World) (h : s.data.toList = insText) (he : Env w) :
    Calls Tryd.prog 23 #[.string s] w fun e w' => e = .returned (.slice (some ⟨w.heap.size, 0, none⟩) 80 80) ∧ w' = w.alloc (.cells (strs insF).toArray 9) := by
  have hsz : s.size = 663 := by
    show s.data.size = 663
    rw [← Array.length_toList, h, ins_short]
  have ha : ∀ (j : Nat) b, s.data.toList[j]? = some b → b.toNat < 128 := by
    intro j b hj
    rw [h] at hj
    have := List.all_eq_true.1 ins_ascii b (List.mem_of_getElem? hj)
    simpa using this
  refine (Tryd.strings_Fields s w (by omega) ha he.1).mono ?_
  rintro e w' ⟨rfl, rfl⟩
  rw [h, ins_fields, insF_len]
  exact ⟨rfl, rfl⟩

theorem cut_lit (s : List UInt8) (w : World) (hs : s.length < 100) (he : Env w) :
    Calls Tryd.prog 24 #[.string ⟨s.toArray⟩, .string ⟨#[58]⟩] w fun e w' => e = .returned (.tuple #[.string ⟨(cutN s).toArray⟩, .string ⟨(cutO s).toArray⟩, .bool (Lib.cut s [58]).2.2]) ∧ ∃ n, w' = w.drewN n := by
  obtain ⟨_, ⟨m, h2⟩, _⟩ := he
  have h := Tryd.strings_Cut ⟨s.toArray⟩ ⟨#[58]⟩ m w (by show s.toArray.size < _; simp; omega) h2
  exact h

def InsPost (w : World) (e : Ending) (w' : World) : Prop :=
  ∃ A c A' c', e = .returned (.tuple #[.slice A 80 c, .slice A' 80 c']) ∧ Row w' A (strs nameL) ∧ Row w' A' (strs lettersL) ∧ Below w.heap.size w w'

theorem fields_row (s : ByteArray) (w : World) (h : s.data.toList = insText) (he : Env w) :
    Calls Tryd.prog 23 #[.string s] w fun e w' => ∃ b, e = .returned (.slice (some ⟨b, 0, none⟩) 80 80) ∧ Row w' (some ⟨b, 0, none⟩) (strs insF) ∧ Below w.heap.size w w' := by
  refine (fields_lit s w h he).mono ?_
  rintro e w' ⟨rfl, rfl⟩
  refine ⟨_, rfl, .inr ⟨w.heap.size, 0, rfl, by simp, fun j u hu => ?_⟩, (Below.refl _ _).alloc (Nat.le_refl _) _⟩
  have h := (Blk.new w 9 (strs insF).toArray).cell (0 + j)
  rw [h]
  simpa using hu

theorem Row.strq {w : World} {b0 : Nat} {l : List (List UInt8)} (h : Row w (some ⟨b0, 0, none⟩) (strs l)) {k : Nat} (hk : k < l.length) :
    ∃ s, b0 < w.heap.size ∧ Hid (l[k]? = some s) ∧ w.cell? ⟨b0, k, none⟩ = some (.string ⟨s.toArray⟩) := by
  obtain ⟨b, off, e, hlt, hc⟩ := h.str hk
  injection e with e
  injection e with e1 e2
  subst e1 e2
  rw [Nat.zero_add] at hc
  exact ⟨l[k], hlt, Lib.hid (List.getElem?_eq_getElem hk), hc⟩

theorem own_grown {w w' : World} {base : Nat} {e : TypeId} {size n : Nat} {v : Value} {xs : List Value} {row : Option Nat} (h : w.ownsRow base e size v n xs) (hg : w.grownBy w' row) (hne : ∀ g, v.ownBlock = some g → some g ≠ row) : w'.ownsRow base e size v n xs := by
  refine ⟨h.1, ?_⟩
  rcases h.2 with h2 | ⟨g, cap, cur, hv, hg', hh, r⟩
  · exact Or.inl h2
  · exact Or.inr ⟨g, cap, cur, hv, hg', by rw [hg.block g (Array.getElem?_eq_some_iff.1 hh).1 (hne g (by rw [hv]; rfl))]; exact hh, r⟩

theorem strs_snocq {l : List (List UInt8)} {k : Nat} {s : List UInt8} (h : l[k]? = some s) : strs (l.take (k + 1)) = strs (l.take k) ++ [.string ⟨s.toArray⟩] := by
  obtain ⟨hk, rfl⟩ := List.getElem?_eq_some_iff.1 h
  exact strs_snoc hk
set_option maxHeartbeats 800000 in
set_option maxRecDepth 100000 in
theorem instructions_any (w : World) (he : Env w) : Calls Tryd.prog 10 #[] w (InsPost w) := by
  obtain ⟨i0, hi, hz0, hz1, hz2⟩ := info_parts info_str
  have HE := Lib.hid he
  clear he
  go_enter Tryd.func10, Tryd.ntmps10
  go_wp2_with fail
  refine (fields_row _ w (by kernel_rfl) HE.out).mono ?_
  rintro e w1 ⟨tb, rfl, hrow, hb1⟩
  have HE1 := Lib.hid (HE.out.keepB hb1)
  clear HE
  go_wp2_with fail
  go_loopw [0, 1, 9] (fun v u i wr => ∃ k : Nat, k ≤ 80 ∧ i = .int .i64 k ∧ wr.ownsRow w1.heap.size 9 1 v k (strs (nameL.take k)) ∧ wr.ownsRow w1.heap.size 9 1 u k (strs (lettersL.take k)) ∧ (∀ g, v.ownBlock = some g → u.ownBlock ≠ some g) ∧ Below w1.heap.size w1 wr) (fun _ _ i _ => 80 - (intOf i).toNat)
  case atStart => exact ⟨0, Nat.zero_le _, rfl, World.ownsRow_nil _ _ _ _, World.ownsRow_nil _ _ _ _, by simp [Value.ownBlock], Below.refl _ _⟩
  case round =>
    obtain ⟨k, hk, rfl, hv, hu, hsep, hb0⟩ := hrel
    have HS := Lib.hid hsep
    clear hsep
    by_cases hlt : k < 80
    · obtain ⟨s, hb, hE, h1⟩ := (hrow.keepB hb0).strq (k := k) (by rw [insF_len]; exact hlt)
      have hss : s.length < 100 := by
        have := List.all_eq_true.1 insF_short s (List.mem_of_getElem? hE.out)
        simpa using this
      have hsz := hb0.size
      have EN := Lib.hid (strs_snocq (l := nameL) (k := k) (s := cutN s) (by rw [← ins_names, List.getElem?_map, hE.out]; rfl))
      have EL := Lib.hid (strs_snocq (l := lettersL) (k := k) (s := cutO s) (by rw [lettersL, List.getElem?_map, hE.out]; rfl))
      go_wp2_with fail
      refine (cut_lit s wr hss (HE1.out.keepB hb0)).mono ?_
      rintro e w2 ⟨rfl, n, rfl⟩
      generalize (Lib.cut s [58]).2.2 = found
      have hv' : (wr.drewN n).ownsRow w1.heap.size 9 1 u0 k (strs (nameL.take k)) := hv
      have hu' : (wr.drewN n).ownsRow w1.heap.size 9 1 u1 k (strs (lettersL.take k)) := hu
      have hbd := below_drewN hb0 n
      clear hv hu
      go_wp2_with (first | (at_builtin; have _t := hu2; refine wpList_append_own_at _ rfl (.tmp 23) (.tmp 25) 35 rfl w1.heap.size 9 i0 (.string ByteArray.empty) 1 16 Tryd.underlying35 hi hz0 hz1 hz2 rfl (by decide) u1 k _ rfl (hu2.alloc _) ⟨w3.heap.size, 0, none⟩ 1 1 [.string ⟨(cutO s).toArray⟩] rfl rfl (cell_one_new w3 _ _) (by simp [Value.oneCell']) (by unfold maxLen; omega) (by omega) (by simp; omega) ?_; intro v4 w4 hown4 hg4 _ hat4) | (at_builtin; refine wpList_append_own_at _ rfl (.tmp 19) (.tmp 21) 35 rfl w1.heap.size 9 i0 (.string ByteArray.empty) 1 16 Tryd.underlying35 hi hz0 hz1 hz2 rfl (by decide) u0 k _ rfl (hv'.alloc _) ⟨wr.heap.size, 0, none⟩ 1 1 [.string ⟨(cutN s).toArray⟩] rfl rfl (cell_one_new (wr.drewN n) _ _) (by simp [Value.oneCell']) (by unfold maxLen; omega) (by omega) (by simp; omega) ?_; intro v3 w3 hown3 hg3 _ hat3; have hu2 := own_grown (hu'.alloc _) hg3 (fun g hg e => HS.out g e.symm hg); have hz3 : wr.heap.size + 1 ≤ w3.heap.size := by simpa using hg3.size))
      have hsep3 : ∀ g, v3.ownBlock = some g → u1.ownBlock ≠ some g := by
        intro g hg hg1
        rcases hat3 with h | h
        · exact HS.out g (h.symm.trans hg) hg1
        · have := hu'.lt g hg1
          rw [h] at hg
          injection hg with hg
          simp at hg this
          omega
      have hsep4 : ∀ g, v3.ownBlock = some g → v4.ownBlock ≠ some g := by
        intro g hg hg1
        rcases hat4 with h | h
        · exact hsep3 g hg (h.symm.trans hg1)
        · have := hown3.lt g hg
          rw [h] at hg1
          injection hg1 with hg1
          simp at hg1 this
          omega
      have hown3' := own_grown (hown3.alloc _) hg4 (fun g hg e => hsep3 g hg e.symm)
      have hb3 := (hbd.alloc hbd.size _).grown hg3 (by simp; omega) (fun g e => (hv'.lt g e).1)
      have hb4 := (hb3.alloc hb3.size _).grown hg4 (by simp; omega) (fun g e => (hu'.lt g e).1)
      go_roundw
      case rel =>
        refine ⟨k + 1, by omega, by go_num, ?_, ?_, hsep4, hb4⟩
        · rw [EN.out]; exact hown3'
        · rw [EL.out]; exact hown4
      case measure => simp [intOf]; omega
    · obtain rfl : k = 80 := by omega
      obtain ⟨A, c, rfl, hr, _⟩ := own_form hv
      obtain ⟨A', c', rfl, hr', _⟩ := own_form hu
      go_wp2_with fail
      go_ret2
      exact ⟨A, c, A', c', rfl, hr, hr', below_then hb1 hb0 hb1.size⟩

end Go.Proofs.YtdajaddgdmoneaaDoor
