/- Walks: shadowed catches. Nothing is claimed here. -/
import Derived.Test.YtionmlkefheocaaCatE
namespace Go.Proofs.Ytionmlkefheocaa
open Go.RowKit
set_option linter.unusedVariables false

theorem findGo_cases (a : Int) : ∀ (l : List Catch) (i : Nat), (findGo a i l = -1 ∧ ∀ c ∈ l, ¬ (c.1 ≤ a ∧ a < c.2.1)) ∨ ∃ j, ∃ h : j < l.length, findGo a i l = (i : Int) + j ∧ l[j].1 ≤ a ∧ a < l[j].2.1
  | [], i => .inl ⟨rfl, by simp⟩
  | c :: l, i => by
    rw [findGo]
    by_cases h : c.1 ≤ a ∧ a < c.2.1
    · rw [if_pos h]
      exact .inr ⟨0, by simp, by simp, by simpa using h.1, by simpa using h.2⟩
    · rw [if_neg h]
      rcases findGo_cases a l (i + 1) with ⟨h1, h2⟩ | ⟨j, hj, h1, h2, h3⟩
      · refine .inl ⟨h1, fun x hx => ?_⟩
        rcases List.mem_cons.1 hx with rfl | hx
        · exact h
        · exact h2 x hx
      · exact .inr ⟨j + 1, by simp; omega, by rw [h1]; omega, by simpa using h2, by simpa using h3⟩
theorem findGo_neg (a : Int) (l : List Catch) : findGo a 0 l = -1 ∨ 0 ≤ findGo a 0 l := by
  rcases findGo_cases a l 0 with h | ⟨j, _, h, _⟩
  · exact .inl h.1
  · exact .inr (by omega)

def covGo (pre : List Catch) : Nat → Int → Bool
  | 0, _ => true
  | m + 1, n => decide (0 ≤ findGo n 0 pre) && covGo pre m (n + 1)
theorem covGo_iff (pre : List Catch) : ∀ (m : Nat) (n : Int), covGo pre m n = true ↔ ∀ x, n ≤ x → x < n + m → 0 ≤ findGo x 0 pre
  | 0, n => by simp [covGo]; intro x h1 h2; omega
  | m + 1, n => by
    rw [covGo, Bool.and_eq_true, decide_eq_true_eq, covGo_iff pre m (n + 1)]
    constructor
    · intro ⟨h1, h2⟩ x hx hx2
      by_cases e : x = n
      · rw [e]; exact h1
      · exact h2 x (by omega) (by omega)
    · intro h
      exact ⟨h n (by omega) (by omega), fun x h1 h2 => h x (by omega) (by omega)⟩
def shB (l : List Catch) (i : Nat) (c : Catch) : Bool := covGo (l.take i) (c.2.1 - c.1).toNat c.1
def shGo (l : List Catch) : Nat → List Catch → List Int
  | _, [] => []
  | i, c :: r => if shB l i c then (i : Int) :: shGo l (i + 1) r else shGo l (i + 1) r

theorem shB_true {l : List Catch} {i : Nat} {c : Catch} (h0 : c.1 < c.2.1) (h : ∀ x, c.1 ≤ x → x < c.2.1 → 0 ≤ findGo x 0 (l.take i)) : shB l i c = true := by
  rw [shB, covGo_iff]
  intro x h1 h2
  exact h x h1 (by omega)
theorem shB_false {l : List Catch} {i : Nat} {c : Catch} {x : Int} (h1 : c.1 ≤ x) (h2 : x < c.2.1) (h : findGo x 0 (l.take i) = -1) : shB l i c = false := by
  cases hs : shB l i c with
  | false => rfl
  | true =>
    rw [shB, covGo_iff] at hs
    have := hs x h1 (by omega)
    omega
theorem shGo_yes {l r : List Catch} {i : Nat} {c : Catch} (h : shB l i c = true) : shGo l i (c :: r) = (i : Int) :: shGo l (i + 1) r := by rw [shGo, if_pos h]
theorem shGo_no {l r : List Catch} {i : Nat} {c : Catch} (h : shB l i c = false) : shGo l i (c :: r) = shGo l (i + 1) r := by rw [shGo, if_neg (by rw [h]; decide)]

theorem info_int : (Try.prog.info? 3).map (fun i => (i.zero, i.size, i.bytes)) = some (some (.int .i64 0), 1, 8) := by kernel_rfl

def boolN : Value → Nat | .bool true => 1 | _ => 0
def atOf (w : World) (g : Nat) : Int := match w.cell? ⟨g, 0, none⟩ with | some (.int _ n) => n | _ => 0
theorem atOf_blk {w : World} {g : Nat} {t : TypeId} {n : Int} (h : Blk w g t #[.int .i64 n]) : atOf w g = n := by
  unfold atOf
  rw [h.cell]
  rfl

theorem Row.take {w : World} {A : Option Addr} {l : List Catch} (h : Row w A (l.flatMap ctc)) (k : Nat) : Row w A ((l.take k).flatMap ctc) := by
  rcases h with h | ⟨b, off, e, hlt, hc⟩
  · left
    have hl : l.length * 4 = 0 := by rw [← flat_len ctc 4 ctc_len, h]; rfl
    have : l = [] := List.eq_nil_of_length_eq_zero (by omega)
    rw [this]; simp
  · refine .inr ⟨b, off, e, hlt, fun j u hu => hc j u ?_⟩
    have e2 : l.flatMap ctc = (l.take k).flatMap ctc ++ (l.drop k).flatMap ctc := by rw [← List.flatMap_append, List.take_append_drop]
    rw [e2, List.getElem?_append_left (List.getElem?_eq_some_iff.1 hu).1]
    exact hu

theorem indexShadowed_at (A : Option Addr) (c g n : Nat) (l : List Catch) (a : Int) (w : World) (hn : Hid (n = l.length)) (hl : l.length ≤ 9223372036854775807) (hm : Row w A (l.flatMap ctc)) (hg : w.cell? ⟨g, 0, none⟩ = some (.int .i64 a)) :
    Calls Try.prog 40 #[.slice A n c, .func (.func 42) #[] #[.pointer (some ⟨g, 0, none⟩)]] w fun e w' => e = .returned (.int .i64 (findGo a 0 l)) ∧ Below w.heap.size w w' := by
  have := hn.out
  subst this
  exact indexShadowed_any A c g l a w hl hm hg

def ShPost (l : List Int) (w : World) (e : Ending) (w' : World) : Prop :=
  ∃ A c, e = .returned (.tuple #[.slice A l.length c, .agg #[.int .i64 0, .int .i64 0]]) ∧ Row w' A (ics l) ∧ Below w.heap.size w w'

def ShRel (l : List Catch) (w : World) (v i : Value) (wr : World) : Prop :=
  ∃ (k : Nat) (d : List Int), k ≤ l.length ∧ i = .int .i64 k ∧ shGo l 0 l = d ++ shGo l k (l.drop k) ∧ d.length ≤ k ∧ wr.ownsRow (w.heap.size + 1) 3 1 v d.length (ics d) ∧ Below w.heap.size w wr ∧ Blk wr w.heap.size 24 #[.int .i64 0, .int .i64 0]

def ShIn (l : List Catch) (k : Nat) (c : Catch) (w : World) (gc : Nat) (d : List Int) (v m : Value) (wr : World) : Prop :=
  ∃ (a : Int) (mv : Bool), m = .bool mv ∧ c.1 ≤ a ∧ a ≤ 60000 ∧ (∀ x, c.1 ≤ x → x < a → x < c.2.1 → 0 ≤ findGo x 0 (l.take k)) ∧ (mv = false → a < c.2.1 ∧ findGo a 0 (l.take k) = -1) ∧
    Blk wr (gc + 1) 3 #[.int .i64 a] ∧ Blk wr gc 51 #[.int .i64 c.1, .int .i64 c.2.1, .int .i64 c.2.2.1, .int .i64 c.2.2.2] ∧ wr.ownsRow (w.heap.size + 1) 3 1 v d.length (ics d) ∧ (∀ g, gc ≤ g → some g ≠ v.ownBlock) ∧ Below w.heap.size w wr ∧ Blk wr w.heap.size 24 #[.int .i64 0, .int .i64 0]

set_option maxHeartbeats 2000000 in
theorem shadowed_ok (A : Option Addr) (c : Nat) (l : List Catch) (w : World) (hlc : l.length ≤ c) (hm : Row w A (l.flatMap ctc)) (hf : Hid (catchesFault l = (0, 0))) :
    Calls Try.prog 23 #[.slice A l.length c] w (ShPost (shGo l 0 l) w) := by
  obtain ⟨hok, hl⟩ := okC_all hf.out
  have HO := Lib.hid hok
  clear hok
  obtain ⟨i0, hi, hz0, hz1, hz2⟩ := info_parts info_int
  have hB : Blk (w.alloc (.cells #[.int .i64 0, .int .i64 0] 24)) w.heap.size 24 #[.int .i64 0, .int .i64 0] := Blk.new _ _ _
  have HB := Lib.hid hB
  clear hB
  have hm1 : Row (w.alloc (.cells #[.int .i64 0, .int .i64 0] 24)) A (l.flatMap ctc) := hm.keepB ((Below.refl _ _).alloc (Nat.le_refl _) _)
  go_enter Try.func23, Try.ntmps23
  go_wp2_with fail
  refine (checkC_at _ _ _ 0 0 _ (by omega) hm1 hf).mono ?_
  rintro e w' ⟨rfl, hb'⟩
  have hB' := HB.out.belowS hb'
  have hbw : Below w.heap.size w w' := below_then ((Below.refl _ _).alloc (Nat.le_refl _) _) hb' (by simp)
  clear hm1 HB hb'
  go_wp2_with fail
  go_loopw [5, 19] (fun v i wr => ShRel l w v i wr) (fun _ i _ => l.length - (intOf i).toNat)
  case atStart => exact ⟨0, [], Nat.zero_le _, rfl, rfl, by simp, World.ownsRow_nil _ _ _ _, hbw.alloc hbw.size _, hB'.alloc _⟩
  case round =>
    clear hB' hbw
    obtain ⟨k, d, hk, rfl, he, hd, hown, hb0, hB⟩ := hrel
    have He := Lib.hid he
    clear he
    by_cases hlt : k < l.length
    · obtain ⟨bb, off, rfl, had, h1, h2, h3, h4⟩ := (hm.keepB hb0).catch_ hlt
      obtain ⟨o1, o2, o3, _, _, _, _⟩ := HO.out l[k] (List.getElem_mem hlt)
      have hne : ∀ g, wr.heap.size ≤ g → some g ≠ u5.ownBlock := fun g hg e => by have := hown.lt _ e.symm; omega
      have HNE := Lib.hid hne
      clear hne
      obtain ⟨wo, hwo⟩ : ∃ wo : World, wo = wr := ⟨_, rfl⟩
      subst hwo
      have hs0 := hb0.size
      go_wp2_with fail
      have HI := Lib.hid (show ShIn l k l[k] w wo.heap.size d u5 (.bool true) ((wo.alloc (.cells #[.int .i64 l[k].1, .int .i64 l[k].2.1, .int .i64 l[k].2.2.1, .int .i64 l[k].2.2.2] 51)).alloc (.cells #[.int .i64 l[k].1] 3)) from
        ⟨l[k].1, true, rfl, Int.le_refl _, by omega, fun x h1 h2 _ => by omega, by simp, by simpa using Blk.new (wo.alloc (.cells #[.int .i64 l[k].1, .int .i64 l[k].2.1, .int .i64 l[k].2.2.1, .int .i64 l[k].2.2.2] 51)) 3 #[.int .i64 l[k].1], (Blk.new _ _ _).alloc _, (hown.alloc _).alloc _, HNE.out, (hb0.alloc hs0 _).alloc (by simp; omega) _, (hB.alloc _).alloc _⟩)
      clear hown hB h1 h2 h3 h4
      go_loopw [9] (fun m wr => ShIn l k l[k] w wo.heap.size d u5 m wr) (fun m wr => 2 * (60001 - atOf wr (wo.heap.size + 1)).toNat + boolN m)
      case atStart => exact HI.out
      case round =>
        clear HI
        obtain ⟨a, mv, rfl, g1, g2, g3, g4, hA1, hC1, hown1, hne1, hb1, hB1⟩ := hrel
        have G3 := Lib.hid g3
        have G4 := Lib.hid g4
        have HA := Lib.hid (atOf_blk hA1)
        clear g3 g4 hne1
        obtain ⟨s1, s2, s3⟩ := hA1.rules
        obtain ⟨t1, t2, t3⟩ := hC1.rules
        have hs1 := hb1.size
        cases mv
        · obtain ⟨y1, y2⟩ := G4.out rfl
          have Hsh := Lib.hid (shGo_no (r := l.drop (k + 1)) (shB_false g1 y1 y2))
          clear y2
          go_wp2_with fail
          go_roundw
          case rel => exact ⟨k + 1, d, by omega, by go_num, by rw [He.out, drop_cons hlt, Hsh.out], by omega, hown1, hb1, hB1⟩
          case measure => simp [intOf]; omega
        · by_cases hat : a < l[k].2.1
          · have hrow := hm.keepB hb1
            go_wp2_with fail
            refine (indexShadowed_at (some ⟨bb, off, none⟩) c (wo.heap.size + 1) k (l.take k) a _ (by show Hid _; unfold Hid; simp; omega) (by simp; omega) (hrow.take k) (hA1.cell 0)).mono ?_
            rintro e w1 ⟨rfl, hb2⟩
            have hA2 := hA1.belowS hb2
            have hC2 := hC1.belowS hb2
            have hB2 := hB1.belowS hb2
            have hown2 := own_belowS hown1 hb2
            have hb2' := below_then hb1 hb2 hs1
            clear s1 s2 t1 t2 hA1 hC1 hB1 hown1 hb1 hb2
            obtain ⟨s1, s2, s3⟩ := hA2.rules
            rcases findGo_cases a (l.take k) 0 with ⟨hfn, _⟩ | ⟨j, hj, hfj, hj1, hj2⟩
            · rw [hfn]
              have HF := Lib.hid hfn
              clear hfn
              go_wp2_with fail
              go_roundw
              case rel => exact ⟨a, false, rfl, g1, g2, G3.out, fun _ => ⟨hat, HF.out⟩, hA2, hC2, hown2, HNE.out, hb2', hB2⟩
              case measure => rw [HA.out, atOf_blk hA2]; simp [boolN]
            · rw [hfj]
              have hjk : j < l.length := by simp at hj; omega
              simp only [List.getElem_take] at hj1 hj2
              obtain ⟨_, _, ze⟩ : True ∧ True ∧ l[j].2.1 ≤ 60000 := ⟨trivial, trivial, (HO.out l[j] (List.getElem_mem hjk)).2.2.1⟩
              obtain ⟨bb', off', hab, had', h1, h2, h3, h4⟩ := (hm.keepB hb2').catch_ hjk
              obtain ⟨rfl, rfl⟩ : bb = bb' ∧ off = off' := by simpa using hab
              have HF := Lib.hid hfj
              have hj0 : ((0 : Nat) : Int) + (j : Int) = (j : Int) := by omega
              rw [hj0]
              clear hfj hab hrow hj0
              go_wp2_with fail
              go_roundw
              case rel =>
                refine ⟨l[j].2.1, true, rfl, by omega, ze, ?_, by simp, hA2.set_ 0 _, hC2.far (by simp) _, ownsRow_setCell_other hown2 (HNE.out _ (by omega)) _, HNE.out, hb2'.setCell (by simp; omega) _, hB2.far (by simp; omega) _⟩
                intro x h1 h2 h3
                by_cases hxa : x < a
                · exact G3.out x h1 hxa h3
                · have hin : (l.take k)[j] ∈ l.take k := List.getElem_mem hj
                  rcases findGo_cases x (l.take k) 0 with ⟨_, hno⟩ | ⟨j', _, hfj', _⟩
                  · exfalso
                    refine hno _ hin ?_
                    simp only [List.getElem_take]
                    omega
                  · omega
              case measure =>
                rw [HA.out, atOf_blk (hA2.set_ 0 _)]
                simp [boolN]
                omega
          · have hat' : l[k].2.1 ≤ a := by omega
            have Hsh := Lib.hid (shGo_yes (r := l.drop (k + 1)) (shB_true (l := l) (i := k) o2 (fun x h1 h2 => G3.out x h1 (by omega) h2)))
            go_wp2_with (at_builtin; refine wpList_append_row _ rfl (.tmp 50) (.tmp 52) 39 rfl (w.heap.size + 1) 3 i0 (.int .i64 0) 1 8 Try.underlying39 hi hz0 hz1 hz2 rfl (by decide) u5 d.length (ics d) rfl (hown1.alloc _) (some ⟨wr.heap.size, 0, none⟩) 1 1 [.int .i64 k] rfl rfl (Row.new _ _ _) (by simp [Value.oneCell']) (by unfold maxLen; omega) (by omega) (by have := hB1.lt; simp; omega) ?_; intro v3 w3 hown3 hg3 hat3)
            go_roundw
            case rel => exact ⟨k + 1, d ++ [(k : Int)], by omega, by go_num, by rw [He.out, drop_cons hlt, Hsh.out]; simp, by simp; omega, by simpa [ics] using hown3, (hb1.alloc hs1 _).grown hg3 (by simp; omega) (fun g e => by have := hown1.lt g e; omega), (hB1.alloc _).grown hg3 (fun e => by have := hown1.lt _ e.symm; omega)⟩
            case measure => simp [intOf]; omega
    · obtain ⟨Av, cv, rfl, hrow, hc⟩ := own_form hown
      obtain ⟨s1, s2, s3⟩ := hB.rules
      go_wp2_with fail
      refine ret_tmp_blk Try.results23 rfl ((hB.set_ 0 _).set_ 1 _) _ Try.underlying24 rfl (by kernel_rfl) rfl _ rfl ?_
      have e : shGo l 0 l = d := by rw [He.out, List.drop_of_length_le (by omega), shGo, List.append_nil]
      rw [e]
      exact ⟨Av, cv, rfl, Row.of_own (ownsRow_setCell_below (ownsRow_setCell_below hown (a := ⟨w.heap.size, 0, none⟩) (by simp) _) (a := ⟨w.heap.size, 1, none⟩) (by simp) _), (hb0.setCell (Nat.le_refl _) _).setCell (Nat.le_refl _) _⟩

end Go.Proofs.Ytionmlkefheocaa
