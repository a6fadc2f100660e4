/- The reference's Characters and Place: what they compute. Nothing is claimed here. -/
import Derived.Test.YtfocggdplahnbaaDoorRefC
namespace Go.Proofs.YtfocggdplahnbaaDoor
open Go.RowKit Go.Shelf Go.Lib

theorem wid_bound : ∀ (f : Nat) (l : List UInt8) (k : Nat) (n : Int), l.length ≤ f → (widthsF f l)[k]? = some n → n ≤ (l.length : Int) - k
  | 0, l, k, n, _, h => by simp [widthsF] at h
  | f + 1, l, k, n, hf, h => by
    unfold widthsF at h
    split at h
    · simp at h
    · rename_i hne
      have hp := List.length_pos_iff.2 hne
      have hw := width_pos l hne
      have hw2 := decodeL_width_le l hne
      split at h
      · cases k with
        | zero => simp at h; omega
        | succ k =>
          rw [List.getElem?_cons_succ] at h
          have := wid_bound f (l.drop 1) k n (by rw [List.length_drop]; omega) h
          rw [List.length_drop] at this
          omega
      · cases k with
        | zero => simp at h; omega
        | succ k =>
          rw [List.getElem?_cons_succ] at h
          rcases Nat.lt_or_ge k ((decodeL l).2 - 1) with hlt | hge
          · rw [List.getElem?_append_left (by simpa using hlt), List.getElem?_replicate] at h
            simp [hlt] at h
            have hk2 : k + 1 < l.length + 1 := by
              have := (List.getElem?_eq_some_iff.1 (show (List.replicate ((decodeL l).2 - 1) (0 : Int))[k]? = some 0 by rw [List.getElem?_replicate]; simp [hlt])).1
              omega
            omega
          · rw [List.getElem?_append_right (by simpa using hge)] at h
            have := wid_bound f (l.drop (decodeL l).2) _ n (by rw [List.length_drop]; omega) h
            rw [List.length_drop, List.length_replicate] at this
            omega

/-- what is collected from a place on -/
def collect (l : List UInt8) : List Int → Nat → List (List UInt8)
  | [], _ => []
  | n :: ws, k => if 0 < n then (l.drop k).take n.toNat :: collect l ws (k + 1) else collect l ws (k + 1)
theorem collect_zeros (l : List UInt8) : ∀ (m : Nat) (ws : List Int) (k : Nat), collect l (List.replicate m 0 ++ ws) k = collect l ws (k + m)
  | 0, ws, k => by simp
  | m + 1, ws, k => by
    rw [List.replicate_succ, List.cons_append]
    have e : collect l (0 :: (List.replicate m 0 ++ ws)) k = collect l (List.replicate m 0 ++ ws) (k + 1) := by simp [collect]
    rw [e, collect_zeros l m ws (k + 1), show k + 1 + m = k + (m + 1) by omega]

/-- the widths of one character -/
def wof (c : List UInt8) : List Int := (c.length : Int) :: List.replicate (c.length - 1) 0
theorem Chr.bad {c : List UInt8} (h : Chr c) (t : List UInt8) : badL (c ++ t) = false := by
  have h1 := h.ok
  have h2 := h.dec []
  rw [List.append_nil] at h2
  unfold badL at h1 ⊢
  rw [h.dec t, ← h2]
  exact h1
theorem widths_chars : ∀ (f : Nat) (cs : List (List UInt8)), (∀ c ∈ cs, Chr c) → cs.flatten.length ≤ f → widthsF f cs.flatten = cs.flatMap wof
  | 0, [], _, _ => rfl
  | 0, c :: cs, h, hf => by
    have := (h c (List.mem_cons_self ..)).pos
    rw [List.flatten_cons, List.length_append] at hf
    omega
  | f + 1, [], _, _ => by simp [widthsF]
  | f + 1, c :: cs, h, hf => by
    have hc := h c (List.mem_cons_self ..)
    have hp := hc.pos
    rw [List.flatten_cons, List.length_append] at hf
    rw [List.flatten_cons, List.flatMap_cons]
    unfold widthsF
    rw [if_neg (hc.ne _), hc.bad, if_neg (by simp), hc.drop, hc.dec, widths_chars f cs (fun x hx => h x (List.mem_cons_of_mem _ hx)) (by omega)]
    simp [wof]
theorem widths_all (cs : List (List UInt8)) (h : ∀ c ∈ cs, Chr c) : widths cs.flatten = cs.flatMap wof := widths_chars _ cs h (Nat.le_refl _)
theorem collect_chars (l : List UInt8) : ∀ (cs : List (List UInt8)) (k : Nat), (∀ c ∈ cs, Chr c) → l.drop k = cs.flatten → collect l (cs.flatMap wof) k = cs
  | [], _, _, _ => rfl
  | c :: cs, k, h, hl => by
    have hp := (h c (List.mem_cons_self ..)).pos
    rw [List.flatMap_cons]
    unfold wof
    rw [List.cons_append]
    unfold collect
    rw [if_pos (by omega), collect_zeros, hl, List.flatten_cons, Int.toNat_natCast, List.take_left']
    · congr 1
      refine collect_chars l cs _ (fun x hx => h x (List.mem_cons_of_mem _ hx)) ?_
      rw [show k + 1 + (c.length - 1) = k + c.length by omega, ← List.drop_drop, hl, List.flatten_cons, List.drop_left']
      rfl
    · rfl

/-- the loop of Characters -/
def ChI (l : List UInt8) (ws : List Int) (w1 : World) (v i : Value) (wr : World) : Prop :=
  ∃ (k : Nat) (d : List (List UInt8)), i = .int .i64 k ∧ k ≤ l.length ∧ d.length ≤ k ∧ collect l ws 0 = d ++ collect l (ws.drop k) k ∧ wr.ownsRow w1.heap.size 9 1 v d.length (strs d) ∧ Below w1.heap.size w1 wr

set_option maxRecDepth 100000 in
set_option maxHeartbeats 1000000 in
theorem characters_any (cs : List (List UInt8)) (h : ∀ c ∈ cs, Chr c) (w : World) (hl : cs.flatten.length ≤ 16000) (hT : Tabs w) :
    Calls Tryd.prog 27 #[.string ⟨cs.flatten.toArray⟩] w (StrPost cs w) := by
  have HC := Lib.hid (show collect cs.flatten (widths cs.flatten) 0 = cs by rw [widths_all cs h]; exact collect_chars _ cs 0 h rfl)
  have hwl := widths_len cs.flatten
  have hwb := fun k n => wid_bound cs.flatten.length cs.flatten k n (Nat.le_refl _)
  obtain ⟨l, hl0⟩ : ∃ l, cs.flatten = l := ⟨_, rfl⟩
  rw [hl0] at HC hwl hwb hl ⊢
  obtain ⟨ws, hws⟩ : ∃ ws, widths l = ws := ⟨_, rfl⟩
  have hwb' : ∀ (k : Nat) (n : Int), ws[k]? = some n → n ≤ (l.length : Int) - k := by rw [← hws]; exact hwb
  have hn1 : ws.length ≤ l.length := by rw [← hws]; omega
  have hn2 : l.length ≤ ws.length := by rw [← hws]; omega
  have HWB := Lib.hid hwb'
  have HWS := Lib.hid hws
  rw [hws] at HC
  clear hwb hwb' hwl hl0 hws h
  obtain ⟨i0, hi, hz0, hz1, hz2⟩ := info_parts info_str
  go_enter Tryd.func27, Tryd.ntmps27
  go_wp2_with fail
  refine (widths_any l _ hl hT).mono ?_
  rintro e w1 ⟨rfl, hBW, hb1⟩
  rw [HWS.out] at hBW
  go_wp2_with fail
  go_loopw [3, 9] (fun v i wr => ChI l ws w1 v i wr) (fun _ i _ => l.length - (RowKit.intOf i).toNat)
  case atStart => exact ⟨0, [], rfl, Nat.zero_le _, Nat.le_refl _, by simp, World.ownsRow_nil _ _ _ _, Below.refl _ _⟩
  case round =>
    obtain ⟨k, d, rfl, hk, hdl, hco, hown, hb⟩ := hrel
    have HCO := Lib.hid hco
    clear hco
    have hsz := hb.size
    by_cases hlt : k < l.length
    · have hk' : k < ws.length := by omega
      have hc := (hBW.belowS hb).cell k
      rw [show (ics ws).toArray[k]? = some (.int .i64 ws[k]) by simp [ics, hk']] at hc
      have HDR := Lib.hid (List.drop_eq_getElem_cons hk')
      have hbd := HWB.out k ws[k] (by simp [hk'])
      generalize ws[k] = n at *
      by_cases hpos : 0 < n
      · obtain ⟨m, hm⟩ := Int.eq_ofNat_of_zero_le (show 0 ≤ n by omega)
        subst hm
        have hsl := fun W : World => run_slice_string (P := Tryd.prog) (w := W) 9 ⟨l.toArray⟩ .i64 .i64 (k : Int) ((k : Int) + m) Tryd.underlying9 (by omega) (by omega) (by simp [ByteArray.size]; omega)
        simp only [Int.toNat_natCast, show ((k : Int) + m).toNat = k + m by omega] at hsl
        have hex : (⟨l.toArray⟩ : ByteArray).extract k (k + m) = ⟨((l.drop k).take m).toArray⟩ := ba_ext (by rw [extract_data]; simp)
        rw [hex] at hsl
        clear hex
        go_wp2_with (at_builtin; refine wpList_append_own_at _ rfl (.tmp 16) (.tmp 23) 31 rfl w1.heap.size 9 i0 (.string ByteArray.empty) 1 16 Tryd.underlying31 hi hz0 hz1 hz2 rfl (by decide) _ _ _ rfl (hown.alloc _) ⟨wr.heap.size, 0, none⟩ 1 1 [_] rfl rfl (cell_one_new wr _ _) (by simp [Value.oneCell']) (by unfold maxLen; omega) (by omega) (by simp; omega) ?_; intro v2 w2 hown2 hg2 _ hat2)
        have hb2 := (hb.alloc hb.size _).grown hg2 (by simp; omega) (fun g e => by have := hown.lt g e; omega)
        go_wp2_with fail
        go_roundw
        case rel =>
          refine ⟨k + 1, d ++ [(l.drop k).take m], by go_num, by omega, by simp; omega, ?_, ?_, hb2⟩
          · rw [HCO.out, HDR.out]
            conv => lhs; rw [collect]
            rw [if_pos hpos, Int.toNat_natCast]
            simp
          · rw [strs_snoc, List.length_append, List.length_singleton]
            exact hown2
        case measure => simp [RowKit.intOf]; omega
      · go_wp2_with fail
        go_roundw
        case rel =>
          refine ⟨k + 1, d, by go_num, by omega, by omega, ?_, hown, hb⟩
          rw [HCO.out, HDR.out]
          conv => lhs; rw [collect]
          rw [if_neg hpos]
        case measure => simp [RowKit.intOf]; omega
    · obtain rfl : k = l.length := by omega
      have HL := Lib.hid (show cs = d by rw [← HC.out, HCO.out, List.drop_eq_nil_of_le (by omega)]; simp [collect])
      obtain ⟨A, c, rfl, hr, hcc⟩ := own_form hown
      go_wp2_with fail
      go_ret
      exact ⟨A, c, by rw [HL.out]; rfl, by rw [HL.out]; exact hcc, by rw [HL.out]; exact hr, below_then hb1 hb hb1.size⟩

end Go.Proofs.YtfocggdplahnbaaDoor
