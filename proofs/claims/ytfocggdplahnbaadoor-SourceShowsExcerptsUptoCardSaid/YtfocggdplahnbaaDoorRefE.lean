/- The reference's Place and PlaceFault: what they compute. Nothing is claimed here. -/
import Derived.Test.YtfocggdplahnbaaDoorRefD
namespace Go.Proofs.YtfocggdplahnbaaDoor
open Go.RowKit Go.Shelf Go.Lib

theorem flat_index {α : Type} (f : List UInt8 → List α) (hf : ∀ c, 0 < c.length → (f c).length = c.length) : ∀ (cs : List (List UInt8)), (∀ c ∈ cs, Chr c) → ∀ (j : Nat) (hj : j < cs.length) (r : Nat), r < cs[j].length →
    (cs.flatMap f)[(cs.take j).flatten.length + r]? = (f cs[j])[r]?
  | c :: cs, h, 0, _, r, hr => by
    have hc := (h c (List.mem_cons_self ..)).pos
    simp only [List.take_zero, List.flatten_nil, List.length_nil, Nat.zero_add, List.flatMap_cons, List.getElem_cons_zero]
    rw [List.getElem?_append_left (by rw [hf c hc]; exact hr)]
  | c :: cs, h, j + 1, hj, r, hr => by
    have hc := (h c (List.mem_cons_self ..)).pos
    simp only [List.take_succ_cons, List.flatten_cons, List.length_append, List.flatMap_cons, List.getElem_cons_succ]
    rw [List.getElem?_append_right (by rw [hf c hc]; omega), hf c hc, show c.length + (cs.take j).flatten.length + r - c.length = (cs.take j).flatten.length + r by omega]
    exact flat_index f hf cs (fun x hx => h x (List.mem_cons_of_mem _ hx)) j (by simpa using hj) r hr
theorem wof_len (c : List UInt8) (h : 0 < c.length) : (wof c).length = c.length := by simp [wof]; omega
/-- the width at a byte of a character -/
theorem wid_at (cs : List (List UInt8)) (h : ∀ c ∈ cs, Chr c) (j : Nat) (hj : j < cs.length) (r : Nat) (hr : r < cs[j].length) : (widths cs.flatten)[(cs.take j).flatten.length + r]? = some (if r = 0 then (cs[j].length : Int) else 0) := by
  rw [widths_all cs h, flat_index wof wof_len cs h j hj r hr]
  unfold wof
  cases r with
  | zero => rfl
  | succ r => rw [List.getElem?_cons_succ, List.getElem?_replicate]; simp; omega
theorem byte_of (cs : List (List UInt8)) (h : ∀ c ∈ cs, Chr c) (j : Nat) (hj : j < cs.length) (r : Nat) (hr : r < cs[j].length) : bAt cs.flatten ((cs.take j).flatten.length + r) = bAt cs[j] r := by
  have e := flat_index (fun c => c) (fun _ _ => rfl) cs h j hj r hr
  unfold bAt
  rw [List.getD_eq_getElem?_getD, List.getD_eq_getElem?_getD, ← e]
  simp
/-- each byte belongs to a character -/
theorem in_char : ∀ (cs : List (List UInt8)) (n : Nat), n < cs.flatten.length → ∃ j r, ∃ hj : j < cs.length, r < cs[j].length ∧ n = (cs.take j).flatten.length + r
  | [], n, h => by simp at h
  | c :: cs, n, h => by
    rw [List.flatten_cons, List.length_append] at h
    rcases Nat.lt_or_ge n c.length with hlt | hge
    · exact ⟨0, n, by simp, by simpa using hlt, by simp⟩
    · obtain ⟨j, r, hj, hr, e⟩ := in_char cs (n - c.length) (by omega)
      refine ⟨j + 1, r, by simpa using hj, by simpa using hr, ?_⟩
      rw [List.take_succ_cons, List.flatten_cons, List.length_append]
      omega
theorem flat_succ (cs : List (List UInt8)) (j : Nat) (hj : j < cs.length) : (cs.take (j + 1)).flatten.length = (cs.take j).flatten.length + cs[j].length := by
  rw [List.take_succ_eq_append_getElem hj, List.flatten_append, List.length_append]
  simp only [List.flatten_cons, List.flatten_nil, List.append_nil]

/-- the place after some bytes, byte by byte -/
def plF (l : List UInt8) (ws : List Int) : Nat → Int × Int
  | 0 => (1, 1)
  | k + 1 => if bAt l k = 10 then ((plF l ws k).1 + 1, 1) else if 0 < ws[k]?.getD 0 then ((plF l ws k).1, (plF l ws k).2 + 1) else plF l ws k
theorem plF_bound (l : List UInt8) (ws : List Int) : ∀ k, 1 ≤ (plF l ws k).1 ∧ (plF l ws k).1 ≤ k + 1 ∧ 1 ≤ (plF l ws k).2 ∧ (plF l ws k).2 ≤ k + 1
  | 0 => by simp [plF]
  | k + 1 => by
    have := plF_bound l ws k
    unfold plF
    split
    · simp only; omega
    · split
      · simp only; omega
      · omega
theorem nl_byte (c : List UInt8) (h : Chr c) (r : Nat) (hr : r < c.length) : bAt c r = 10 ↔ (c = nlc ∧ r = 0) := by
  constructor
  · intro e
    rcases h.shape with ⟨x, rfl⟩ | h2
    · have : r = 0 := by simp at hr; omega
      subst this
      rw [bAt_zero] at e
      exact ⟨by unfold nlc; congr 1; exact UInt8.toNat_inj.1 (by rw [e]; rfl), rfl⟩
    · have := h2 r hr
      omega
  · rintro ⟨rfl, rfl⟩
    rfl
theorem plF_chars (cs : List (List UInt8)) (h : ∀ c ∈ cs, Chr c) : ∀ j, j ≤ cs.length → plF cs.flatten (widths cs.flatten) (cs.take j).flatten.length = place (cs.take j)
  | 0, _ => by simp [plF, place]
  | j + 1, hj => by
    have hj' : j < cs.length := by omega
    have hc := h cs[j] (List.getElem_mem hj')
    have hp := hc.pos
    have ih := plF_chars cs h j (by omega)
    have e1 : place (cs.take (j + 1)) = step (place (cs.take j)) cs[j] := by unfold place; rw [List.take_succ_eq_append_getElem hj', List.foldl_append]; rfl
    have key : ∀ r, 1 ≤ r → r ≤ cs[j].length → plF cs.flatten (widths cs.flatten) ((cs.take j).flatten.length + r) = step (place (cs.take j)) cs[j] := by
      intro r
      induction r with
      | zero => intro h0; omega
      | succ r ihr =>
        intro _ hr
        have hb := byte_of cs h j hj' r (by omega)
        have hw := wid_at cs h j hj' r (by omega)
        rw [show (cs.take j).flatten.length + (r + 1) = (cs.take j).flatten.length + r + 1 by omega]
        unfold plF
        rw [hb, hw, Option.getD_some]
        rcases Nat.eq_zero_or_pos r with rfl | hrp
        · rw [Nat.add_zero, ih, if_pos rfl]
          unfold step
          by_cases hnl : cs[j] = nlc
          · rw [if_pos ((nl_byte _ hc 0 (by omega)).2 ⟨hnl, rfl⟩), if_pos hnl]
          · rw [if_neg (fun e => hnl ((nl_byte _ hc 0 (by omega)).1 e).1), if_neg hnl, if_pos (by omega)]
        · rw [if_neg (fun e => by have := ((nl_byte _ hc r (by omega)).1 e).2; omega), if_neg (show ¬ r = 0 by omega), if_neg (by omega)]
          exact ihr (by omega) (by omega)
    rw [flat_succ cs j hj', key cs[j].length (by omega) (Nat.le_refl _), e1]

theorem take_len_le (cs : List (List UInt8)) (j : Nat) : (cs.take j).flatten.length ≤ cs.flatten.length := by rw [← take_flatten cs j, List.length_take]; omega

set_option maxRecDepth 100000 in
set_option maxHeartbeats 1000000 in
theorem place_any (cs : List (List UInt8)) (h : ∀ c ∈ cs, Chr c) (j : Nat) (hj : j ≤ cs.length) (o : Int) (ho : o = (((cs.take j).flatten.length : Nat) : Int)) (w : World) (hl : cs.flatten.length ≤ 16000) (hT : Tabs w) :
    Calls Tryd.prog 16 #[.string ⟨cs.flatten.toArray⟩, .int .i64 o] w fun e w' => e = .returned (.tuple #[.int .i64 (place (cs.take j)).1, .int .i64 (place (cs.take j)).2]) ∧ Below w.heap.size w w' := by
  have hpl := plF_chars cs h j hj
  have hole := take_len_le cs j
  have hwl := widths_len cs.flatten
  subst ho
  generalize (cs.take j).flatten.length = m at *
  obtain ⟨l, hl0⟩ : ∃ l, cs.flatten = l := ⟨_, rfl⟩
  rw [hl0] at hpl hwl hl hole ⊢
  obtain ⟨ws, hws⟩ : ∃ ws, widths l = ws := ⟨_, rfl⟩
  rw [hws] at hpl hwl
  have hn1 : ws.length ≤ l.length := by omega
  have hn2 : l.length ≤ ws.length := by omega
  have HWS := Lib.hid hws
  rw [← hpl]
  clear hwl hl0 hws h hpl hj
  go_enter Tryd.func16, Tryd.ntmps16
  go_wp2_with fail
  refine (widths_any l _ hl hT).mono ?_
  rintro e w1 ⟨rfl, hBW, hb1⟩
  rw [HWS.out] at hBW
  go_wp2_with fail
  go_loop [6, 7, 13] (fun a b i => ∃ k : Nat, i = .int .i64 k ∧ k ≤ m ∧ a = .int .i64 (plF l ws k).1 ∧ b = .int .i64 (plF l ws k).2) (fun _ _ i => l.length - (RowKit.intOf i).toNat)
  case atStart => exact ⟨0, rfl, Nat.zero_le _, rfl, rfl⟩
  case round =>
    obtain ⟨k, rfl, hk, rfl, rfl⟩ := hrel
    obtain ⟨u1, u2, u3, u4⟩ := plF_bound l ws k
    by_cases hlt : k < m
    · have hk' : k < ws.length := by omega
      have hkl : k < l.length := by omega
      have hc := hBW.cell k
      rw [show (ics ws).toArray[k]? = some (.int .i64 ws[k]) by simp [ics, hk']] at hc
      have HN := Lib.hid (show plF l ws (k + 1) = if bAt l k = 10 then ((plF l ws k).1 + 1, 1) else if 0 < ws[k] then ((plF l ws k).1, (plF l ws k).2 + 1) else plF l ws k by
        conv => lhs; unfold plF
        simp [hk'])
      have hbt := byte_at l k (by simpa [ByteArray.size] using hkl)
      generalize ws[k] = n at *
      obtain ⟨a, b, hab⟩ : ∃ a b, plF l ws k = (a, b) := ⟨_, _, rfl⟩
      rw [hab] at u1 u2 u3 u4 HN ⊢
      simp only at u1 u2 u3 u4 HN
      clear hab
      have hbl := bAt_lt l k
      generalize bAt l k = xb at *
      have tm : decide ((m : Int) ≤ (k : Int)) = false := decide_eq_false (by omega)
      by_cases hx : xb = 10
      · subst hx
        have HN' := Lib.hid (show plF l ws (k + 1) = (a + 1, 1) by rw [HN.out, if_pos rfl])
        go_wp2_with fail
        go_round
        case rel => exact ⟨k + 1, by go_num, by omega, by rw [HN'.out], by rw [HN'.out]⟩
        case measure => simp [RowKit.intOf]; omega
      · have hxb : ((xb : Int) == 10) = false := by rw [beq_eq_false_iff_ne]; omega
        by_cases hn : 0 < n
        · have HN' := Lib.hid (show plF l ws (k + 1) = (a, b + 1) by rw [HN.out, if_neg hx, if_pos hn])
          clear hx
          go_wp2_with fail
          go_round
          case rel => exact ⟨k + 1, by go_num, by omega, by rw [HN'.out], by rw [HN'.out]⟩
          case measure => simp [RowKit.intOf]; omega
        · have HN' := Lib.hid (show plF l ws (k + 1) = (a, b) by rw [HN.out, if_neg hx, if_neg hn])
          clear hx
          go_wp2_with fail
          go_round
          case rel => exact ⟨k + 1, by go_num, by omega, by rw [HN'.out], by rw [HN'.out]⟩
          case measure => simp [RowKit.intOf]; omega
    · obtain rfl : k = m := by omega
      by_cases hkl : k < l.length
      · have hk' : k < ws.length := by omega
        have hc := hBW.cell k
        rw [show (ics ws).toArray[k]? = some (.int .i64 ws[k]) by simp [ics, hk']] at hc
        generalize ws[k] = n at *
        go_wp2_with fail
        go_ret2
        exact ⟨rfl, hb1⟩
      · go_wp2_with fail
        go_ret2
        exact ⟨rfl, hb1⟩

end Go.Proofs.YtfocggdplahnbaaDoor
