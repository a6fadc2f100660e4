/- Plain words on tokens: the joined text of a source's tokens has these tokens. Nothing is claimed here. -/
import Derived.Test.YtjoeojdciogcgaaDoorTokB
namespace Go.Proofs.YtjoeojdciogcgaaDoor
open Go.Lib

/-- a text of permitted characters -/
def Txt (l : List UInt8) : Prop := ∃ cs : List (List UInt8), l = cs.flatten ∧ ∀ c ∈ cs, Chr c
theorem Txt.nil : Txt [] := ⟨[], rfl, by simp⟩
theorem Txt.append {a b : List UInt8} (h : Txt a) (k : Txt b) : Txt (a ++ b) := by
  obtain ⟨cs, rfl, hc⟩ := h
  obtain ⟨ds, rfl, hd⟩ := k
  refine ⟨cs ++ ds, by simp, fun c hm => ?_⟩
  rcases List.mem_append.1 hm with h | h
  · exact hc c h
  · exact hd c h
theorem Chr.txt {c : List UInt8} (h : Chr c) : Txt c := ⟨[c], by simp, by simpa using h⟩
theorem Chr.asc (x : UInt8) (h : x.toNat < 128) (h2 : 32 ≤ x.toNat ∨ x.toNat = 10) : Chr [x] := by
  refine chr_mk [x] x.toNat (by simp) (fun t => ?_) (by omega) (by omega) (by rw [bAt_zero]; omega) (fun j h1 h2 => by simp at h2; omega) (fun _ => by simp)
  rw [decodeL_eq, List.singleton_append, bAt_zero]
  unfold decodeN
  rw [if_pos h]
  rfl
theorem Txt.spaces (n : Nat) : Txt (List.replicate n 32) := by
  induction n with
  | zero => exact Txt.nil
  | succ n ih => rw [List.replicate_succ]; exact Txt.append (a := [32]) (Chr.asc 32 (by decide) (by decide)).txt ih
theorem Txt.line : Txt [10] := (Chr.asc 10 (by decide) (by decide)).txt

theorem ascii_cut {l a b : List UInt8} {x : UInt8} (h : Txt l) (e : l = a ++ x :: b) (hx : x.toNat < 128) : Txt a ∧ Chr [x] ∧ Txt b := by
  obtain ⟨cs, hl, hcs⟩ := h
  have hlen : cs.flatten.length = a.length + 1 + b.length := by rw [← hl, e]; simp; omega
  have hb : bAt cs.flatten a.length = x.toNat := by rw [← hl, e]; simp [bAt, List.getD]
  obtain ⟨k, hk, hk2⟩ := start_chars cs a.length hcs (by omega) (fun _ => by rw [hb]; omega)
  have ha : a = (cs.take k).flatten := by
    rw [← take_flatten, ← hk2, ← hl, e]
    simp
  have hrest : (cs.drop k).flatten = x :: b := by
    have h1 : (cs.take k).flatten ++ (cs.drop k).flatten = a ++ x :: b := by rw [← List.flatten_append, List.take_append_drop, ← hl, e]
    rw [← ha] at h1
    exact List.append_cancel_left h1
  refine ⟨⟨cs.take k, ha, fun c hc => hcs c (List.mem_of_mem_take hc)⟩, ?_⟩
  cases hd : cs.drop k with
  | nil => rw [hd] at hrest; simp at hrest
  | cons c ds =>
    have hmem : ∀ d ∈ c :: ds, Chr d := fun d hdm => hcs d (List.mem_of_mem_drop (by rw [hd]; exact hdm))
    have hc := hmem c (List.mem_cons_self ..)
    rw [hd, List.flatten_cons] at hrest
    cases c with
    | nil => have := hc.pos; simp at this
    | cons y c =>
      rw [List.cons_append] at hrest
      injection hrest with h1 h2
      subst h1
      rcases hc.shape with ⟨z, hz⟩ | hbig
      · injection hz with h3 h4
        subst h4
        refine ⟨hc, ⟨ds, ?_, fun d hdm => hmem d (List.mem_cons_of_mem _ hdm)⟩⟩
        rw [← h2, List.nil_append]
      · have := hbig 0 (by simp)
        rw [bAt_zero] at this
        omega
/-- a part that begins and ends with an ASCII byte -/
theorem Txt.part {l : List UInt8} (h : Txt l) (i n : Nat) (he : Ends (l.drop i) n) : Txt ((l.drop i).take n) := by
  obtain ⟨h1, h2, h3, h4⟩ := he
  have hn : n - 1 < (l.drop i).length := by omega
  rw [List.length_drop] at h2
  have hi : i < l.length := by omega
  have e1 : l = l.take i ++ l[i] :: l.drop (i + 1) := by rw [← List.drop_eq_getElem_cons hi, List.take_append_drop]
  have h3' : l[i].toNat < 128 := by
    rw [at0_drop, Nat.add_zero, at0_lt l i hi] at h3
    exact h3
  obtain ⟨_, c1, c2⟩ := ascii_cut h e1 h3'
  have hd : Txt (l.drop i) := by
    rw [List.drop_eq_getElem_cons hi]
    exact Txt.append (a := [l[i]]) c1.txt c2
  generalize l.drop i = r at *
  have e2 : r = r.take (n - 1) ++ r[n - 1] :: r.drop n := by
    have h5 : r.drop n = r.drop (n - 1 + 1) := by congr 1; omega
    rw [h5, ← List.drop_eq_getElem_cons hn, List.take_append_drop]
  obtain ⟨d1, d2, _⟩ := ascii_cut hd e2 (by rw [at0_lt r _ hn] at h4; exact h4)
  have e3 : r.take n = r.take (n - 1) ++ [r[n - 1]] := by
    rw [← List.take_succ_eq_append_getElem hn]
    congr 1
    omega
  rw [e3]
  exact d1.append d2.txt

def kt (t : Tok) : Int × List UInt8 := (t.kind, t.text)
/-- a token with a text -/
structure TokOk (k : Int) (t : List UInt8) : Prop where
  again : Again k t
  txt : Txt t
  lo : 4 ≤ k
  hi : k ≤ 8
  pos : 0 < t.length
  h32 : at0 t 0 ≠ 32
  h35 : at0 t 0 ≠ 35
  h10 : at0 t 0 ≠ 10
/-- the brackets behind a token -/
def brK (k : Int) (t op : List UInt8) : Option (List UInt8) := if k = 8 then bracket op t else some op
/-- the tokens that can follow: how many indentations and which brackets are open, and whether the line has no token yet -/
inductive Good : Nat → List UInt8 → Bool → List (Int × List UInt8) → Prop where
  | last (d : Nat) : Good d [] true (List.replicate d (3, []) ++ [(0, [])])
  | line (d : Nat) (ts : List (Int × List UInt8)) (h : Good d [] true ts) : Good d [] false ((1, []) :: ts)
  | deeper (d : Nat) (k : Int) (t op : List UInt8) (ts : List (Int × List UInt8)) (ht : TokOk k t) (hb : brK k t [] = some op) (h : Good (d + 1) op false ts) : Good d [] true ((2, []) :: (k, t) :: ts)
  | back (d m : Nat) (k : Int) (t op : List UInt8) (ts : List (Int × List UInt8)) (hm : m ≤ d) (ht : TokOk k t) (hb : brK k t [] = some op) (h : Good (d - m) op false ts) : Good d [] true (List.replicate m (3, []) ++ (k, t) :: ts)
  | tok (d : Nat) (k : Int) (t op op' : List UInt8) (ts : List (Int × List UInt8)) (ht : TokOk k t) (hb : brK k t op = some op') (h : Good d op' false ts) : Good d op false ((k, t) :: ts)

/-- the text that is joined of tokens -/
def jt : Int → Bool → List (Int × List UInt8) → List UInt8
  | _, _, [] => []
  | lv, fr, (k, t) :: ts =>
    if k = 2 then jt (lv + 1) fr ts
    else if k = 3 then jt (lv - 1) fr ts
    else if k = 1 then 10 :: jt lv true ts
    else if k = 0 then jt lv fr ts
    else (if fr then List.replicate (2 * lv.toNat) 32 else [32]) ++ (t ++ jt lv false ts)
theorem jt_ded (fr : Bool) (ts : List (Int × List UInt8)) : ∀ (m : Nat) (lv : Int), jt lv fr (List.replicate m (3, []) ++ ts) = jt (lv - m) fr ts
  | 0, lv => by simp
  | m + 1, lv => by
    rw [List.replicate_succ, List.cons_append]
    conv => lhs; unfold jt
    rw [if_neg (by omega), if_pos rfl, jt_ded fr ts m (lv - 1)]
    congr 1
    omega
theorem jt_tok (lv : Int) (fr : Bool) (k : Int) (t : List UInt8) (ts : List (Int × List UInt8)) (h : 4 ≤ k) : jt lv fr ((k, t) :: ts) = (if fr then List.replicate (2 * lv.toNat) 32 else [32]) ++ (t ++ jt lv false ts) := by
  conv => lhs; unfold jt
  rw [if_neg (by omega), if_neg (by omega), if_neg (by omega), if_neg (by omega)]
theorem jt_line (lv : Int) (fr : Bool) (t : List UInt8) (ts : List (Int × List UInt8)) : jt lv fr ((1, t) :: ts) = 10 :: jt lv true ts := by
  conv => lhs; unfold jt
  rw [if_neg (by omega), if_neg (by omega), if_pos rfl]
theorem jt_in (lv : Int) (fr : Bool) (t : List UInt8) (ts : List (Int × List UInt8)) : jt lv fr ((2, t) :: ts) = jt (lv + 1) fr ts := by
  conv => lhs; unfold jt
  rw [if_pos rfl]
theorem jt_end (lv : Int) (fr : Bool) : jt lv fr [(0, [])] = [] := by simp [jt]

theorem Good.sep {d : Nat} {op : List UInt8} {fr : Bool} {ts : List (Int × List UInt8)} (h : Good d op fr ts) (hf : fr = false) (lv : Int) : ∃ c r, jt lv false ts = c :: r ∧ isSep c := by
  cases h with
  | last => simp at hf
  | line _ ts _ => exact ⟨10, _, jt_line lv false [] ts, .inr rfl⟩
  | deeper => simp at hf
  | back => simp at hf
  | tok _ k t _ _ ts ht _ _ =>
    rw [jt_tok lv false k t ts ht.lo]
    exact ⟨32, t ++ jt lv false ts, rfl, .inl rfl⟩
theorem Good.txt {d : Nat} {op : List UInt8} {fr : Bool} {ts : List (Int × List UInt8)} (h : Good d op fr ts) : ∀ lv : Int, Txt (jt lv fr ts) := by
  induction h with
  | last d => intro lv; rw [jt_ded, jt_end]; exact Txt.nil
  | line d ts _ ih => intro lv; rw [jt_line]; exact Txt.append (a := [10]) Txt.line (ih lv)
  | deeper d k t op ts ht _ _ ih => intro lv; rw [jt_in, jt_tok _ _ _ _ _ ht.lo]; exact (Txt.spaces _).append (ht.txt.append (ih _))
  | back d m k t op ts _ ht _ _ ih => intro lv; rw [jt_ded, jt_tok _ _ _ _ _ ht.lo]; exact (Txt.spaces _).append (ht.txt.append (ih _))
  | tok d k t op op' ts ht _ _ ih => intro lv; rw [jt_tok _ _ _ _ _ ht.lo]; exact (Txt.spaces 1).append (ht.txt.append (ih _))

theorem skip_none (r : List UInt8) (h : at0 r 0 ≠ 32) (h2 : at0 r 0 ≠ 35) : skipLen r = 0 := by
  have hs : span isBlk r = 0 := by
    cases r with
    | nil => rfl
    | cons c r =>
      have h' : c ≠ 32 := h
      rw [span_cons, if_neg]
      simp [isBlk, h']
  unfold skipLen
  rw [hs, if_neg h2]
theorem skip_spaces (n : Nat) (r : List UInt8) (h : at0 r 0 ≠ 32) (h2 : at0 r 0 ≠ 35) : skipLen (List.replicate n 32 ++ r) = n := by
  have hs : span isBlk (List.replicate n 32 ++ r) = n := by
    induction n with
    | zero =>
      rw [List.replicate_zero, List.nil_append]
      cases r with
      | nil => rfl
      | cons c r =>
        have h' : c ≠ 32 := h
        rw [span_cons, if_neg]
        simp [isBlk, h']
    | succ n ih => rw [List.replicate_succ, List.cons_append, span_cons, ih, if_pos (by decide)]
  unfold skipLen
  rw [hs, if_neg]
  have : at0 (List.replicate n 32 ++ r) n = at0 r 0 := by
    have := at0_right (List.replicate n 32) r 0
    rwa [List.length_replicate] at this
  rw [this]
  exact h2

/-- the indentations of a joined text -/
def inds : Nat → List Nat
  | 0 => [0]
  | d + 1 => 2 * (d + 1) :: inds d
theorem inds_len : ∀ d, (inds d).length = d + 1
  | 0 => rfl
  | d + 1 => by simp [inds, inds_len d]
theorem inds_head (d : Nat) : (inds d).headD 0 = 2 * d := by cases d <;> simp [inds]
theorem inds_mem : ∀ (d e : Nat), e ≤ d → 2 * e ∈ inds d
  | 0, e, h => by simp [inds]; omega
  | d + 1, e, h => by
    unfold inds
    by_cases he : e = d + 1
    · subst he; simp
    · exact List.mem_cons_of_mem _ (inds_mem d e (by omega))
theorem inds_ded : ∀ (d m : Nat), m ≤ d → dedent (2 * (d - m)) (inds d) = (inds (d - m), m)
  | 0, m, h => by
    have : m = 0 := by omega
    subst this
    rfl
  | d + 1, m, h => by
    unfold inds dedent
    by_cases hm : m = 0
    · subst hm
      rw [if_neg (by omega)]
      rfl
    · obtain ⟨m, rfl⟩ : ∃ k, m = k + 1 := ⟨m - 1, by omega⟩
      rw [if_pos (by omega), show d + 1 - (m + 1) = d - m by omega, inds_ded d m (by omega)]
      cases d - m <;> simp [inds]
theorem indent_in (d : Nat) : indent (2 * (d + 1)) (inds d) = some (inds (d + 1), [2]) := by
  unfold indent
  rw [inds_head, if_pos (by omega)]
  rfl
theorem indent_back (d m : Nat) (h : m ≤ d) : indent (2 * (d - m)) (inds d) = some (inds (d - m), List.replicate m 3) := by
  unfold indent
  rw [inds_head, if_neg (by omega), if_pos (by simpa using inds_mem d (d - m) (by omega)), inds_ded d m h]

theorem take_at {u pre t rest : List UInt8} {k : Int} {c : UInt8} {r : List UInt8} (hu : u = pre ++ (t ++ rest)) (ht : TokOk k t) (hr : rest = c :: r) (hc : isSep c) {op op' : List UInt8} (hb : brK k t op = some op') (ind : List Nat) (T : List Tok) (fr : Bool) (a : Nat) :
    takeTok u pre.length ⟨a, ind, op, T, fr⟩ = .more ⟨pre.length + t.length, ind, op', T ++ [tokAt u k t pre.length], fr⟩ := by
  have hd : u.drop pre.length = t ++ rest := by rw [hu, List.drop_left]
  unfold takeTok
  rw [hd, hr, ht.again c r hc]
  simp only [take_left]
  unfold brK at hb
  by_cases hk : k = 8
  · subst hk
    rw [if_pos rfl] at hb
    simp only [hb, if_true]
  · rw [if_neg hk] at hb
    injection hb with hb
    subst hb
    simp only [hk, if_false]

theorem step_at {u : List UInt8} {s : Scn} {i : Nat} (h : s.at_ + skipLen (u.drop s.at_) = i) : stepS u s = stepB u s i := by
  unfold stepS
  rw [h]

theorem scanF_more {l : List UInt8} {f : Nat} {s s' : Scn} (h : stepS l s = .more s') : scanF l (f + 1) s = scanF l f s' := by
  conv => lhs; unfold scanF
  rw [h]
theorem scanF_done {l : List UInt8} {f : Nat} {s : Scn} {t : List Tok} (h : stepS l s = .done t) : scanF l (f + 1) s = .ok t := by
  unfold scanF
  rw [h]

theorem kt_tokAt (l : List UInt8) (k : Int) (t : List UInt8) (i : Nat) : kt (tokAt l k t i) = (k, t) := rfl

/-- a token behind blanks -/
theorem step_tok {u pre t rest : List UInt8} {k : Int} {n : Nat} (hu : u = pre ++ (List.replicate n 32 ++ (t ++ rest))) (ht : TokOk k t) (s : Scn) (hs : s.at_ = pre.length) :
    stepS u s = if s.fresh then (match indent (width u (pre.length + n)) s.ind with
      | none => .fault 17 (pre.length + n)
      | some (ind, ks) => takeTok u (pre.length + n) { s with ind := ind, toks := s.toks ++ ks.map fun k => tokAt u k [] (pre.length + n), fresh := false })
      else takeTok u (pre.length + n) s := by
  have h0 : at0 (t ++ rest) 0 = at0 t 0 := at0_left _ _ _ ht.pos
  have hsk : s.at_ + skipLen (u.drop s.at_) = pre.length + n := by
    rw [hs, hu, List.drop_left, skip_spaces n _ (by rw [h0]; exact ht.h32) (by rw [h0]; exact ht.h35)]
  have hlen : u.length = pre.length + (n + (t.length + rest.length)) := by rw [hu]; simp
  have hpos := ht.pos
  have hat : at0 u (pre.length + n) = at0 t 0 := by
    have : at0 (List.replicate n 32 ++ (t ++ rest)) n = at0 (t ++ rest) 0 := by
      have := at0_right (List.replicate n 32) (t ++ rest) 0
      rwa [List.length_replicate] at this
    rw [hu, at0_right, this, h0]
  rw [step_at hsk]
  unfold stepB
  rw [if_neg (by omega), hat, if_neg ht.h10] <;> rfl

theorem width_pre (u pre x : List UInt8) (hu : u = pre ++ x) : width u pre.length = (tailNl pre).length := by
  unfold width
  rw [hu, List.take_left]

theorem rescan {d : Nat} {op : List UInt8} {fr : Bool} {ts : List (Int × List UInt8)} (h : Good d op fr ts) :
    ∀ (u pre : List UInt8) (T : List Tok) (f : Nat), u = pre ++ jt d fr ts → (fr = true → tailNl pre = []) → (jt d fr ts).length < f →
      ∃ T', scanF u f ⟨pre.length, inds d, op, T, fr⟩ = .ok (T ++ T') ∧ T'.map kt = ts := by
  induction h with
  | last d =>
    intro u pre T f hu hw hf
    obtain ⟨f, rfl⟩ : ∃ g, f = g + 1 := ⟨f - 1, by omega⟩
    rw [jt_ded, jt_end, List.append_nil] at hu
    subst hu
    have hst : stepS u ⟨u.length, inds d, [], T, true⟩ = .done (closing u ⟨u.length, inds d, [], T, true⟩ u.length) := by
      rw [step_at (i := u.length) (by simp [skip_none [] (by decide) (by decide)])]
      unfold stepB
      rw [if_pos (Nat.le_refl _), if_neg (by simp)]
    refine ⟨List.replicate d (tokAt u 3 [] u.length) ++ [tokAt u 0 [] u.length], ?_, ?_⟩
    · rw [scanF_done hst]
      unfold closing
      rw [if_pos rfl, inds_len, Nat.add_sub_cancel, List.append_nil, List.append_assoc]
    · simp [kt_tokAt]
  | line d ts _ ih =>
    intro u pre T f hu hw hf
    obtain ⟨f, rfl⟩ : ∃ g, f = g + 1 := ⟨f - 1, by omega⟩
    rw [jt_line] at hu hf
    have hd : u.drop pre.length = 10 :: jt d true ts := by rw [hu, List.drop_left]
    have hst : stepS u ⟨pre.length, inds d, [], T, false⟩ = .more ⟨pre.length + 1, inds d, [], T ++ [tokAt u 1 [] pre.length], true⟩ := by
      rw [step_at (i := pre.length) (by rw [hd, skip_none _ (by show (10 : UInt8) ≠ 32; decide) (by show (10 : UInt8) ≠ 35; decide)]; rfl)]
      have hlen : u.length = pre.length + ((jt d true ts).length + 1) := by rw [hu]; simp
      have hat : at0 u pre.length = 10 := by rw [hu]; exact at0_next _ _ _
      unfold stepB
      rw [if_neg (by omega), if_pos hat, if_pos ⟨rfl, rfl⟩]
    obtain ⟨T', h1, h2⟩ := ih u (pre ++ [10]) (T ++ [tokAt u 1 [] pre.length]) f (by rw [hu]; simp) (fun _ => tailNl_at pre [] (by simp)) (by simp at hf; omega)
    refine ⟨tokAt u 1 [] pre.length :: T', ?_, by rw [List.map_cons, h2, kt_tokAt]⟩
    rw [scanF_more hst]
    rw [List.length_append, List.length_singleton] at h1
    rw [h1, List.append_assoc]
    rfl
  | deeper d k t op ts ht hb hg ih =>
    intro u pre T f hu hw hf
    obtain ⟨f, rfl⟩ : ∃ g, f = g + 1 := ⟨f - 1, by omega⟩
    rw [jt_in, jt_tok _ _ _ _ _ ht.lo, if_pos rfl, show (((d : Int) + 1).toNat) = d + 1 by omega] at hu hf
    obtain ⟨c, r, hr, hc⟩ := hg.sep rfl ((d : Int) + 1)
    have hst := step_tok hu ht ⟨pre.length, inds d, [], T, true⟩ rfl
    have hpn : (pre ++ List.replicate (2 * (d + 1)) 32).length = pre.length + 2 * (d + 1) := by simp
    have hwd : width u (pre.length + 2 * (d + 1)) = 2 * (d + 1) := by
      rw [← hpn, width_pre u _ (t ++ jt ((d : Int) + 1) false ts) (by rw [hu, List.append_assoc]), tailNl_more _ _ (by simp), hw rfl]
      simp
    rw [hwd, if_pos rfl] at hst
    simp only [indent_in] at hst
    rw [← hpn, take_at (u := u) (pre := pre ++ List.replicate (2 * (d + 1)) 32) (by rw [hu, List.append_assoc]) ht hr hc hb] at hst
    obtain ⟨T', h1, h2⟩ := ih u (pre ++ List.replicate (2 * (d + 1)) 32 ++ t) (T ++ [2].map (fun k => tokAt u k [] (pre ++ List.replicate (2 * (d + 1)) 32).length) ++ [tokAt u k t (pre ++ List.replicate (2 * (d + 1)) 32).length]) f (by rw [hu]; simp) (by simp) (by simp at hf ⊢; omega)
    rw [scanF_more hst]
    rw [List.length_append] at h1
    refine ⟨tokAt u 2 [] (pre ++ List.replicate (2 * (d + 1)) 32).length :: tokAt u k t (pre ++ List.replicate (2 * (d + 1)) 32).length :: T', ?_, ?_⟩
    · rw [h1]
      simp
    · simp [kt_tokAt, h2]
  | back d m k t op ts hm ht hb hg ih =>
    intro u pre T f hu hw hf
    obtain ⟨f, rfl⟩ : ∃ g, f = g + 1 := ⟨f - 1, by omega⟩
    have hlv : ((d : Int) - m) = ((d - m : Nat) : Int) := by omega
    rw [jt_ded, jt_tok _ _ _ _ _ ht.lo, if_pos rfl, hlv, show (((d - m : Nat) : Int).toNat) = d - m by omega] at hu hf
    obtain ⟨c, r, hr, hc⟩ := hg.sep rfl ((d - m : Nat) : Int)
    have hst := step_tok hu ht ⟨pre.length, inds d, [], T, true⟩ rfl
    have hpn : (pre ++ List.replicate (2 * (d - m)) 32).length = pre.length + 2 * (d - m) := by simp
    have hwd : width u (pre.length + 2 * (d - m)) = 2 * (d - m) := by
      rw [← hpn, width_pre u _ (t ++ jt ((d - m : Nat) : Int) false ts) (by rw [hu, List.append_assoc]), tailNl_more _ _ (by simp), hw rfl]
      simp
    rw [hwd, if_pos rfl] at hst
    simp only [indent_back d m hm] at hst
    rw [← hpn, take_at (u := u) (pre := pre ++ List.replicate (2 * (d - m)) 32) (by rw [hu, List.append_assoc]) ht hr hc hb] at hst
    obtain ⟨T', h1, h2⟩ := ih u (pre ++ List.replicate (2 * (d - m)) 32 ++ t) (T ++ (List.replicate m 3).map (fun k => tokAt u k [] (pre ++ List.replicate (2 * (d - m)) 32).length) ++ [tokAt u k t (pre ++ List.replicate (2 * (d - m)) 32).length]) f (by rw [hu]; simp) (by simp) (by have := ht.pos; simp at hf ⊢; omega)
    rw [scanF_more hst]
    rw [List.length_append] at h1
    refine ⟨List.replicate m (tokAt u 3 [] (pre ++ List.replicate (2 * (d - m)) 32).length) ++ tokAt u k t (pre ++ List.replicate (2 * (d - m)) 32).length :: T', ?_, ?_⟩
    · rw [h1]
      simp
    · simp [kt_tokAt, h2]
  | tok d k t op op' ts ht hb hg ih =>
    intro u pre T f hu hw hf
    obtain ⟨f, rfl⟩ : ∃ g, f = g + 1 := ⟨f - 1, by omega⟩
    rw [jt_tok _ _ _ _ _ ht.lo] at hu hf
    obtain ⟨c, r, hr, hc⟩ := hg.sep rfl (d : Int)
    have hst := step_tok (n := 1) hu ht ⟨pre.length, inds d, op, T, false⟩ rfl
    have hpn : (pre ++ [32]).length = pre.length + 1 := by simp
    simp only [Bool.false_eq_true, if_false] at hst
    rw [← hpn, take_at (u := u) (pre := pre ++ [32]) (by rw [hu]; simp) ht hr hc hb] at hst
    obtain ⟨T', h1, h2⟩ := ih u (pre ++ [32] ++ t) (T ++ [tokAt u k t (pre ++ [32]).length]) f (by rw [hu]; simp) (by simp) (by simp at hf; omega)
    rw [scanF_more hst]
    rw [List.length_append] at h1
    exact ⟨tokAt u k t (pre ++ [32]).length :: T', by rw [h1]; simp, by simp [kt_tokAt, h2]⟩

end Go.Proofs.YtjoeojdciogcgaaDoor
