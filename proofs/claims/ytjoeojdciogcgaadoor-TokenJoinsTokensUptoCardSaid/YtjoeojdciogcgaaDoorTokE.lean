/- Plain words on tokens that the walks use: steps of a search, and where lines begin. Nothing is claimed here. -/
import Derived.Test.YtjoeojdciogcgaaDoorTokB
namespace Go.Proofs.YtjoeojdciogcgaaDoor
open Go.Lib

/-- a text of permitted characters -/
def Txt (l : List UInt8) : Prop := ∃ cs : List (List UInt8), l = cs.flatten ∧ ∀ c ∈ cs, Chr c
theorem Txt.nil : Txt [] := ⟨[], rfl, by simp⟩
theorem Txt.append {a b : List UInt8} (h : Txt a) (k : Txt b) : Txt (a ++ b) := by
  obtain ⟨cs, rfl, hc⟩ := h
  obtain ⟨ds, rfl, hd⟩ := k
  refine ⟨cs ++ ds, by simp, fun c hm => ?_⟩
  rcases List.mem_append.1 hm with h | h
  · exact hc c h
  · exact hd c h
theorem Chr.txt {c : List UInt8} (h : Chr c) : Txt c := ⟨[c], by simp, by simpa using h⟩
theorem Chr.asc (x : UInt8) (h : x.toNat < 128) (h2 : 32 ≤ x.toNat ∨ x.toNat = 10) : Chr [x] := by
  refine chr_mk [x] x.toNat (by simp) (fun t => ?_) (by omega) (by omega) (by rw [bAt_zero]; omega) (fun j h1 h2 => by simp at h2; omega) (fun _ => by simp)
  rw [decodeL_eq, List.singleton_append, bAt_zero]
  unfold decodeN
  rw [if_pos h]
  rfl
theorem Txt.spaces (n : Nat) : Txt (List.replicate n 32) := by
  induction n with
  | zero => exact Txt.nil
  | succ n ih => rw [List.replicate_succ]; exact Txt.append (a := [32]) (Chr.asc 32 (by decide) (by decide)).txt ih
theorem Txt.line : Txt [10] := (Chr.asc 10 (by decide) (by decide)).txt

theorem ascii_cut {l a b : List UInt8} {x : UInt8} (h : Txt l) (e : l = a ++ x :: b) (hx : x.toNat < 128) : Txt a ∧ Chr [x] ∧ Txt b := by
  obtain ⟨cs, hl, hcs⟩ := h
  have hlen : cs.flatten.length = a.length + 1 + b.length := by rw [← hl, e]; simp; omega
  have hb : bAt cs.flatten a.length = x.toNat := by rw [← hl, e]; simp [bAt, List.getD]
  obtain ⟨k, hk, hk2⟩ := start_chars cs a.length hcs (by omega) (fun _ => by rw [hb]; omega)
  have ha : a = (cs.take k).flatten := by
    rw [← take_flatten, ← hk2, ← hl, e]
    simp
  have hrest : (cs.drop k).flatten = x :: b := by
    have h1 : (cs.take k).flatten ++ (cs.drop k).flatten = a ++ x :: b := by rw [← List.flatten_append, List.take_append_drop, ← hl, e]
    rw [← ha] at h1
    exact List.append_cancel_left h1
  refine ⟨⟨cs.take k, ha, fun c hc => hcs c (List.mem_of_mem_take hc)⟩, ?_⟩
  cases hd : cs.drop k with
  | nil => rw [hd] at hrest; simp at hrest
  | cons c ds =>
    have hmem : ∀ d ∈ c :: ds, Chr d := fun d hdm => hcs d (List.mem_of_mem_drop (by rw [hd]; exact hdm))
    have hc := hmem c (List.mem_cons_self ..)
    rw [hd, List.flatten_cons] at hrest
    cases c with
    | nil => have := hc.pos; simp at this
    | cons y c =>
      rw [List.cons_append] at hrest
      injection hrest with h1 h2
      subst h1
      rcases hc.shape with ⟨z, hz⟩ | hbig
      · injection hz with h3 h4
        subst h4
        refine ⟨hc, ⟨ds, ?_, fun d hdm => hmem d (List.mem_cons_of_mem _ hdm)⟩⟩
        rw [← h2, List.nil_append]
      · have := hbig 0 (by simp)
        rw [bAt_zero] at this
        omega
/-- a part that begins and ends with an ASCII byte -/
theorem Txt.part {l : List UInt8} (h : Txt l) (i n : Nat) (he : Ends (l.drop i) n) : Txt ((l.drop i).take n) := by
  obtain ⟨h1, h2, h3, h4⟩ := he
  have hn : n - 1 < (l.drop i).length := by omega
  rw [List.length_drop] at h2
  have hi : i < l.length := by omega
  have e1 : l = l.take i ++ l[i] :: l.drop (i + 1) := by rw [← List.drop_eq_getElem_cons hi, List.take_append_drop]
  have h3' : l[i].toNat < 128 := by
    rw [at0_drop, Nat.add_zero, at0_lt l i hi] at h3
    exact h3
  obtain ⟨_, c1, c2⟩ := ascii_cut h e1 h3'
  have hd : Txt (l.drop i) := by
    rw [List.drop_eq_getElem_cons hi]
    exact Txt.append (a := [l[i]]) c1.txt c2
  generalize l.drop i = r at *
  have e2 : r = r.take (n - 1) ++ r[n - 1] :: r.drop n := by
    have h5 : r.drop n = r.drop (n - 1 + 1) := by congr 1; omega
    rw [h5, ← List.drop_eq_getElem_cons hn, List.take_append_drop]
  obtain ⟨d1, d2, _⟩ := ascii_cut hd e2 (by rw [at0_lt r _ hn] at h4; exact h4)
  have e3 : r.take n = r.take (n - 1) ++ [r[n - 1]] := by
    rw [← List.take_succ_eq_append_getElem hn]
    congr 1
    omega
  rw [e3]
  exact d1.append d2.txt

def kt (t : Tok) : Int × List UInt8 := (t.kind, t.text)
/-- a token with a text -/
structure TokOk (k : Int) (t : List UInt8) : Prop where
  again : Again k t
  txt : Txt t
  lo : 4 ≤ k
  hi : k ≤ 8
  pos : 0 < t.length
  h32 : at0 t 0 ≠ 32
  h35 : at0 t 0 ≠ 35
  h10 : at0 t 0 ≠ 10
/-- the brackets behind a token -/
def brK (k : Int) (t op : List UInt8) : Option (List UInt8) := if k = 8 then bracket op t else some op
/-- the tokens that can follow: how many indentations and which brackets are open, and whether the line has no token yet -/
inductive Good : Nat → List UInt8 → Bool → List (Int × List UInt8) → Prop where
  | last (d : Nat) : Good d [] true (List.replicate d (3, []) ++ [(0, [])])
  | line (d : Nat) (ts : List (Int × List UInt8)) (h : Good d [] true ts) : Good d [] false ((1, []) :: ts)
  | deeper (d : Nat) (k : Int) (t op : List UInt8) (ts : List (Int × List UInt8)) (ht : TokOk k t) (hb : brK k t [] = some op) (h : Good (d + 1) op false ts) : Good d [] true ((2, []) :: (k, t) :: ts)
  | back (d m : Nat) (k : Int) (t op : List UInt8) (ts : List (Int × List UInt8)) (hm : m ≤ d) (ht : TokOk k t) (hb : brK k t [] = some op) (h : Good (d - m) op false ts) : Good d [] true (List.replicate m (3, []) ++ (k, t) :: ts)
  | tok (d : Nat) (k : Int) (t op op' : List UInt8) (ts : List (Int × List UInt8)) (ht : TokOk k t) (hb : brK k t op = some op') (h : Good d op' false ts) : Good d op false ((k, t) :: ts)

/-- the text that is joined of tokens -/
def jt : Int → Bool → List (Int × List UInt8) → List UInt8
  | _, _, [] => []
  | lv, fr, (k, t) :: ts =>
    if k = 2 then jt (lv + 1) fr ts
    else if k = 3 then jt (lv - 1) fr ts
    else if k = 1 then 10 :: jt lv true ts
    else if k = 0 then jt lv fr ts
    else (if fr then List.replicate (2 * lv.toNat) 32 else [32]) ++ (t ++ jt lv false ts)
theorem jt_ded (fr : Bool) (ts : List (Int × List UInt8)) : ∀ (m : Nat) (lv : Int), jt lv fr (List.replicate m (3, []) ++ ts) = jt (lv - m) fr ts
  | 0, lv => by simp
  | m + 1, lv => by
    rw [List.replicate_succ, List.cons_append]
    conv => lhs; unfold jt
    rw [if_neg (by omega), if_pos rfl, jt_ded fr ts m (lv - 1)]
    congr 1
    omega
theorem jt_tok (lv : Int) (fr : Bool) (k : Int) (t : List UInt8) (ts : List (Int × List UInt8)) (h : 4 ≤ k) : jt lv fr ((k, t) :: ts) = (if fr then List.replicate (2 * lv.toNat) 32 else [32]) ++ (t ++ jt lv false ts) := by
  conv => lhs; unfold jt
  rw [if_neg (by omega), if_neg (by omega), if_neg (by omega), if_neg (by omega)]
theorem jt_line (lv : Int) (fr : Bool) (t : List UInt8) (ts : List (Int × List UInt8)) : jt lv fr ((1, t) :: ts) = 10 :: jt lv true ts := by
  conv => lhs; unfold jt
  rw [if_neg (by omega), if_neg (by omega), if_pos rfl]
theorem jt_in (lv : Int) (fr : Bool) (t : List UInt8) (ts : List (Int × List UInt8)) : jt lv fr ((2, t) :: ts) = jt (lv + 1) fr ts := by
  conv => lhs; unfold jt
  rw [if_pos rfl]
theorem jt_end (lv : Int) (fr : Bool) : jt lv fr [(0, [])] = [] := by simp [jt]

theorem Good.sep {d : Nat} {op : List UInt8} {fr : Bool} {ts : List (Int × List UInt8)} (h : Good d op fr ts) (hf : fr = false) (lv : Int) : ∃ c r, jt lv false ts = c :: r ∧ isSep c := by
  cases h with
  | last => simp at hf
  | line _ ts _ => exact ⟨10, _, jt_line lv false [] ts, .inr rfl⟩
  | deeper => simp at hf
  | back => simp at hf
  | tok _ k t _ _ ts ht _ _ =>
    rw [jt_tok lv false k t ts ht.lo]
    exact ⟨32, t ++ jt lv false ts, rfl, .inl rfl⟩
theorem Good.txt {d : Nat} {op : List UInt8} {fr : Bool} {ts : List (Int × List UInt8)} (h : Good d op fr ts) : ∀ lv : Int, Txt (jt lv fr ts) := by
  induction h with
  | last d => intro lv; rw [jt_ded, jt_end]; exact Txt.nil
  | line d ts _ ih => intro lv; rw [jt_line]; exact Txt.append (a := [10]) Txt.line (ih lv)
  | deeper d k t op ts ht _ _ ih => intro lv; rw [jt_in, jt_tok _ _ _ _ _ ht.lo]; exact (Txt.spaces _).append (ht.txt.append (ih _))
  | back d m k t op ts _ ht _ _ ih => intro lv; rw [jt_ded, jt_tok _ _ _ _ _ ht.lo]; exact (Txt.spaces _).append (ht.txt.append (ih _))
  | tok d k t op op' ts ht _ _ ih => intro lv; rw [jt_tok _ _ _ _ _ ht.lo]; exact (Txt.spaces 1).append (ht.txt.append (ih _))

theorem skip_none (r : List UInt8) (h : at0 r 0 ≠ 32) (h2 : at0 r 0 ≠ 35) : skipLen r = 0 := by
  have hs : span isBlk r = 0 := by
    cases r with
    | nil => rfl
    | cons c r =>
      have h' : c ≠ 32 := h
      rw [span_cons, if_neg]
      simp [isBlk, h']
  unfold skipLen
  rw [hs, if_neg h2]
theorem skip_spaces (n : Nat) (r : List UInt8) (h : at0 r 0 ≠ 32) (h2 : at0 r 0 ≠ 35) : skipLen (List.replicate n 32 ++ r) = n := by
  have hs : span isBlk (List.replicate n 32 ++ r) = n := by
    induction n with
    | zero =>
      rw [List.replicate_zero, List.nil_append]
      cases r with
      | nil => rfl
      | cons c r =>
        have h' : c ≠ 32 := h
        rw [span_cons, if_neg]
        simp [isBlk, h']
    | succ n ih => rw [List.replicate_succ, List.cons_append, span_cons, ih, if_pos (by decide)]
  unfold skipLen
  rw [hs, if_neg]
  have : at0 (List.replicate n 32 ++ r) n = at0 r 0 := by
    have := at0_right (List.replicate n 32) r 0
    rwa [List.length_replicate] at this
  rw [this]
  exact h2

/-- the indentations of a joined text -/
def inds : Nat → List Nat
  | 0 => [0]
  | d + 1 => 2 * (d + 1) :: inds d
theorem inds_len : ∀ d, (inds d).length = d + 1
  | 0 => rfl
  | d + 1 => by simp [inds, inds_len d]
theorem inds_head (d : Nat) : (inds d).headD 0 = 2 * d := by cases d <;> simp [inds]
theorem inds_mem : ∀ (d e : Nat), e ≤ d → 2 * e ∈ inds d
  | 0, e, h => by simp [inds]; omega
  | d + 1, e, h => by
    unfold inds
    by_cases he : e = d + 1
    · subst he; simp
    · exact List.mem_cons_of_mem _ (inds_mem d e (by omega))
theorem inds_ded : ∀ (d m : Nat), m ≤ d → dedent (2 * (d - m)) (inds d) = (inds (d - m), m)
  | 0, m, h => by
    have : m = 0 := by omega
    subst this
    rfl
  | d + 1, m, h => by
    unfold inds dedent
    by_cases hm : m = 0
    · subst hm
      rw [if_neg (by omega)]
      rfl
    · obtain ⟨m, rfl⟩ : ∃ k, m = k + 1 := ⟨m - 1, by omega⟩
      rw [if_pos (by omega), show d + 1 - (m + 1) = d - m by omega, inds_ded d m (by omega)]
      cases d - m <;> simp [inds]
theorem indent_in (d : Nat) : indent (2 * (d + 1)) (inds d) = some (inds (d + 1), [2]) := by
  unfold indent
  rw [inds_head, if_pos (by omega)]
  rfl
theorem indent_back (d m : Nat) (h : m ≤ d) : indent (2 * (d - m)) (inds d) = some (inds (d - m), List.replicate m 3) := by
  unfold indent
  rw [inds_head, if_neg (by omega), if_pos (by simpa using inds_mem d (d - m) (by omega)), inds_ded d m h]

theorem take_at {u pre t rest : List UInt8} {k : Int} {c : UInt8} {r : List UInt8} (hu : u = pre ++ (t ++ rest)) (ht : TokOk k t) (hr : rest = c :: r) (hc : isSep c) {op op' : List UInt8} (hb : brK k t op = some op') (ind : List Nat) (T : List Tok) (fr : Bool) (a : Nat) :
    takeTok u pre.length ⟨a, ind, op, T, fr⟩ = .more ⟨pre.length + t.length, ind, op', T ++ [tokAt u k t pre.length], fr⟩ := by
  have hd : u.drop pre.length = t ++ rest := by rw [hu, List.drop_left]
  unfold takeTok
  rw [hd, hr, ht.again c r hc]
  simp only [take_left]
  unfold brK at hb
  by_cases hk : k = 8
  · subst hk
    rw [if_pos rfl] at hb
    simp only [hb, if_true]
  · rw [if_neg hk] at hb
    injection hb with hb
    subst hb
    simp only [hk, if_false]

theorem step_at {u : List UInt8} {s : Scn} {i : Nat} (h : s.at_ + skipLen (u.drop s.at_) = i) : stepS u s = stepB u s i := by
  unfold stepS
  rw [h]

theorem scanF_more {l : List UInt8} {f : Nat} {s s' : Scn} (h : stepS l s = .more s') : scanF l (f + 1) s = scanF l f s' := by
  conv => lhs; unfold scanF
  rw [h]
theorem scanF_done {l : List UInt8} {f : Nat} {s : Scn} {t : List Tok} (h : stepS l s = .done t) : scanF l (f + 1) s = .ok t := by
  unfold scanF
  rw [h]

theorem kt_tokAt (l : List UInt8) (k : Int) (t : List UInt8) (i : Nat) : kt (tokAt l k t i) = (k, t) := rfl

/-- a token behind blanks -/
theorem step_tok {u pre t rest : List UInt8} {k : Int} {n : Nat} (hu : u = pre ++ (List.replicate n 32 ++ (t ++ rest))) (ht : TokOk k t) (s : Scn) (hs : s.at_ = pre.length) :
    stepS u s = if s.fresh then (match indent (width u (pre.length + n)) s.ind with
      | none => .fault 17 (pre.length + n)
      | some (ind, ks) => takeTok u (pre.length + n) { s with ind := ind, toks := s.toks ++ ks.map fun k => tokAt u k [] (pre.length + n), fresh := false })
      else takeTok u (pre.length + n) s := by
  have h0 : at0 (t ++ rest) 0 = at0 t 0 := at0_left _ _ _ ht.pos
  have hsk : s.at_ + skipLen (u.drop s.at_) = pre.length + n := by
    rw [hs, hu, List.drop_left, skip_spaces n _ (by rw [h0]; exact ht.h32) (by rw [h0]; exact ht.h35)]
  have hlen : u.length = pre.length + (n + (t.length + rest.length)) := by rw [hu]; simp
  have hpos := ht.pos
  have hat : at0 u (pre.length + n) = at0 t 0 := by
    have : at0 (List.replicate n 32 ++ (t ++ rest)) n = at0 (t ++ rest) 0 := by
      have := at0_right (List.replicate n 32) (t ++ rest) 0
      rwa [List.length_replicate] at this
    rw [hu, at0_right, this, h0]
  rw [step_at hsk]
  unfold stepB
  rw [if_neg (by omega), hat, if_neg ht.h10] <;> rfl

theorem width_pre (u pre x : List UInt8) (hu : u = pre ++ x) : width u pre.length = (tailNl pre).length := by
  unfold width
  rw [hu, List.take_left]

theorem rescan {d : Nat} {op : List UInt8} {fr : Bool} {ts : List (Int × List UInt8)} (h : Good d op fr ts) :
    ∀ (u pre : List UInt8) (T : List Tok) (f : Nat), u = pre ++ jt d fr ts → (fr = true → tailNl pre = []) → (jt d fr ts).length < f →
      ∃ T', scanF u f ⟨pre.length, inds d, op, T, fr⟩ = .ok (T ++ T') ∧ T'.map kt = ts := by
  induction h with
  | last d =>
    intro u pre T f hu hw hf
    obtain ⟨f, rfl⟩ : ∃ g, f = g + 1 := ⟨f - 1, by omega⟩
    rw [jt_ded, jt_end, List.append_nil] at hu
    subst hu
    have hst : stepS u ⟨u.length, inds d, [], T, true⟩ = .done (closing u ⟨u.length, inds d, [], T, true⟩ u.length) := by
      rw [step_at (i := u.length) (by simp [skip_none [] (by decide) (by decide)])]
      unfold stepB
      rw [if_pos (Nat.le_refl _), if_neg (by simp)]
    refine ⟨List.replicate d (tokAt u 3 [] u.length) ++ [tokAt u 0 [] u.length], ?_, ?_⟩
    · rw [scanF_done hst]
      unfold closing
      rw [if_pos rfl, inds_len, Nat.add_sub_cancel, List.append_nil, List.append_assoc]
    · simp [kt_tokAt]
  | line d ts _ ih =>
    intro u pre T f hu hw hf
    obtain ⟨f, rfl⟩ : ∃ g, f = g + 1 := ⟨f - 1, by omega⟩
    rw [jt_line] at hu hf
    have hd : u.drop pre.length = 10 :: jt d true ts := by rw [hu, List.drop_left]
    have hst : stepS u ⟨pre.length, inds d, [], T, false⟩ = .more ⟨pre.length + 1, inds d, [], T ++ [tokAt u 1 [] pre.length], true⟩ := by
      rw [step_at (i := pre.length) (by rw [hd, skip_none _ (by show (10 : UInt8) ≠ 32; decide) (by show (10 : UInt8) ≠ 35; decide)]; rfl)]
      have hlen : u.length = pre.length + ((jt d true ts).length + 1) := by rw [hu]; simp
      have hat : at0 u pre.length = 10 := by rw [hu]; exact at0_next _ _ _
      unfold stepB
      rw [if_neg (by omega), if_pos hat, if_pos ⟨rfl, rfl⟩]
    obtain ⟨T', h1, h2⟩ := ih u (pre ++ [10]) (T ++ [tokAt u 1 [] pre.length]) f (by rw [hu]; simp) (fun _ => tailNl_at pre [] (by simp)) (by simp at hf; omega)
    refine ⟨tokAt u 1 [] pre.length :: T', ?_, by rw [List.map_cons, h2, kt_tokAt]⟩
    rw [scanF_more hst]
    rw [List.length_append, List.length_singleton] at h1
    rw [h1, List.append_assoc]
    rfl
  | deeper d k t op ts ht hb hg ih =>
    intro u pre T f hu hw hf
    obtain ⟨f, rfl⟩ : ∃ g, f = g + 1 := ⟨f - 1, by omega⟩
    rw [jt_in, jt_tok _ _ _ _ _ ht.lo, if_pos rfl, show (((d : Int) + 1).toNat) = d + 1 by omega] at hu hf
    obtain ⟨c, r, hr, hc⟩ := hg.sep rfl ((d : Int) + 1)
    have hst := step_tok hu ht ⟨pre.length, inds d, [], T, true⟩ rfl
    have hpn : (pre ++ List.replicate (2 * (d + 1)) 32).length = pre.length + 2 * (d + 1) := by simp
    have hwd : width u (pre.length + 2 * (d + 1)) = 2 * (d + 1) := by
      rw [← hpn, width_pre u _ (t ++ jt ((d : Int) + 1) false ts) (by rw [hu, List.append_assoc]), tailNl_more _ _ (by simp), hw rfl]
      simp
    rw [hwd, if_pos rfl] at hst
    simp only [indent_in] at hst
    rw [← hpn, take_at (u := u) (pre := pre ++ List.replicate (2 * (d + 1)) 32) (by rw [hu, List.append_assoc]) ht hr hc hb] at hst
    obtain ⟨T', h1, h2⟩ := ih u (pre ++ List.replicate (2 * (d + 1)) 32 ++ t) (T ++ [2].map (fun k => tokAt u k [] (pre ++ List.replicate (2 * (d + 1)) 32).length) ++ [tokAt u k t (pre ++ List.replicate (2 * (d + 1)) 32).length]) f (by rw [hu]; simp) (by simp) (by simp at hf ⊢; omega)
    rw [scanF_more hst]
    rw [List.length_append] at h1
    refine ⟨tokAt u 2 [] (pre ++ List.replicate (2 * (d + 1)) 32).length :: tokAt u k t (pre ++ List.replicate (2 * (d + 1)) 32).length :: T', ?_, ?_⟩
    · rw [h1]
      simp
    · simp [kt_tokAt, h2]
  | back d m k t op ts hm ht hb hg ih =>
    intro u pre T f hu hw hf
    obtain ⟨f, rfl⟩ : ∃ g, f = g + 1 := ⟨f - 1, by omega⟩
    have hlv : ((d : Int) - m) = ((d - m : Nat) : Int) := by omega
    rw [jt_ded, jt_tok _ _ _ _ _ ht.lo, if_pos rfl, hlv, show (((d - m : Nat) : Int).toNat) = d - m by omega] at hu hf
    obtain ⟨c, r, hr, hc⟩ := hg.sep rfl ((d - m : Nat) : Int)
    have hst := step_tok hu ht ⟨pre.length, inds d, [], T, true⟩ rfl
    have hpn : (pre ++ List.replicate (2 * (d - m)) 32).length = pre.length + 2 * (d - m) := by simp
    have hwd : width u (pre.length + 2 * (d - m)) = 2 * (d - m) := by
      rw [← hpn, width_pre u _ (t ++ jt ((d - m : Nat) : Int) false ts) (by rw [hu, List.append_assoc]), tailNl_more _ _ (by simp), hw rfl]
      simp
    rw [hwd, if_pos rfl] at hst
    simp only [indent_back d m hm] at hst
    rw [← hpn, take_at (u := u) (pre := pre ++ List.replicate (2 * (d - m)) 32) (by rw [hu, List.append_assoc]) ht hr hc hb] at hst
    obtain ⟨T', h1, h2⟩ := ih u (pre ++ List.replicate (2 * (d - m)) 32 ++ t) (T ++ (List.replicate m 3).map (fun k => tokAt u k [] (pre ++ List.replicate (2 * (d - m)) 32).length) ++ [tokAt u k t (pre ++ List.replicate (2 * (d - m)) 32).length]) f (by rw [hu]; simp) (by simp) (by have := ht.pos; simp at hf ⊢; omega)
    rw [scanF_more hst]
    rw [List.length_append] at h1
    refine ⟨List.replicate m (tokAt u 3 [] (pre ++ List.replicate (2 * (d - m)) 32).length) ++ tokAt u k t (pre ++ List.replicate (2 * (d - m)) 32).length :: T', ?_, ?_⟩
    · rw [h1]
      simp
    · simp [kt_tokAt, h2]
  | tok d k t op op' ts ht hb hg ih =>
    intro u pre T f hu hw hf
    obtain ⟨f, rfl⟩ : ∃ g, f = g + 1 := ⟨f - 1, by omega⟩
    rw [jt_tok _ _ _ _ _ ht.lo] at hu hf
    obtain ⟨c, r, hr, hc⟩ := hg.sep rfl (d : Int)
    have hst := step_tok (n := 1) hu ht ⟨pre.length, inds d, op, T, false⟩ rfl
    have hpn : (pre ++ [32]).length = pre.length + 1 := by simp
    simp only [Bool.false_eq_true, if_false] at hst
    rw [← hpn, take_at (u := u) (pre := pre ++ [32]) (by rw [hu]; simp) ht hr hc hb] at hst
    obtain ⟨T', h1, h2⟩ := ih u (pre ++ [32] ++ t) (T ++ [tokAt u k t (pre ++ [32]).length]) f (by rw [hu]; simp) (by simp) (by simp at hf; omega)
    rw [scanF_more hst]
    rw [List.length_append] at h1
    exact ⟨tokAt u k t (pre ++ [32]).length :: T', by rw [h1]; simp, by simp [kt_tokAt, h2]⟩

end Go.Proofs.YtjoeojdciogcgaaDoor

namespace Go.Proofs.YtjoeojdciogcgaaDoor
open Go.Lib

theorem dedent_facts (n : Nat) : ∀ ind : List Nat, (dedent n ind).1.length + (dedent n ind).2 = ind.length ∧ (dedent n ind).1.headD 0 ≤ n ∧ (ind.Pairwise (· > ·) → (dedent n ind).1.Pairwise (· > ·)) ∧ (n ∈ ind → (dedent n ind).1 ≠ [])
  | [] => by simp [dedent]
  | x :: l => by
    obtain ⟨h1, h2, h3, h4⟩ := dedent_facts n l
    unfold dedent
    by_cases hx : n < x
    · rw [if_pos hx]
      refine ⟨by simp; omega, h2, fun h => h3 h.of_cons, fun h => h4 ?_⟩
      rcases List.mem_cons.1 h with h | h
      · omega
      · exact h
    · rw [if_neg hx]
      exact ⟨by simp, by simp; omega, fun h => h, fun _ => by simp⟩
theorem desc_len : ∀ (ind : List Nat), ind.Pairwise (· > ·) → ind.length ≤ ind.headD 0 + 1
  | [], _ => by simp
  | [x], _ => by simp
  | x :: y :: l, h => by
    have ih := desc_len (y :: l) h.of_cons
    have hxy : x > y := (List.pairwise_cons.1 h).1 y (by simp)
    simp at ih ⊢
    omega
theorem indent_ok {n : Nat} {ind ind' : List Nat} {ks : List Int} (h : indent n ind = some (ind', ks)) (hne : ind ≠ []) (hd : ind.Pairwise (· > ·)) :
    ind' ≠ [] ∧ ind'.Pairwise (· > ·) ∧ ind'.length ≤ n + 1 ∧ ((ks = [2] ∧ ind'.length = ind.length + 1) ∨ (∃ m, ks = List.replicate m 3 ∧ ind'.length + m = ind.length)) := by
  unfold indent at h
  split at h
  · rename_i hlt
    simp only [Option.some.injEq, Prod.mk.injEq] at h
    obtain ⟨rfl, rfl⟩ := h
    have hp : (n :: ind).Pairwise (· > ·) := by
      refine List.pairwise_cons.2 ⟨fun y hy => ?_, hd⟩
      cases ind with
      | nil => simp at hy
      | cons x l =>
        rcases List.mem_cons.1 hy with rfl | hy
        · exact hlt
        · have := (List.pairwise_cons.1 hd).1 y hy
          simp at hlt
          omega
    exact ⟨by simp, hp, by have := desc_len _ hp; simpa using this, .inl ⟨rfl, rfl⟩⟩
  · split at h
    · rename_i hm
      simp only [Option.some.injEq, Prod.mk.injEq] at h
      obtain ⟨rfl, rfl⟩ := h
      obtain ⟨h1, h2, h3, h4⟩ := dedent_facts n ind
      exact ⟨h4 (by simpa using hm), h3 hd, by have := desc_len _ (h3 hd); omega, .inr ⟨_, rfl, h1⟩⟩
    · simp at h

theorem width_succ (l : List UInt8) (i : Nat) : width l (i + 1) ≤ width l i + 1 := by
  unfold width
  rcases Nat.lt_or_ge i l.length with h | h
  · rw [List.take_succ_eq_append_getElem h]
    by_cases hc : l[i] = 10
    · rw [hc, tailNl_at _ [] (by simp)]
      simp
    · rw [tailNl_more _ _ (by simpa using fun e => hc e.symm), List.length_append]
      simp
  · rw [List.take_of_length_le (by omega), List.take_of_length_le (by omega)]
    omega
theorem width_add (l : List UInt8) (i : Nat) : ∀ n, width l (i + n) ≤ width l i + n
  | 0 => by simp
  | n + 1 => by
    have h1 := width_succ l (i + n)
    have h2 := width_add l i n
    rw [← Nat.add_assoc]
    omega
theorem width_nl (l : List UInt8) (i : Nat) (h : i < l.length) (hc : at0 l i = 10) : width l (i + 1) = 0 := by
  unfold width
  rw [at0_lt l i h] at hc
  rw [List.take_succ_eq_append_getElem h, hc, tailNl_at _ [] (by simp)]
  rfl

theorem skip_spec (r : List UInt8) : skipLen r ≤ r.length ∧ (skipLen r < r.length → at0 r (skipLen r) ≠ 10 → at0 r (skipLen r) ≠ 32 ∧ at0 r (skipLen r) ≠ 35) := by
  have h1 := span_le isBlk r
  have h2 := (span_spec isBlk r).2
  unfold skipLen
  split
  · have h3 := span_le inLn (r.drop (span isBlk r))
    have h4 := (span_spec inLn (r.drop (span isBlk r))).2
    rw [List.length_drop] at h3 h4
    refine ⟨by omega, fun h5 h6 => ?_⟩
    have h7 := h4 (by omega)
    rw [at0_drop] at h7
    exact absurd (by simpa [inLn] using h7) h6
  · rename_i h3
    refine ⟨h1, fun h5 _ => ⟨?_, h3⟩⟩
    have := h2 h5
    simpa [isBlk] using this

/-- what is known of a state of a scan -/
structure Inv (l : List UInt8) (s : Scn) : Prop where
  ne : s.ind ≠ []
  desc : s.ind.Pairwise (· > ·)
  fr : s.fresh = true → s.op = [] ∧ width l s.at_ = 0
  le : s.at_ ≤ l.length

theorem takeTok_ok {l : List UInt8} (hl : Txt l) {i : Nat} {s s' : Scn} (hi : i ≤ l.length) (h32 : at0 l i ≠ 32) (h35 : at0 l i ≠ 35) (h10 : at0 l i ≠ 10) (h : takeTok l i s = .more s') :
    ∃ k t op, TokOk k t ∧ brK k t s.op = some op ∧ i + t.length ≤ l.length ∧ s' = { s with at_ := i + t.length, op := op, toks := s.toks ++ [tokAt l k t i] } := by
  unfold takeTok at h
  split at h
  · simp at h
  · rename_i k n hlex
    obtain ⟨a1, a2, a3, a4, a5⟩ := lex_again _ _ _ hlex
    have hn := a2.2.1
    rw [List.length_drop] at hn
    have hlen : ((l.drop i).take n).length = n := by rw [List.length_take, List.length_drop]; omega
    have h0 : at0 ((l.drop i).take n) 0 = at0 l i := by rw [at0_take _ _ _ a2.1, at0_drop, Nat.add_zero]
    have hok : TokOk k ((l.drop i).take n) := ⟨a1, hl.part i n a2, a3, a4, by rw [hlen]; exact a2.1, by rw [h0]; exact h32, by rw [h0]; exact h35, by rw [h0]; exact h10⟩
    split at h
    · rename_i hk
      subst hk
      split at h
      · simp at h
      · rename_i op hop
        refine ⟨8, _, op, hok, by unfold brK; rw [if_pos rfl]; exact hop, by rw [hlen]; omega, ?_⟩
        rw [hlen]
        injection h with h
        exact h.symm
    · rename_i hk
      refine ⟨k, _, s.op, hok, by unfold brK; rw [if_neg hk], by rw [hlen]; omega, ?_⟩
      rw [hlen]
      injection h with h
      exact h.symm
theorem takeTok_done {l : List UInt8} {i : Nat} {s : Scn} {t : List Tok} : takeTok l i s ≠ .done t := by
  unfold takeTok
  split
  · simp
  · split
    · split <;> simp
    · simp

/-- one step of a scan -/
theorem step_ok {l : List UInt8} (hl : Txt l) {s : Scn} (hs : Inv l s) :
    (∀ t, stepS l s = .done t → ∃ new, t = s.toks ++ new ∧ Good (s.ind.length - 1) s.op s.fresh (new.map kt) ∧ ∀ lv, (jt lv s.fresh (new.map kt)).length ≤ 1) ∧
    (∀ s', stepS l s = .more s' → Inv l s' ∧ s.at_ < s'.at_ ∧ ∃ new, s'.toks = s.toks ++ new ∧ ∀ rest, Good (s'.ind.length - 1) s'.op s'.fresh rest →
      Good (s.ind.length - 1) s.op s.fresh (new.map kt ++ rest) ∧ (jt ((s.ind.length - 1 : Nat) : Int) s.fresh (new.map kt ++ rest)).length + 2 * s.at_ ≤ (jt ((s'.ind.length - 1 : Nat) : Int) s'.fresh rest).length + 2 * s'.at_) := by
  obtain ⟨k1, k2⟩ := skip_spec (l.drop s.at_)
  rw [List.length_drop] at k1 k2
  rw [at0_drop] at k2
  obtain ⟨i, hi⟩ : ∃ i, s.at_ + skipLen (l.drop s.at_) = i := ⟨_, rfl⟩
  have hle := hs.le
  have hst : stepS l s = stepB l s i := step_at hi
  rw [hst]
  have hil : i ≤ l.length := by omega
  rw [hi] at k2
  have hpos : 0 < s.ind.length := List.length_pos_iff.2 hs.ne
  clear hst
  unfold stepB
  by_cases h1 : l.length ≤ i
  · rw [if_pos h1]
    by_cases h2 : s.op ≠ []
    · rw [if_pos h2]
      exact ⟨fun t h => by simp at h, fun s' h => by simp at h⟩
    · rw [if_neg h2]
      have h2' : s.op = [] := by simpa using h2
      refine ⟨fun t h => ?_, fun s' h => by simp at h⟩
      injection h with h
      subst h
      rw [h2']
      have hlast : ∀ d, (List.replicate d (tokAt l 3 [] i) ++ [tokAt l 0 [] i]).map kt = List.replicate d (3, []) ++ [(0, [])] := fun d => by simp [kt_tokAt]
      cases hf : s.fresh with
      | true =>
        refine ⟨List.replicate (s.ind.length - 1) (tokAt l 3 [] i) ++ [tokAt l 0 [] i], by unfold closing; rw [hf]; simp, ?_⟩
        rw [hlast]
        refine ⟨Good.last _, fun lv => ?_⟩
        rw [jt_ded, jt_end]
        simp
      | false =>
        refine ⟨tokAt l 1 [] i :: (List.replicate (s.ind.length - 1) (tokAt l 3 [] i) ++ [tokAt l 0 [] i]), by unfold closing; rw [hf]; simp, ?_⟩
        rw [List.map_cons, hlast, kt_tokAt]
        refine ⟨Good.line _ _ (Good.last _), fun lv => ?_⟩
        rw [jt_line, jt_ded, jt_end]
        simp
  · rw [if_neg h1]
    by_cases h2 : at0 l i = 10
    · rw [if_pos h2]
      have hw := width_nl l i (by omega) h2
      by_cases h3 : s.fresh = false ∧ s.op = []
      · rw [if_pos h3]
        refine ⟨fun t h => by simp at h, fun s' h => ?_⟩
        injection h with h
        subst h
        refine ⟨⟨hs.ne, hs.desc, fun _ => ⟨h3.2, hw⟩, by show i + 1 ≤ _; omega⟩, by show s.at_ < i + 1; omega, [tokAt l 1 [] i], rfl, fun rest hg => ?_⟩
        simp only [h3.1, h3.2] at hg ⊢
        simp only [List.map_cons, List.map_nil, kt_tokAt, List.cons_append, List.nil_append]
        refine ⟨Good.line _ _ hg, ?_⟩
        rw [jt_line]
        simp
        omega
      · rw [if_neg h3]
        refine ⟨fun t h => by simp at h, fun s' h => ?_⟩
        injection h with h
        subst h
        refine ⟨⟨hs.ne, hs.desc, fun hf => ⟨(hs.fr hf).1, hw⟩, by show i + 1 ≤ _; omega⟩, by show s.at_ < i + 1; omega, [], by simp, fun rest hg => ⟨hg, ?_⟩⟩
        simp
        omega
    · rw [if_neg h2]
      obtain ⟨h32, h35⟩ := k2 (by omega) h2
      cases hf : s.fresh with
      | true =>
        rw [if_pos rfl]
        obtain ⟨hop, hw0⟩ := hs.fr hf
        have hwi := width_add l s.at_ (i - s.at_)
        rw [show s.at_ + (i - s.at_) = i by omega, hw0] at hwi
        split
        · exact ⟨fun t h => by simp at h, fun s' h => by simp at h⟩
        · rename_i ind ks hin
          obtain ⟨e1, e2, e3, e4⟩ := indent_ok hin hs.ne hs.desc
          refine ⟨fun t h => absurd h takeTok_done, fun s' h => ?_⟩
          obtain ⟨k, t, op, ht, hb, hlt, rfl⟩ := takeTok_ok hl hil h32 h35 h2 h
          have htp := ht.pos
          have hip : 0 < ind.length := List.length_pos_iff.2 e1
          refine ⟨⟨e1, e2, fun hc => by simp at hc, hlt⟩, by show s.at_ < i + t.length; omega, (ks.map fun k => tokAt l k [] i) ++ [tokAt l k t i], by simp, fun rest hg => ?_⟩
          simp only [hop] at hb ⊢
          rcases e4 with ⟨rfl, e5⟩ | ⟨m, rfl, e5⟩
          · have hg' : Good (s.ind.length - 1 + 1) op false rest := by
              have : ind.length - 1 = s.ind.length - 1 + 1 := by omega
              rw [← this]; exact hg
            simp only [List.map_cons, List.map_nil, kt_tokAt, List.cons_append, List.nil_append]
            refine ⟨Good.deeper _ _ _ _ _ ht hb hg', ?_⟩
            rw [jt_in, jt_tok _ _ _ _ _ ht.lo, if_pos rfl, show ((s.ind.length - 1 : Nat) : Int) + 1 = ((ind.length - 1 : Nat) : Int) by omega, Int.toNat_natCast]
            simp only [List.length_append, List.length_replicate]
            omega
          · have hg' : Good (s.ind.length - 1 - m) op false rest := by
              have : ind.length - 1 = s.ind.length - 1 - m := by omega
              rw [← this]; exact hg
            simp only [List.map_append, List.map_map, List.map_cons, List.map_nil, kt_tokAt, List.append_assoc, List.cons_append, List.nil_append]
            have hm : (List.replicate m (3 : Int)).map (kt ∘ fun k => tokAt l k [] i) = List.replicate m (3, []) := by simp [kt_tokAt]
            rw [hm]
            refine ⟨Good.back _ m _ _ _ _ (by omega) ht hb hg', ?_⟩
            rw [jt_ded, jt_tok _ _ _ _ _ ht.lo, if_pos rfl, show ((s.ind.length - 1 : Nat) : Int) - m = ((ind.length - 1 : Nat) : Int) by omega, Int.toNat_natCast]
            simp only [List.length_append, List.length_replicate]
            omega
      | false =>
        simp only [Bool.false_eq_true, if_false]
        refine ⟨fun t h => absurd h takeTok_done, fun s' h => ?_⟩
        obtain ⟨k, t, op, ht, hb, hlt, rfl⟩ := takeTok_ok hl hil h32 h35 h2 h
        have htp := ht.pos
        refine ⟨⟨hs.ne, hs.desc, fun hc => by simp [hf] at hc, hlt⟩, by show s.at_ < i + t.length; omega, [tokAt l k t i], rfl, fun rest hg => ?_⟩
        simp only [hf] at hg ⊢
        simp only [List.map_cons, List.map_nil, kt_tokAt, List.cons_append, List.nil_append]
        refine ⟨Good.tok _ _ _ _ _ _ ht hb hg, ?_⟩
        rw [jt_tok _ _ _ _ _ ht.lo]
        simp only [Bool.false_eq_true, if_false, List.length_append, List.length_singleton]
        omega

theorem scanF_good {l : List UInt8} (hl : Txt l) : ∀ (f : Nat) (s : Scn) (ts : List Tok), Inv l s → scanF l f s = .ok ts →
    ∃ new, ts = s.toks ++ new ∧ Good (s.ind.length - 1) s.op s.fresh (new.map kt) ∧ (jt ((s.ind.length - 1 : Nat) : Int) s.fresh (new.map kt)).length + 2 * s.at_ ≤ 2 * l.length + 1
  | 0, s, ts, _, h => by simp [scanF] at h
  | f + 1, s, ts, hs, h => by
    obtain ⟨g1, g2⟩ := step_ok hl hs
    unfold scanF at h
    cases hst : stepS l s with
    | done t =>
      rw [hst] at h
      injection h with h
      subst h
      obtain ⟨new, e1, e2, e3⟩ := g1 t hst
      have := hs.le
      exact ⟨new, e1, e2, by have := e3 ((s.ind.length - 1 : Nat) : Int); omega⟩
    | fault c i => rw [hst] at h; simp at h
    | more s' =>
      rw [hst] at h
      obtain ⟨e1, e2, new, e3, e4⟩ := g2 s' hst
      obtain ⟨new', f1, f2, f3⟩ := scanF_good hl f s' ts e1 h
      obtain ⟨f4, f5⟩ := e4 _ f2
      refine ⟨new ++ new', by rw [f1, e3, List.append_assoc], by rw [List.map_append]; exact f4, ?_⟩
      rw [List.map_append]
      omega

/-- what is joined of tokens, with its state -/
structure Jn where
  level : Int
  fresh : Bool
  out : List UInt8
def jstep (s : Jn) (k : Int) (t : List UInt8) : Jn :=
  if k = 2 then { s with level := s.level + 1 }
  else if k = 3 then { s with level := s.level - 1 }
  else if k = 1 then { s with fresh := true, out := s.out ++ [10] }
  else if k = 0 then s
  else { s with fresh := false, out := s.out ++ ((if s.fresh then List.replicate (2 * s.level.toNat) 32 else [32]) ++ t) }
/-- the joined text; none: it is too long -/
def joinF : Jn → List (Int × List UInt8) → Option (List UInt8)
  | s, [] => some s.out
  | s, (k, t) :: ts => if 16000 < (jstep s k t).out.length then none else joinF (jstep s k t) ts
theorem joinF_eq : ∀ (ts : List (Int × List UInt8)) (s : Jn), s.out.length ≤ 16000 → joinF s ts = if 16000 < (s.out ++ jt s.level s.fresh ts).length then none else some (s.out ++ jt s.level s.fresh ts)
  | [], s, h => by
    unfold joinF jt
    rw [List.append_nil, if_neg (by omega)]
  | (k, t) :: ts, s, h => by
    have key : s.out ++ jt s.level s.fresh ((k, t) :: ts) = (jstep s k t).out ++ jt (jstep s k t).level (jstep s k t).fresh ts := by
      conv => lhs; unfold jt
      unfold jstep
      by_cases h2 : k = 2
      · rw [if_pos h2, if_pos h2]
      · rw [if_neg h2, if_neg h2]
        by_cases h3 : k = 3
        · rw [if_pos h3, if_pos h3]
        · rw [if_neg h3, if_neg h3]
          by_cases h1 : k = 1
          · rw [if_pos h1, if_pos h1]
            simp
          · rw [if_neg h1, if_neg h1]
            by_cases h0 : k = 0
            · rw [if_pos h0, if_pos h0]
            · rw [if_neg h0, if_neg h0]
              simp
    unfold joinF
    rw [key]
    by_cases hl : 16000 < (jstep s k t).out.length
    · rw [if_pos hl, if_pos (by rw [List.length_append]; omega)]
    · rw [if_neg hl, joinF_eq ts _ (by omega)]

def joined (ts : List (Int × List UInt8)) : Option (List UInt8) := joinF ⟨0, true, []⟩ ts
/-- a source's tokens are joined to a text that has them, or the source is long -/
theorem scanned_again (l : List UInt8) (ts : List Tok) (h : scanT l = .ok ts) :
    match joined (ts.map kt) with
    | none => 800 < l.length
    | some u => u.length ≤ 16000 ∧ ∃ ms, scanT u = .ok ms ∧ ms.map kt = ts.map kt := by
  unfold scanT at h
  split at h
  · simp at h
  · rename_i hz
    obtain ⟨hle, cs, hcs⟩ := chars_of l (by simpa using hz)
    obtain ⟨new, e1, e2, e3⟩ := scanF_good (l := l) ⟨cs, hcs⟩ _ _ _ ⟨by simp, by simp, fun _ => ⟨rfl, rfl⟩, Nat.zero_le _⟩ h
    simp only [List.nil_append] at e1
    subst e1
    unfold joined
    rw [joinF_eq _ _ (by simp)]
    simp only [List.nil_append]
    simp only [List.length_singleton, Nat.sub_self] at e2 e3
    change (jt 0 true (ts.map kt)).length + _ ≤ _ at e3
    by_cases hlong : 16000 < (jt 0 true (ts.map kt)).length
    · rw [if_pos hlong]
      show 800 < l.length
      omega
    · rw [if_neg hlong]
      refine ⟨by omega, ?_⟩
      obtain ⟨T', r1, r2⟩ := rescan e2 (jt 0 true (ts.map kt)) [] [] ((jt 0 true (ts.map kt)).length + 1) rfl (fun _ => rfl) (by show _ < _; exact Nat.lt_succ_self _)
      refine ⟨T', ?_, r2⟩
      obtain ⟨ds, hd1, hd2⟩ := e2.txt 0
      unfold scanT
      rw [hd1, sfault_chars ds hd2 (by rw [← hd1]; omega), ← hd1, if_neg (by simp)]
      exact r1

end Go.Proofs.YtjoeojdciogcgaaDoor

namespace Go.Proofs.YtjoeojdciogcgaaDoor
open Go.Lib

theorem drop_at (l : List UInt8) (j : Nat) (h : j < l.length) : l.drop j = at0 l j :: l.drop (j + 1) := by
  rw [at0_lt l j h, List.drop_eq_getElem_cons h]
theorem span_at (p : UInt8 → Bool) (l : List UInt8) (j : Nat) (h : j < l.length) : span p (l.drop j) = if p (at0 l j) then span p (l.drop (j + 1)) + 1 else 0 := by
  rw [drop_at l j h, span_cons]
theorem span_end (p : UInt8 → Bool) (l : List UInt8) (j : Nat) (h : l.length ≤ j) : span p (l.drop j) = 0 := by
  rw [List.drop_of_length_le h]
  rfl
theorem span_drop_le (p : UInt8 → Bool) (l : List UInt8) (j : Nat) (h : j ≤ l.length) : j + span p (l.drop j) ≤ l.length := by
  have := span_le p (l.drop j)
  rw [List.length_drop] at this
  omega

theorem prefix_nil (q : List UInt8) (h : 0 < q.length) : q.isPrefixOf [] = false := by
  cases q with
  | nil => simp at h
  | cons => rfl
theorem se_end (q : List UInt8) (raw : Bool) (l : List UInt8) (j k : Nat) (h : l.length ≤ j) : strEnd q raw (l.drop j) false k = .error (15, k) := by
  rw [List.drop_of_length_le h]
  rfl
theorem se_pre (q : List UInt8) (raw : Bool) (hq : 0 < q.length) (l : List UInt8) (j k : Nat) (h : q.isPrefixOf (l.drop j) = true) : strEnd q raw (l.drop j) false k = .ok (k + q.length) := by
  rcases Nat.lt_or_ge j l.length with hj | hj
  · rw [drop_at l j hj] at h ⊢
    unfold strEnd
    rw [if_neg (by simp), if_pos h]
  · rw [List.drop_of_length_le hj, prefix_nil q hq] at h
    simp at h
theorem se_nl (q : List UInt8) (raw : Bool) (l : List UInt8) (j k : Nat) (hj : j < l.length) (hp : q.isPrefixOf (l.drop j) = false) (hc : at0 l j = 10) (h1 : q.length = 1) : strEnd q raw (l.drop j) false k = .error (1, k) := by
  rw [drop_at l j hj] at hp ⊢
  unfold strEnd
  rw [if_neg (by simp), if_neg (by simp [hp]), if_pos ⟨hc, h1⟩]
theorem se_esc (q : List UInt8) (l : List UInt8) (j k : Nat) (hp : q.isPrefixOf (l.drop j) = false) (hc : at0 l j = 92) (hj : j + 1 < l.length) (hd : at0 l (j + 1) ≠ 10) : strEnd q false (l.drop j) false k = strEnd q false (l.drop (j + 2)) false (k + 2) := by
  rw [drop_at l j (by omega)] at hp ⊢
  conv => lhs; unfold strEnd
  have h0 : at0 (l.drop (j + 1)) 0 = at0 l (j + 1) := by rw [at0_drop, Nat.add_zero]
  have hne : l.drop (j + 1) ≠ [] := by intro e; have := congrArg List.length e; rw [List.length_drop, List.length_nil] at this; omega
  rw [if_neg (by simp), if_neg (by simp [hp]), if_neg (by rw [hc]; simp), h0, hc]
  have hb : ((92 : UInt8) == 92 && !false && decide (l.drop (j + 1) ≠ []) && at0 l (j + 1) != 10) = true := by simp [hne, hd]
  rw [hb, drop_at l (j + 1) hj]
  conv => lhs; unfold strEnd
  rw [if_pos rfl]
theorem se_other (q : List UInt8) (raw : Bool) (l : List UInt8) (j k : Nat) (hj : j < l.length) (hp : q.isPrefixOf (l.drop j) = false) (h1 : ¬ (at0 l j = 10 ∧ q.length = 1)) (h2 : ¬ (at0 l j = 92 ∧ raw = false ∧ j + 1 < l.length ∧ at0 l (j + 1) ≠ 10)) :
    strEnd q raw (l.drop j) false k = strEnd q raw (l.drop (j + 1)) false (k + 1) := by
  rw [drop_at l j hj] at hp ⊢
  conv => lhs; unfold strEnd
  have h0 : at0 (l.drop (j + 1)) 0 = at0 l (j + 1) := by rw [at0_drop, Nat.add_zero]
  rw [if_neg (by simp), if_neg (by simp [hp]), if_neg h1, h0]
  have hb : (at0 l j == 92 && !raw && decide (l.drop (j + 1) ≠ []) && at0 l (j + 1) != 10) = false := by
    cases hx : (at0 l j == 92 && !raw && decide (l.drop (j + 1) ≠ []) && at0 l (j + 1) != 10)
    · rfl
    · exfalso
      simp only [Bool.and_eq_true, beq_iff_eq, Bool.not_eq_true', decide_eq_true_eq, bne_iff_ne] at hx
      refine h2 ⟨hx.1.1.1, hx.1.1.2, ?_, hx.2⟩
      rcases Nat.lt_or_ge (j + 1) l.length with h | h
      · exact h
      · exact absurd (List.drop_of_length_le h) hx.1.2
  rw [hb]

/-- where the line of an offset begins -/
def bol (l : List UInt8) (i : Nat) : Nat := i - width l i
theorem width_zero (l : List UInt8) : width l 0 = 0 := by
  unfold width
  rw [List.take_zero, tailNl_none [] (by simp)]
  rfl
theorem width_le (l : List UInt8) : ∀ i, width l i ≤ i
  | 0 => by rw [width_zero]; exact Nat.le_refl _
  | i + 1 => by have := width_succ l i; have := width_le l i; omega
theorem bol_add (l : List UInt8) (i : Nat) : bol l i + width l i = i := by have := width_le l i; unfold bol; omega
theorem bol_le (l : List UInt8) (i : Nat) : bol l i ≤ i := by unfold bol; omega
theorem bol_zero (l : List UInt8) : bol l 0 = 0 := by unfold bol; omega
theorem width_same (l : List UInt8) (i : Nat) (h : i < l.length) (hc : at0 l i ≠ 10) : width l (i + 1) = width l i + 1 := by
  unfold width
  rw [at0_lt l i h] at hc
  rw [List.take_succ_eq_append_getElem h, tailNl_more _ _ (by simpa using fun e => hc e.symm), List.length_append]
  simp
theorem bol_same (l : List UInt8) (i : Nat) (h : i < l.length) (hc : at0 l i ≠ 10) : bol l (i + 1) = bol l i := by
  have := width_same l i h hc
  unfold bol
  omega
theorem bol_nl (l : List UInt8) (i : Nat) (h : i < l.length) (hc : at0 l i = 10) : bol l (i + 1) = i + 1 := by
  have := width_nl l i h hc
  unfold bol
  omega
theorem line_same (l : List UInt8) (i : Nat) (h : i < l.length) (hc : at0 l i ≠ 10) : lineAt l (i + 1) = lineAt l i := by
  rw [at0_lt l i h] at hc
  unfold lineAt
  rw [List.take_succ_eq_append_getElem h, List.count_append]
  simp [hc]
theorem line_nl (l : List UInt8) (i : Nat) (h : i < l.length) (hc : at0 l i = 10) : lineAt l (i + 1) = lineAt l i + 1 := by
  rw [at0_lt l i h] at hc
  unfold lineAt
  rw [List.take_succ_eq_append_getElem h, List.count_append, hc]
  simp
theorem line_zero (l : List UInt8) : lineAt l 0 = 1 := by simp [lineAt]
theorem line_bound (l : List UInt8) (i : Nat) : 1 ≤ lineAt l i ∧ lineAt l i ≤ l.length + 1 := by
  unfold lineAt
  have h1 := List.count_le_length (a := (10 : UInt8)) (l := l.take i)
  rw [List.length_take] at h1
  omega
theorem same_line (l : List UInt8) (i : Nat) : ∀ n, i + n ≤ l.length → (∀ j, j < n → at0 l (i + j) ≠ 10) → lineAt l (i + n) = lineAt l i ∧ bol l (i + n) = bol l i
  | 0, _, _ => ⟨rfl, rfl⟩
  | n + 1, h, hn => by
    obtain ⟨h1, h2⟩ := same_line l i n (by omega) (fun j hj => hn j (by omega))
    have h3 := line_same l (i + n) (by omega) (hn n (by omega))
    have h4 := bol_same l (i + n) (by omega) (hn n (by omega))
    exact ⟨h3.trans h1, h4.trans h2⟩
theorem span_line (p : UInt8 → Bool) (hp : p 10 = false) (l : List UInt8) (i n : Nat) (hi : i ≤ l.length) (h : n ≤ span p (l.drop i)) : lineAt l (i + n) = lineAt l i ∧ bol l (i + n) = bol l i := by
  have hle := span_drop_le p l i hi
  refine same_line l i n (by omega) (fun j hj e => ?_)
  have := (span_spec p (l.drop i)).1 j (by omega)
  rw [at0_drop, e, hp] at this
  simp at this
/-- the text of the line ahead of an offset -/
theorem line_text (l : List UInt8) (i : Nat) (h : i ≤ l.length) : (l.drop (bol l i)).take (i - bol l i) = tailNl (l.take i) := by
  have hb := bol_add l i
  have h1 : (l.drop (bol l i)).take (i - bol l i) = (l.take i).drop (bol l i) := by rw [List.drop_take]
  rw [h1]
  have h2 : (tailNl (l.take i)).length = width l i := rfl
  have h3 : ∃ k, tailNl (l.take i) = (l.take i).drop k := ⟨_, rfl⟩
  obtain ⟨k, hk⟩ := h3
  have hl : (l.take i).length = i := by rw [List.length_take]; omega
  rw [hk, List.length_drop, hl] at h2
  rcases Nat.lt_or_ge k i with hki | hki
  · rw [hk, show bol l i = k by omega]
  · rw [hk, List.drop_of_length_le (by omega), List.drop_of_length_le (by omega)]
theorem col_bound (l : List UInt8) (i : Nat) : 1 ≤ colAt l i ∧ colAt l i ≤ l.length + 1 := by
  unfold colAt
  have h1 := rcl_le (tailNl (l.take i))
  have h2 : (tailNl (l.take i)).length ≤ (l.take i).length := by unfold tailNl; rw [List.length_drop]; omega
  rw [List.length_take] at h2
  omega

end Go.Proofs.YtjoeojdciogcgaaDoor
