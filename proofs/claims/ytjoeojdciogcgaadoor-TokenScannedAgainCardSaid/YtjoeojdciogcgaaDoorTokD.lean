/- Plain words on tokens: what a scan gives can be joined, and how long the joined text is. Nothing is claimed here. -/
import Derived.Test.YtjoeojdciogcgaaDoorTokC
namespace Go.Proofs.YtjoeojdciogcgaaDoor
open Go.Lib

theorem dedent_facts (n : Nat) : ∀ ind : List Nat, (dedent n ind).1.length + (dedent n ind).2 = ind.length ∧ (dedent n ind).1.headD 0 ≤ n ∧ (ind.Pairwise (· > ·) → (dedent n ind).1.Pairwise (· > ·)) ∧ (n ∈ ind → (dedent n ind).1 ≠ [])
  | [] => by simp [dedent]
  | x :: l => by
    obtain ⟨h1, h2, h3, h4⟩ := dedent_facts n l
    unfold dedent
    by_cases hx : n < x
    · rw [if_pos hx]
      refine ⟨by simp; omega, h2, fun h => h3 h.of_cons, fun h => h4 ?_⟩
      rcases List.mem_cons.1 h with h | h
      · omega
      · exact h
    · rw [if_neg hx]
      exact ⟨by simp, by simp; omega, fun h => h, fun _ => by simp⟩
theorem desc_len : ∀ (ind : List Nat), ind.Pairwise (· > ·) → ind.length ≤ ind.headD 0 + 1
  | [], _ => by simp
  | [x], _ => by simp
  | x :: y :: l, h => by
    have ih := desc_len (y :: l) h.of_cons
    have hxy : x > y := (List.pairwise_cons.1 h).1 y (by simp)
    simp at ih ⊢
    omega
theorem indent_ok {n : Nat} {ind ind' : List Nat} {ks : List Int} (h : indent n ind = some (ind', ks)) (hne : ind ≠ []) (hd : ind.Pairwise (· > ·)) :
    ind' ≠ [] ∧ ind'.Pairwise (· > ·) ∧ ind'.length ≤ n + 1 ∧ ((ks = [2] ∧ ind'.length = ind.length + 1) ∨ (∃ m, ks = List.replicate m 3 ∧ ind'.length + m = ind.length)) := by
  unfold indent at h
  split at h
  · rename_i hlt
    simp only [Option.some.injEq, Prod.mk.injEq] at h
    obtain ⟨rfl, rfl⟩ := h
    have hp : (n :: ind).Pairwise (· > ·) := by
      refine List.pairwise_cons.2 ⟨fun y hy => ?_, hd⟩
      cases ind with
      | nil => simp at hy
      | cons x l =>
        rcases List.mem_cons.1 hy with rfl | hy
        · exact hlt
        · have := (List.pairwise_cons.1 hd).1 y hy
          simp at hlt
          omega
    exact ⟨by simp, hp, by have := desc_len _ hp; simpa using this, .inl ⟨rfl, rfl⟩⟩
  · split at h
    · rename_i hm
      simp only [Option.some.injEq, Prod.mk.injEq] at h
      obtain ⟨rfl, rfl⟩ := h
      obtain ⟨h1, h2, h3, h4⟩ := dedent_facts n ind
      exact ⟨h4 (by simpa using hm), h3 hd, by have := desc_len _ (h3 hd); omega, .inr ⟨_, rfl, h1⟩⟩
    · simp at h

theorem width_succ (l : List UInt8) (i : Nat) : width l (i + 1) ≤ width l i + 1 := by
  unfold width
  rcases Nat.lt_or_ge i l.length with h | h
  · rw [List.take_succ_eq_append_getElem h]
    by_cases hc : l[i] = 10
    · rw [hc, tailNl_at _ [] (by simp)]
      simp
    · rw [tailNl_more _ _ (by simpa using fun e => hc e.symm), List.length_append]
      simp
  · rw [List.take_of_length_le (by omega), List.take_of_length_le (by omega)]
    omega
theorem width_add (l : List UInt8) (i : Nat) : ∀ n, width l (i + n) ≤ width l i + n
  | 0 => by simp
  | n + 1 => by
    have h1 := width_succ l (i + n)
    have h2 := width_add l i n
    rw [← Nat.add_assoc]
    omega
theorem width_nl (l : List UInt8) (i : Nat) (h : i < l.length) (hc : at0 l i = 10) : width l (i + 1) = 0 := by
  unfold width
  rw [at0_lt l i h] at hc
  rw [List.take_succ_eq_append_getElem h, hc, tailNl_at _ [] (by simp)]
  rfl

theorem skip_spec (r : List UInt8) : skipLen r ≤ r.length ∧ (skipLen r < r.length → at0 r (skipLen r) ≠ 10 → at0 r (skipLen r) ≠ 32 ∧ at0 r (skipLen r) ≠ 35) := by
  have h1 := span_le isBlk r
  have h2 := (span_spec isBlk r).2
  unfold skipLen
  split
  · have h3 := span_le inLn (r.drop (span isBlk r))
    have h4 := (span_spec inLn (r.drop (span isBlk r))).2
    rw [List.length_drop] at h3 h4
    refine ⟨by omega, fun h5 h6 => ?_⟩
    have h7 := h4 (by omega)
    rw [at0_drop] at h7
    exact absurd (by simpa [inLn] using h7) h6
  · rename_i h3
    refine ⟨h1, fun h5 _ => ⟨?_, h3⟩⟩
    have := h2 h5
    simpa [isBlk] using this

/-- what is known of a state of a scan -/
structure Inv (l : List UInt8) (s : Scn) : Prop where
  ne : s.ind ≠ []
  desc : s.ind.Pairwise (· > ·)
  fr : s.fresh = true → s.op = [] ∧ width l s.at_ = 0
  le : s.at_ ≤ l.length

theorem takeTok_ok {l : List UInt8} (hl : Txt l) {i : Nat} {s s' : Scn} (hi : i ≤ l.length) (h32 : at0 l i ≠ 32) (h35 : at0 l i ≠ 35) (h10 : at0 l i ≠ 10) (h : takeTok l i s = .more s') :
    ∃ k t op, TokOk k t ∧ brK k t s.op = some op ∧ i + t.length ≤ l.length ∧ s' = { s with at_ := i + t.length, op := op, toks := s.toks ++ [tokAt l k t i] } := by
  unfold takeTok at h
  split at h
  · simp at h
  · rename_i k n hlex
    obtain ⟨a1, a2, a3, a4, a5⟩ := lex_again _ _ _ hlex
    have hn := a2.2.1
    rw [List.length_drop] at hn
    have hlen : ((l.drop i).take n).length = n := by rw [List.length_take, List.length_drop]; omega
    have h0 : at0 ((l.drop i).take n) 0 = at0 l i := by rw [at0_take _ _ _ a2.1, at0_drop, Nat.add_zero]
    have hok : TokOk k ((l.drop i).take n) := ⟨a1, hl.part i n a2, a3, a4, by rw [hlen]; exact a2.1, by rw [h0]; exact h32, by rw [h0]; exact h35, by rw [h0]; exact h10⟩
    split at h
    · rename_i hk
      subst hk
      split at h
      · simp at h
      · rename_i op hop
        refine ⟨8, _, op, hok, by unfold brK; rw [if_pos rfl]; exact hop, by rw [hlen]; omega, ?_⟩
        rw [hlen]
        injection h with h
        exact h.symm
    · rename_i hk
      refine ⟨k, _, s.op, hok, by unfold brK; rw [if_neg hk], by rw [hlen]; omega, ?_⟩
      rw [hlen]
      injection h with h
      exact h.symm
theorem takeTok_done {l : List UInt8} {i : Nat} {s : Scn} {t : List Tok} : takeTok l i s ≠ .done t := by
  unfold takeTok
  split
  · simp
  · split
    · split <;> simp
    · simp

/-- one step of a scan -/
theorem step_ok {l : List UInt8} (hl : Txt l) {s : Scn} (hs : Inv l s) :
    (∀ t, stepS l s = .done t → ∃ new, t = s.toks ++ new ∧ Good (s.ind.length - 1) s.op s.fresh (new.map kt) ∧ ∀ lv, (jt lv s.fresh (new.map kt)).length ≤ 1) ∧
    (∀ s', stepS l s = .more s' → Inv l s' ∧ s.at_ < s'.at_ ∧ ∃ new, s'.toks = s.toks ++ new ∧ ∀ rest, Good (s'.ind.length - 1) s'.op s'.fresh rest →
      Good (s.ind.length - 1) s.op s.fresh (new.map kt ++ rest) ∧ (jt ((s.ind.length - 1 : Nat) : Int) s.fresh (new.map kt ++ rest)).length + 2 * s.at_ ≤ (jt ((s'.ind.length - 1 : Nat) : Int) s'.fresh rest).length + 2 * s'.at_) := by
  obtain ⟨k1, k2⟩ := skip_spec (l.drop s.at_)
  rw [List.length_drop] at k1 k2
  rw [at0_drop] at k2
  obtain ⟨i, hi⟩ : ∃ i, s.at_ + skipLen (l.drop s.at_) = i := ⟨_, rfl⟩
  have hle := hs.le
  have hst : stepS l s = stepB l s i := step_at hi
  rw [hst]
  have hil : i ≤ l.length := by omega
  rw [hi] at k2
  have hpos : 0 < s.ind.length := List.length_pos_iff.2 hs.ne
  clear hst
  unfold stepB
  by_cases h1 : l.length ≤ i
  · rw [if_pos h1]
    by_cases h2 : s.op ≠ []
    · rw [if_pos h2]
      exact ⟨fun t h => by simp at h, fun s' h => by simp at h⟩
    · rw [if_neg h2]
      have h2' : s.op = [] := by simpa using h2
      refine ⟨fun t h => ?_, fun s' h => by simp at h⟩
      injection h with h
      subst h
      rw [h2']
      have hlast : ∀ d, (List.replicate d (tokAt l 3 [] i) ++ [tokAt l 0 [] i]).map kt = List.replicate d (3, []) ++ [(0, [])] := fun d => by simp [kt_tokAt]
      cases hf : s.fresh with
      | true =>
        refine ⟨List.replicate (s.ind.length - 1) (tokAt l 3 [] i) ++ [tokAt l 0 [] i], by unfold closing; rw [hf]; simp, ?_⟩
        rw [hlast]
        refine ⟨Good.last _, fun lv => ?_⟩
        rw [jt_ded, jt_end]
        simp
      | false =>
        refine ⟨tokAt l 1 [] i :: (List.replicate (s.ind.length - 1) (tokAt l 3 [] i) ++ [tokAt l 0 [] i]), by unfold closing; rw [hf]; simp, ?_⟩
        rw [List.map_cons, hlast, kt_tokAt]
        refine ⟨Good.line _ _ (Good.last _), fun lv => ?_⟩
        rw [jt_line, jt_ded, jt_end]
        simp
  · rw [if_neg h1]
    by_cases h2 : at0 l i = 10
    · rw [if_pos h2]
      have hw := width_nl l i (by omega) h2
      by_cases h3 : s.fresh = false ∧ s.op = []
      · rw [if_pos h3]
        refine ⟨fun t h => by simp at h, fun s' h => ?_⟩
        injection h with h
        subst h
        refine ⟨⟨hs.ne, hs.desc, fun _ => ⟨h3.2, hw⟩, by show i + 1 ≤ _; omega⟩, by show s.at_ < i + 1; omega, [tokAt l 1 [] i], rfl, fun rest hg => ?_⟩
        simp only [h3.1, h3.2] at hg ⊢
        simp only [List.map_cons, List.map_nil, kt_tokAt, List.cons_append, List.nil_append]
        refine ⟨Good.line _ _ hg, ?_⟩
        rw [jt_line]
        simp
        omega
      · rw [if_neg h3]
        refine ⟨fun t h => by simp at h, fun s' h => ?_⟩
        injection h with h
        subst h
        refine ⟨⟨hs.ne, hs.desc, fun hf => ⟨(hs.fr hf).1, hw⟩, by show i + 1 ≤ _; omega⟩, by show s.at_ < i + 1; omega, [], by simp, fun rest hg => ⟨hg, ?_⟩⟩
        simp
        omega
    · rw [if_neg h2]
      obtain ⟨h32, h35⟩ := k2 (by omega) h2
      cases hf : s.fresh with
      | true =>
        rw [if_pos rfl]
        obtain ⟨hop, hw0⟩ := hs.fr hf
        have hwi := width_add l s.at_ (i - s.at_)
        rw [show s.at_ + (i - s.at_) = i by omega, hw0] at hwi
        split
        · exact ⟨fun t h => by simp at h, fun s' h => by simp at h⟩
        · rename_i ind ks hin
          obtain ⟨e1, e2, e3, e4⟩ := indent_ok hin hs.ne hs.desc
          refine ⟨fun t h => absurd h takeTok_done, fun s' h => ?_⟩
          obtain ⟨k, t, op, ht, hb, hlt, rfl⟩ := takeTok_ok hl hil h32 h35 h2 h
          have htp := ht.pos
          have hip : 0 < ind.length := List.length_pos_iff.2 e1
          refine ⟨⟨e1, e2, fun hc => by simp at hc, hlt⟩, by show s.at_ < i + t.length; omega, (ks.map fun k => tokAt l k [] i) ++ [tokAt l k t i], by simp, fun rest hg => ?_⟩
          simp only [hop] at hb ⊢
          rcases e4 with ⟨rfl, e5⟩ | ⟨m, rfl, e5⟩
          · have hg' : Good (s.ind.length - 1 + 1) op false rest := by
              have : ind.length - 1 = s.ind.length - 1 + 1 := by omega
              rw [← this]; exact hg
            simp only [List.map_cons, List.map_nil, kt_tokAt, List.cons_append, List.nil_append]
            refine ⟨Good.deeper _ _ _ _ _ ht hb hg', ?_⟩
            rw [jt_in, jt_tok _ _ _ _ _ ht.lo, if_pos rfl, show ((s.ind.length - 1 : Nat) : Int) + 1 = ((ind.length - 1 : Nat) : Int) by omega, Int.toNat_natCast]
            simp only [List.length_append, List.length_replicate]
            omega
          · have hg' : Good (s.ind.length - 1 - m) op false rest := by
              have : ind.length - 1 = s.ind.length - 1 - m := by omega
              rw [← this]; exact hg
            simp only [List.map_append, List.map_map, List.map_cons, List.map_nil, kt_tokAt, List.append_assoc, List.cons_append, List.nil_append]
            have hm : (List.replicate m (3 : Int)).map (kt ∘ fun k => tokAt l k [] i) = List.replicate m (3, []) := by simp [kt_tokAt]
            rw [hm]
            refine ⟨Good.back _ m _ _ _ _ (by omega) ht hb hg', ?_⟩
            rw [jt_ded, jt_tok _ _ _ _ _ ht.lo, if_pos rfl, show ((s.ind.length - 1 : Nat) : Int) - m = ((ind.length - 1 : Nat) : Int) by omega, Int.toNat_natCast]
            simp only [List.length_append, List.length_replicate]
            omega
      | false =>
        simp only [Bool.false_eq_true, if_false]
        refine ⟨fun t h => absurd h takeTok_done, fun s' h => ?_⟩
        obtain ⟨k, t, op, ht, hb, hlt, rfl⟩ := takeTok_ok hl hil h32 h35 h2 h
        have htp := ht.pos
        refine ⟨⟨hs.ne, hs.desc, fun hc => by simp [hf] at hc, hlt⟩, by show s.at_ < i + t.length; omega, [tokAt l k t i], rfl, fun rest hg => ?_⟩
        simp only [hf] at hg ⊢
        simp only [List.map_cons, List.map_nil, kt_tokAt, List.cons_append, List.nil_append]
        refine ⟨Good.tok _ _ _ _ _ _ ht hb hg, ?_⟩
        rw [jt_tok _ _ _ _ _ ht.lo]
        simp only [Bool.false_eq_true, if_false, List.length_append, List.length_singleton]
        omega

theorem scanF_good {l : List UInt8} (hl : Txt l) : ∀ (f : Nat) (s : Scn) (ts : List Tok), Inv l s → scanF l f s = .ok ts →
    ∃ new, ts = s.toks ++ new ∧ Good (s.ind.length - 1) s.op s.fresh (new.map kt) ∧ (jt ((s.ind.length - 1 : Nat) : Int) s.fresh (new.map kt)).length + 2 * s.at_ ≤ 2 * l.length + 1
  | 0, s, ts, _, h => by simp [scanF] at h
  | f + 1, s, ts, hs, h => by
    obtain ⟨g1, g2⟩ := step_ok hl hs
    unfold scanF at h
    cases hst : stepS l s with
    | done t =>
      rw [hst] at h
      injection h with h
      subst h
      obtain ⟨new, e1, e2, e3⟩ := g1 t hst
      have := hs.le
      exact ⟨new, e1, e2, by have := e3 ((s.ind.length - 1 : Nat) : Int); omega⟩
    | fault c i => rw [hst] at h; simp at h
    | more s' =>
      rw [hst] at h
      obtain ⟨e1, e2, new, e3, e4⟩ := g2 s' hst
      obtain ⟨new', f1, f2, f3⟩ := scanF_good hl f s' ts e1 h
      obtain ⟨f4, f5⟩ := e4 _ f2
      refine ⟨new ++ new', by rw [f1, e3, List.append_assoc], by rw [List.map_append]; exact f4, ?_⟩
      rw [List.map_append]
      omega

/-- what is joined of tokens, with its state -/
structure Jn where
  level : Int
  fresh : Bool
  out : List UInt8
def jstep (s : Jn) (k : Int) (t : List UInt8) : Jn :=
  if k = 2 then { s with level := s.level + 1 }
  else if k = 3 then { s with level := s.level - 1 }
  else if k = 1 then { s with fresh := true, out := s.out ++ [10] }
  else if k = 0 then s
  else { s with fresh := false, out := s.out ++ ((if s.fresh then List.replicate (2 * s.level.toNat) 32 else [32]) ++ t) }
/-- the joined text; none: it is too long -/
def joinF : Jn → List (Int × List UInt8) → Option (List UInt8)
  | s, [] => some s.out
  | s, (k, t) :: ts => if 16000 < (jstep s k t).out.length then none else joinF (jstep s k t) ts
theorem joinF_eq : ∀ (ts : List (Int × List UInt8)) (s : Jn), s.out.length ≤ 16000 → joinF s ts = if 16000 < (s.out ++ jt s.level s.fresh ts).length then none else some (s.out ++ jt s.level s.fresh ts)
  | [], s, h => by
    unfold joinF jt
    rw [List.append_nil, if_neg (by omega)]
  | (k, t) :: ts, s, h => by
    have key : s.out ++ jt s.level s.fresh ((k, t) :: ts) = (jstep s k t).out ++ jt (jstep s k t).level (jstep s k t).fresh ts := by
      conv => lhs; unfold jt
      unfold jstep
      by_cases h2 : k = 2
      · rw [if_pos h2, if_pos h2]
      · rw [if_neg h2, if_neg h2]
        by_cases h3 : k = 3
        · rw [if_pos h3, if_pos h3]
        · rw [if_neg h3, if_neg h3]
          by_cases h1 : k = 1
          · rw [if_pos h1, if_pos h1]
            simp
          · rw [if_neg h1, if_neg h1]
            by_cases h0 : k = 0
            · rw [if_pos h0, if_pos h0]
            · rw [if_neg h0, if_neg h0]
              simp
    unfold joinF
    rw [key]
    by_cases hl : 16000 < (jstep s k t).out.length
    · rw [if_pos hl, if_pos (by rw [List.length_append]; omega)]
    · rw [if_neg hl, joinF_eq ts _ (by omega)]

def joined (ts : List (Int × List UInt8)) : Option (List UInt8) := joinF ⟨0, true, []⟩ ts
/-- a source's tokens are joined to a text that has them, or the source is long -/
theorem scanned_again (l : List UInt8) (ts : List Tok) (h : scanT l = .ok ts) :
    match joined (ts.map kt) with
    | none => 800 < l.length
    | some u => u.length ≤ 16000 ∧ ∃ ms, scanT u = .ok ms ∧ ms.map kt = ts.map kt := by
  unfold scanT at h
  split at h
  · simp at h
  · rename_i hz
    obtain ⟨hle, cs, hcs⟩ := chars_of l (by simpa using hz)
    obtain ⟨new, e1, e2, e3⟩ := scanF_good (l := l) ⟨cs, hcs⟩ _ _ _ ⟨by simp, by simp, fun _ => ⟨rfl, rfl⟩, Nat.zero_le _⟩ h
    simp only [List.nil_append] at e1
    subst e1
    unfold joined
    rw [joinF_eq _ _ (by simp)]
    simp only [List.nil_append]
    simp only [List.length_singleton, Nat.sub_self] at e2 e3
    change (jt 0 true (ts.map kt)).length + _ ≤ _ at e3
    by_cases hlong : 16000 < (jt 0 true (ts.map kt)).length
    · rw [if_pos hlong]
      show 800 < l.length
      omega
    · rw [if_neg hlong]
      refine ⟨by omega, ?_⟩
      obtain ⟨T', r1, r2⟩ := rescan e2 (jt 0 true (ts.map kt)) [] [] ((jt 0 true (ts.map kt)).length + 1) rfl (fun _ => rfl) (by show _ < _; exact Nat.lt_succ_self _)
      refine ⟨T', ?_, r2⟩
      obtain ⟨ds, hd1, hd2⟩ := e2.txt 0
      unfold scanT
      rw [hd1, sfault_chars ds hd2 (by rw [← hd1]; omega), ← hd1, if_neg (by simp)]
      exact r1

end Go.Proofs.YtjoeojdciogcgaaDoor
