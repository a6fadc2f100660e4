/- The built-in names: the reference's default values, by their signs. Nothing is claimed here. -/
import Derived.Laws.Tables
import Derived.Test.YtfpmnkokmlghmaaDoorBltK
namespace Go.Proofs.YtfpmnkokmlghmaaDoor
open Go.RowKit Go.Lib Go.Shelf
set_option linter.unusedVariables false

set_option maxRecDepth 100000 in
set_option maxHeartbeats 4000000 in
theorem standard_any (s : List UInt8) (w : World) : Calls Tryd.prog 50 #[.string ⟨s.toArray⟩] w fun e w' => (∃ v, e = .returned v ∧ anyV v) ∧ Below w.heap.size w w' := by
  have hR := Blk.new w 26 (digC 0 false none 0 0 ⟨#[]⟩ 0)
  have hb := (Below.refl w.heap.size w).alloc (Nat.le_refl _) (.cells (digC 0 false none 0 0 ⟨#[]⟩ 0) 26)
  go_enter Tryd.func50, Tryd.ntmps50
  go_upto_region 1 with fail
  obtain ⟨w0, hw0⟩ : ∃ W', w.alloc (.cells (digC 0 false none 0 0 ⟨#[]⟩ 0) 26) = W' := ⟨_, rfl⟩
  have hw0' := hw0
  unfold digC at hw0'
  rw [hw0']
  rw [hw0] at hR hb
  obtain ⟨a, ha⟩ : ∃ a, w.heap.size = a := ⟨_, rfl⟩
  have HA := Lib.hid ha
  rw [ha] at hR hb ⊢
  clear ha hw0 hw0'
  cases h1 : (s == [45])
  · cases h2 : (s == [63])
    · cases h3 : (s == [33])
      · cases h4 : (s == [35])
        · cases h5 : (s == [95])
          · cases h6 : (s == [47])
            · cases h7 : (s == [45, 49])
              · cases h8 : (s == [49])
                · cases h9 : (s == [49, 48])
                  · as_aux_lemma =>
                    go_wp2_with fail
                    refine (fN_any 0 (by simp) w0).mono ?_
                    rintro e w1 ⟨⟨v, rfl, k', b', B, n', c', t', r', rfl⟩, ba⟩
                    have hR2 := hR.belowS ba
                    have hb2 := below_then hb ba (by have := hb.size; rw [HA.out] at this; exact this)
                    clear ba hR hb
                    go_wp2_with (refine wpList_store_row rfl 26 _ _ rfl a (digC k' b' B n' c' t' r') rfl rfl 26 (digC 0 false none 0 0 ⟨#[]⟩ 0) hR2 (by kernel_rfl) rfl (by simp [digC, Value.oneCell']) ?_)
                    have hF : Blk (w1.setRow a (digC k' b' B n' c' t' r')) a 26 (digC k' b' B n' c' t' r') := setRow_heap w1 _ _ _ _ _ hR2
                    have hBB : Below a w (w1.setRow a (digC k' b' B n' c' t' r')) := ⟨hb2.os, hb2.tape, hb2.output, by simpa using hb2.size, fun k hk => (setRow_other _ _ _ _ (by omega)).trans (hb2.block k hk)⟩
                    exact ret_blk rfl rfl hF _ Tryd.underlying26 rfl (by kernel_rfl) rfl ⟨⟨_, rfl, k', b', B, n', c', t', r', rfl⟩, by rw [HA.out]; exact hBB⟩
                  · as_aux_lemma =>
                    obtain rfl := beq_iff_eq.1 h9
                    go_wp2_with fail
                    refine (fN_any 10 (by simp) w0).mono ?_
                    rintro e w1 ⟨⟨v, rfl, k', b', B, n', c', t', r', rfl⟩, ba⟩
                    have hR2 := hR.belowS ba
                    have hb2 := below_then hb ba (by have := hb.size; rw [HA.out] at this; exact this)
                    clear ba hR hb
                    go_wp2_with (refine wpList_store_row rfl 26 _ _ rfl a (digC k' b' B n' c' t' r') rfl rfl 26 (digC 0 false none 0 0 ⟨#[]⟩ 0) hR2 (by kernel_rfl) rfl (by simp [digC, Value.oneCell']) ?_)
                    have hF : Blk (w1.setRow a (digC k' b' B n' c' t' r')) a 26 (digC k' b' B n' c' t' r') := setRow_heap w1 _ _ _ _ _ hR2
                    have hBB : Below a w (w1.setRow a (digC k' b' B n' c' t' r')) := ⟨hb2.os, hb2.tape, hb2.output, by simpa using hb2.size, fun k hk => (setRow_other _ _ _ _ (by omega)).trans (hb2.block k hk)⟩
                    exact ret_blk rfl rfl hF _ Tryd.underlying26 rfl (by kernel_rfl) rfl ⟨⟨_, rfl, k', b', B, n', c', t', r', rfl⟩, by rw [HA.out]; exact hBB⟩
                · as_aux_lemma =>
                  obtain rfl := beq_iff_eq.1 h8
                  go_wp2_with fail
                  refine (fN_any 1 (by simp) w0).mono ?_
                  rintro e w1 ⟨⟨v, rfl, k', b', B, n', c', t', r', rfl⟩, ba⟩
                  have hR2 := hR.belowS ba
                  have hb2 := below_then hb ba (by have := hb.size; rw [HA.out] at this; exact this)
                  clear ba hR hb
                  go_wp2_with (refine wpList_store_row rfl 26 _ _ rfl a (digC k' b' B n' c' t' r') rfl rfl 26 (digC 0 false none 0 0 ⟨#[]⟩ 0) hR2 (by kernel_rfl) rfl (by simp [digC, Value.oneCell']) ?_)
                  have hF : Blk (w1.setRow a (digC k' b' B n' c' t' r')) a 26 (digC k' b' B n' c' t' r') := setRow_heap w1 _ _ _ _ _ hR2
                  have hBB : Below a w (w1.setRow a (digC k' b' B n' c' t' r')) := ⟨hb2.os, hb2.tape, hb2.output, by simpa using hb2.size, fun k hk => (setRow_other _ _ _ _ (by omega)).trans (hb2.block k hk)⟩
                  exact ret_blk rfl rfl hF _ Tryd.underlying26 rfl (by kernel_rfl) rfl ⟨⟨_, rfl, k', b', B, n', c', t', r', rfl⟩, by rw [HA.out]; exact hBB⟩
              · as_aux_lemma =>
                obtain rfl := beq_iff_eq.1 h7
                go_wp2_with fail
                refine (fN_any (-1) (by simp) w0).mono ?_
                rintro e w1 ⟨⟨v, rfl, k', b', B, n', c', t', r', rfl⟩, ba⟩
                have hR2 := hR.belowS ba
                have hb2 := below_then hb ba (by have := hb.size; rw [HA.out] at this; exact this)
                clear ba hR hb
                go_wp2_with (refine wpList_store_row rfl 26 _ _ rfl a (digC k' b' B n' c' t' r') rfl rfl 26 (digC 0 false none 0 0 ⟨#[]⟩ 0) hR2 (by kernel_rfl) rfl (by simp [digC, Value.oneCell']) ?_)
                have hF : Blk (w1.setRow a (digC k' b' B n' c' t' r')) a 26 (digC k' b' B n' c' t' r') := setRow_heap w1 _ _ _ _ _ hR2
                have hBB : Below a w (w1.setRow a (digC k' b' B n' c' t' r')) := ⟨hb2.os, hb2.tape, hb2.output, by simpa using hb2.size, fun k hk => (setRow_other _ _ _ _ (by omega)).trans (hb2.block k hk)⟩
                exact ret_blk rfl rfl hF _ Tryd.underlying26 rfl (by kernel_rfl) rfl ⟨⟨_, rfl, k', b', B, n', c', t', r', rfl⟩, by rw [HA.out]; exact hBB⟩
            · as_aux_lemma =>
              obtain rfl := beq_iff_eq.1 h6
              go_wp2_with fail
              refine (fT_any ⟨#[10]⟩ w0).mono ?_
              rintro e w1 ⟨⟨v, rfl, k', b', B, n', c', t', r', rfl⟩, ba⟩
              have hR2 := hR.belowS ba
              have hb2 := below_then hb ba (by have := hb.size; rw [HA.out] at this; exact this)
              clear ba hR hb
              go_wp2_with (refine wpList_store_row rfl 26 _ _ rfl a (digC k' b' B n' c' t' r') rfl rfl 26 (digC 0 false none 0 0 ⟨#[]⟩ 0) hR2 (by kernel_rfl) rfl (by simp [digC, Value.oneCell']) ?_)
              have hF : Blk (w1.setRow a (digC k' b' B n' c' t' r')) a 26 (digC k' b' B n' c' t' r') := setRow_heap w1 _ _ _ _ _ hR2
              have hBB : Below a w (w1.setRow a (digC k' b' B n' c' t' r')) := ⟨hb2.os, hb2.tape, hb2.output, by simpa using hb2.size, fun k hk => (setRow_other _ _ _ _ (by omega)).trans (hb2.block k hk)⟩
              exact ret_blk rfl rfl hF _ Tryd.underlying26 rfl (by kernel_rfl) rfl ⟨⟨_, rfl, k', b', B, n', c', t', r', rfl⟩, by rw [HA.out]; exact hBB⟩
          · as_aux_lemma =>
            obtain rfl := beq_iff_eq.1 h5
            go_wp2_with fail
            refine (fT_any ⟨#[32]⟩ w0).mono ?_
            rintro e w1 ⟨⟨v, rfl, k', b', B, n', c', t', r', rfl⟩, ba⟩
            have hR2 := hR.belowS ba
            have hb2 := below_then hb ba (by have := hb.size; rw [HA.out] at this; exact this)
            clear ba hR hb
            go_wp2_with (refine wpList_store_row rfl 26 _ _ rfl a (digC k' b' B n' c' t' r') rfl rfl 26 (digC 0 false none 0 0 ⟨#[]⟩ 0) hR2 (by kernel_rfl) rfl (by simp [digC, Value.oneCell']) ?_)
            have hF : Blk (w1.setRow a (digC k' b' B n' c' t' r')) a 26 (digC k' b' B n' c' t' r') := setRow_heap w1 _ _ _ _ _ hR2
            have hBB : Below a w (w1.setRow a (digC k' b' B n' c' t' r')) := ⟨hb2.os, hb2.tape, hb2.output, by simpa using hb2.size, fun k hk => (setRow_other _ _ _ _ (by omega)).trans (hb2.block k hk)⟩
            exact ret_blk rfl rfl hF _ Tryd.underlying26 rfl (by kernel_rfl) rfl ⟨⟨_, rfl, k', b', B, n', c', t', r', rfl⟩, by rw [HA.out]; exact hBB⟩
        · as_aux_lemma =>
          obtain rfl := beq_iff_eq.1 h4
          go_wp2_with fail
          refine (fT_any ⟨#[]⟩ w0).mono ?_
          rintro e w1 ⟨⟨v, rfl, k', b', B, n', c', t', r', rfl⟩, ba⟩
          have hR2 := hR.belowS ba
          have hb2 := below_then hb ba (by have := hb.size; rw [HA.out] at this; exact this)
          clear ba hR hb
          go_wp2_with (refine wpList_store_row rfl 26 _ _ rfl a (digC k' b' B n' c' t' r') rfl rfl 26 (digC 0 false none 0 0 ⟨#[]⟩ 0) hR2 (by kernel_rfl) rfl (by simp [digC, Value.oneCell']) ?_)
          have hF : Blk (w1.setRow a (digC k' b' B n' c' t' r')) a 26 (digC k' b' B n' c' t' r') := setRow_heap w1 _ _ _ _ _ hR2
          have hBB : Below a w (w1.setRow a (digC k' b' B n' c' t' r')) := ⟨hb2.os, hb2.tape, hb2.output, by simpa using hb2.size, fun k hk => (setRow_other _ _ _ _ (by omega)).trans (hb2.block k hk)⟩
          exact ret_blk rfl rfl hF _ Tryd.underlying26 rfl (by kernel_rfl) rfl ⟨⟨_, rfl, k', b', B, n', c', t', r', rfl⟩, by rw [HA.out]; exact hBB⟩
      · as_aux_lemma =>
        obtain rfl := beq_iff_eq.1 h3
        go_wp2_with fail
        refine (fB_any w0).mono ?_
        rintro e w1 ⟨⟨v, rfl, k', b', B, n', c', t', r', rfl⟩, ba⟩
        have hR2 := hR.belowS ba
        have hb2 := below_then hb ba (by have := hb.size; rw [HA.out] at this; exact this)
        clear ba hR hb
        go_wp2_with (refine wpList_store_row rfl 26 _ _ rfl a (digC k' b' B n' c' t' r') rfl rfl 26 (digC 0 false none 0 0 ⟨#[]⟩ 0) hR2 (by kernel_rfl) rfl (by simp [digC, Value.oneCell']) ?_)
        have hF : Blk (w1.setRow a (digC k' b' B n' c' t' r')) a 26 (digC k' b' B n' c' t' r') := setRow_heap w1 _ _ _ _ _ hR2
        have hBB : Below a w (w1.setRow a (digC k' b' B n' c' t' r')) := ⟨hb2.os, hb2.tape, hb2.output, by simpa using hb2.size, fun k hk => (setRow_other _ _ _ _ (by omega)).trans (hb2.block k hk)⟩
        exact ret_blk rfl rfl hF _ Tryd.underlying26 rfl (by kernel_rfl) rfl ⟨⟨_, rfl, k', b', B, n', c', t', r', rfl⟩, by rw [HA.out]; exact hBB⟩
    · obtain rfl := beq_iff_eq.1 h2
      as_aux_lemma =>
      go_wp2_with (refine wpList_store_row rfl 26 _ _ rfl a (digC 9 false none 0 0 ⟨#[]⟩ 0) rfl rfl 26 (digC 0 false none 0 0 ⟨#[]⟩ 0) hR (by kernel_rfl) rfl (by simp [digC, Value.oneCell']) ?_)
      have hF : Blk (w0.setRow a (digC 9 false none 0 0 ⟨#[]⟩ 0)) a 26 (digC 9 false none 0 0 ⟨#[]⟩ 0) := setRow_heap w0 _ _ _ _ _ hR
      have hBB : Below a w (w0.setRow a (digC 9 false none 0 0 ⟨#[]⟩ 0)) := ⟨hb.os, hb.tape, hb.output, by simpa using hb.size, fun k hk => (setRow_other _ _ _ _ (by omega)).trans (hb.block k hk)⟩
      exact ret_blk rfl rfl hF _ Tryd.underlying26 rfl (by kernel_rfl) rfl ⟨⟨_, rfl, 9, false, none, 0, 0, ⟨#[]⟩, 0, rfl⟩, by rw [HA.out]; exact hBB⟩
  · obtain rfl := beq_iff_eq.1 h1
    as_aux_lemma =>
    go_wp2_with (refine wpList_store_row rfl 26 _ _ rfl a (digC 0 false none 0 0 ⟨#[]⟩ 0) rfl rfl 26 (digC 0 false none 0 0 ⟨#[]⟩ 0) hR (by kernel_rfl) rfl (by simp [digC, Value.oneCell']) ?_)
    have hF : Blk (w0.setRow a (digC 0 false none 0 0 ⟨#[]⟩ 0)) a 26 (digC 0 false none 0 0 ⟨#[]⟩ 0) := setRow_heap w0 _ _ _ _ _ hR
    have hBB : Below a w (w0.setRow a (digC 0 false none 0 0 ⟨#[]⟩ 0)) := ⟨hb.os, hb.tape, hb.output, by simpa using hb.size, fun k hk => (setRow_other _ _ _ _ (by omega)).trans (hb.block k hk)⟩
    exact ret_blk rfl rfl hF _ Tryd.underlying26 rfl (by kernel_rfl) rfl ⟨⟨_, rfl, 0, false, none, 0, 0, ⟨#[]⟩, 0, rfl⟩, by rw [HA.out]; exact hBB⟩
end Go.Proofs.YtfpmnkokmlghmaaDoor
