/- The reference's Tokens: what it gives for every text. Nothing is claimed here. -/
import Derived.Test.YtjoeojdciogcgaaDoorRefTk
namespace Go.Proofs.YtjoeojdciogcgaaDoor
open Go.RowKit Go.Shelf Go.Lib Go.Maps
set_option linter.unusedVariables false

theorem tokens_any (l : List UInt8) (w : World) (hl : l.length ≤ 9223372036854775807) (hT : Tabs w) (hm : Lim w) :
    Calls Tryd.prog 14 #[.string ⟨l.toArray⟩] w (ScPost w (scanT l)) := by
  unfold scanT
  by_cases h : (sfault l).1 ≠ 0
  · rw [if_pos h]
    exact tokens_flt l w hl hT _ _ rfl h
  · have h0 : (sfault l).1 = 0 := by simpa using h
    rw [if_neg h]
    have hz : sfault l = (0, 0) ∧ l.length ≤ 16000 := by
      unfold sfault at h0 ⊢
      split at h0
      · simp at h0
      · rename_i hlen
        rw [if_neg hlen]
        refine ⟨?_, by omega⟩
        split at h0
        · rfl
        · simp at h0
    obtain ⟨_, cs, hcs, hch⟩ := chars_of l h0
    exact tokens_txt hch hcs.symm hz.2 hz.1 w hT hm

end Go.Proofs.YtjoeojdciogcgaaDoor
