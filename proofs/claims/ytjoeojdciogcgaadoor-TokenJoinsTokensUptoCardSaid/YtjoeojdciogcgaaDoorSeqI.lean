/- Small words on byte strings. Nothing is claimed here. -/
import Derived.Lib.Strings
import Derived.RangeFuncOwn
import Derived.Laws.Strings2
import Derived.Test.YtjoeojdciogcgaaDoorCore
import Derived.Test.YtjoeojdciogcgaaDoorSrcShelf
import Derived.Test.YtjoeojdciogcgaaDoorSrcB
namespace Go.Proofs.YtjoeojdciogcgaaDoor
open Go.RowKit Go.Shelf Go.Lib

def bs (l : List UInt8) : Value := .string ⟨l.toArray⟩
theorem ba_ext {a b : ByteArray} (h : a.data.toList = b.data.toList) : a = b := by
  cases a; cases b
  simp only [ByteArray.mk.injEq]
  exact Array.toList_inj.1 h
theorem extract_take (r : List UInt8) (i : Nat) : (⟨r.toArray⟩ : ByteArray).extract 0 i = ⟨(r.take i).toArray⟩ := ba_ext (by rw [extract_data]; simp)
theorem extract_from (r : List UInt8) (i n : Nat) (h : r.length ≤ n) : (⟨r.toArray⟩ : ByteArray).extract i n = ⟨(r.drop i).toArray⟩ := ba_ext (by rw [extract_data]; show (r.drop i).take (n - i) = r.drop i; exact List.take_of_length_le (by rw [List.length_drop]; omega))
theorem extract_sub (r : List UInt8) (i n : Nat) : (⟨r.toArray⟩ : ByteArray).extract i n = ⟨((r.drop i).take (n - i)).toArray⟩ := ba_ext (by rw [extract_data])

end Go.Proofs.YtjoeojdciogcgaaDoor
