/- The built-in names: the texts that the program splits. Nothing is claimed here. -/
import Derived.Test.YtfpmnkokmlghmaaDoorBltB
import Derived.Test.YtfpmnkokmlghmaaDoorSrcShelf
import Derived.Test.YtfpmnkokmlghmaaDoorNamA
namespace Go.Proofs.YtfpmnkokmlghmaaDoor
open Go.RowKit Go.Lib Go.Shelf
set_option linter.unusedVariables false

def strs (l : List (List UInt8)) : List Value := l.map fun s => .string ⟨s.toArray⟩
theorem Calls.cast {P : Program} {f : Nat} {a b : Array Value} {w : World} {Q : Ending → World → Prop} (h : a = b) (hb : Calls P f b w Q) : Calls P f a w Q := h ▸ hb

/-- lines joined by a byte -/
def joinC (c : UInt8) : List (List UInt8) → List UInt8
  | [] => []
  | [s] => s
  | s :: r => s ++ c :: joinC c r
def sigV : ByteArray := ⟨(joinC 10 sigL).toArray⟩
def libV : ByteArray := ⟨(joinC 10 libL).toArray⟩
def clsV : ByteArray := ⟨(joinC 32 clsL).toArray⟩
def treV : ByteArray := ⟨(joinC 32 treL).toArray⟩
def hdrV : ByteArray := ⟨(joinC 32 hdrL).toArray⟩
/-- the memory that strings.Index looks at -/
def Lim (w : World) : Prop := ∃ m, w.cell? ⟨1, 0, none⟩ = some (.int .i64 m)
theorem Lim.keepB {w w' : World} (h : Lim w) (hb : Below w.heap.size w w') : Lim w' := by
  obtain ⟨m, hm⟩ := h
  exact ⟨m, (hb.cell (p := ⟨_, 0, none⟩) (World.block_lt_of_cell? w _ hm)).trans hm⟩
/-- the table of blanks -/
def Env (w : World) : Prop := Lib.TabIs Tryd.prog w "strings.asciiSpace" .u8 Lib.asciiSpaceTab
theorem sig_split : splitB 10 (joinC 10 sigL) = sigL := by decide +kernel
theorem lib_split : splitB 10 (joinC 10 libL) = libL := by decide +kernel
theorem cls_fields : Lib.fields clsV.data.toList = clsL := by decide +kernel
theorem tre_fields : Lib.fields treV.data.toList = treL := by decide +kernel
theorem hdr_fields : Lib.fields hdrV.data.toList = hdrL := by decide +kernel
theorem split_any (s : List UInt8) (c : UInt8) (w : World) (hl : s.length ≤ 1048576) (hm : Lim w) :
    Calls Tryd.prog 22 #[.string ⟨s.toArray⟩, .string ⟨#[c]⟩] w fun e w' => e = .returned (.slice (some ⟨w.heap.size, 0, none⟩) (splitB c s).length (splitB c s).length) ∧ w' = w.alloc (.cells (strs (splitB c s)).toArray 9) := by
  obtain ⟨m, hm⟩ := hm
  refine (Tryd.strings_Split ⟨s.toArray⟩ ⟨#[c]⟩ m w (by simp [ByteArray.size]; omega) hm (Nat.le_refl 1)).mono ?_
  rintro e w' ⟨rfl, rfl⟩
  rw [count_same, split_same, List.map_map]
  exact ⟨rfl, rfl⟩
theorem sigSplit_any (w : World) (hm : Lim w) : Calls Tryd.prog 22 #[.string sigV, .string ⟨#[10]⟩] w fun e w' => e = .returned (.slice (some ⟨w.heap.size, 0, none⟩) 99 99) ∧ w' = w.alloc (.cells (strs sigL).toArray 9) := by
  have h := split_any (joinC 10 sigL) 10 w (by decide +kernel) hm
  rw [sig_split] at h
  exact h
theorem libSplit_any (w : World) (hm : Lim w) : Calls Tryd.prog 22 #[.string libV, .string ⟨#[10]⟩] w fun e w' => e = .returned (.slice (some ⟨w.heap.size, 0, none⟩) 22 22) ∧ w' = w.alloc (.cells (strs libL).toArray 9) := by
  have h := split_any (joinC 10 libL) 10 w (by decide +kernel) hm
  rw [lib_split] at h
  exact h
/-- a cut at one byte -/
theorem index_one (c : UInt8) : ∀ s : List UInt8, Lib.index s [c] = if s.contains c then ((hd c s).length : Int) else -1
  | [] => rfl
  | d :: s => by
    have ih := index_one c s
    rw [Lib.index, ih, List.contains_cons, show [c].isPrefixOf (d :: s) = (c == d) from by simp [List.isPrefixOf]]
    unfold hd
    rw [List.takeWhile_cons]
    by_cases h : c = d
    · subst h
      simp
    · have h1 : (c == d) = false := by rw [beq_eq_false_iff_ne]; exact h
      have h2 : (d != c) = true := by rw [bne_iff_ne]; exact fun e => h e.symm
      rw [h1, h2, if_neg (by simp), Bool.false_or]
      cases hs : s.contains c
      · simp
      · simp only [if_true]
        rw [if_neg (by rw [beq_iff_eq]; omega)]
        simp
theorem cut_one (c : UInt8) (s : List UInt8) : Lib.cut s [c] = (hd c s, (if s.contains c then tl c s else []), s.contains c) := by
  unfold Lib.cut
  rw [index_one]
  cases hs : s.contains c
  · simp [hd_of_not hs]
  · simp only [if_true]
    rw [if_pos (by omega)]
    have h1 := hd_tl hs
    refine Prod.ext ?_ (Prod.ext ?_ rfl)
    · show s.take ((hd c s).length : Int).toNat = hd c s
      rw [Int.toNat_natCast]
      generalize hd c s = a at h1 ⊢
      rw [h1, List.take_left]
    · show s.drop (((hd c s).length : Int).toNat + [c].length) = tl c s
      rw [Int.toNat_natCast]
      rfl
theorem cut_any (s : List UInt8) (c : UInt8) (w : World) (hl : s.length ≤ 2097152) (hm : Lim w) : Calls Tryd.prog 23 #[.string ⟨s.toArray⟩, .string ⟨#[c]⟩] w fun e w' =>
    e = .returned (.tuple #[.string ⟨(hd c s).toArray⟩, .string ⟨(if s.contains c then tl c s else []).toArray⟩, .bool (s.contains c)]) ∧ ∃ n, w' = w.drewN n := by
  obtain ⟨m, hm⟩ := hm
  refine (Tryd.strings_Cut ⟨s.toArray⟩ ⟨#[c]⟩ m w (by simp [ByteArray.size]; omega) hm).mono ?_
  rintro e w' ⟨rfl, h⟩
  rw [show Lib.cut (⟨s.toArray⟩ : ByteArray).data.toList (⟨#[c]⟩ : ByteArray).data.toList = Lib.cut s [c] from rfl, cut_one]
  exact ⟨rfl, h⟩
set_option maxRecDepth 100000 in
set_option maxHeartbeats 4000000 in
theorem bsig_any (n : List UInt8) (w : World) (hm : Lim w) : Calls Tryd.prog 17 #[.string ⟨n.toArray⟩] w fun e w' => (∃ t : List UInt8, e = .returned (.tuple #[.string ⟨t.toArray⟩, .bool (sigH.contains n)])) ∧ Below w.heap.size w w' := by
  go_enter Tryd.func17, Tryd.ntmps17
  go_wp2_with fail
  refine Calls.cast (b := #[.string sigV, .string ⟨#[10]⟩]) (by kernel_rfl) ((sigSplit_any w hm).mono ?_)
  rintro e w1 ⟨rfl, hw1⟩
  have hB := Blk.new w 9 (strs sigL).toArray
  have hb := (Below.refl w.heap.size w).alloc (Nat.le_refl _) (.cells (strs sigL).toArray 9)
  rw [← hw1] at hB hb
  obtain ⟨b, hbb⟩ : ∃ b, w.heap.size = b := ⟨_, rfl⟩
  have HB := Lib.hid hbb
  rw [hbb] at hB
  rw [hbb]
  clear hw1 hbb
  have hm1 := hm.keepB hb
  rw [HB.out] at hb
  clear hm
  go_wp2_with fail
  go_loopw [11] (fun v wr => ∃ k : Nat, k ≤ 99 ∧ v = .int .i64 (k : Int) ∧ Hid (sigH.contains n = ((sigL.drop k).map (hd 32)).contains n) ∧ Below b w wr ∧ Blk wr b 9 (strs sigL).toArray ∧ Lim wr) (fun v _ => 99 - (RowKit.intOf v).toNat)
  case atStart => exact ⟨0, by omega, rfl, Lib.hid rfl, hb, hB, hm1⟩
  case round =>
    clear hb hB hm1
    obtain ⟨k, hk, rfl, HC, hb, hB, hm1⟩ := hrel
    have hlen : sigL.length = 99 := by decide +kernel
    by_cases hlt : k < 99
    · obtain ⟨x, hx⟩ : ∃ x, sigL[k]? = some x := ⟨sigL[k], List.getElem?_eq_getElem (by omega)⟩
      have hxl : x.length ≤ 100 := by
        have := List.all_eq_true.1 (show (sigL.all fun s => decide (s.length ≤ 100)) = true by decide +kernel) x (List.mem_of_getElem? hx)
        simpa using this
      have hdr : sigL.drop k = x :: sigL.drop (k + 1) := by
        obtain ⟨h1, rfl⟩ := List.getElem?_eq_some_iff.1 hx
        exact List.drop_eq_getElem_cons h1
      have hcell : wr.cell? ⟨b, k, none⟩ = some (.string ⟨x.toArray⟩) := by
        rw [hB.cell k]
        simp [strs, hx]
      have HD := Lib.hid hdr
      clear hx hdr
      go_wp2_with fail
      refine (cut_any x 32 wr (by omega) hm1).mono ?_
      rintro e w2 ⟨rfl, q, rfl⟩
      have hbd := below_drewN hb q
      have hBd := hB.drewN q
      have hmd : Lim (wr.drewN q) := hm1
      generalize wr.drewN q = w2 at hbd hBd hmd ⊢
      generalize x.contains 32 = xc
      generalize (if xc = true then tl 32 x else []) = xt
      obtain ⟨y, hy⟩ : ∃ y, hd 32 x = y := ⟨_, rfl⟩
      have HY := Lib.hid hy
      rw [hy]
      clear hb hB hm1 hcell hy
      cases hq : (y == n)
      · have HN := Lib.hid (show sigH.contains n = ((sigL.drop (k + 1)).map (hd 32)).contains n from by
          rw [HC.out, HD.out, List.map_cons, List.contains_cons, HY.out, show (n == y) = false from by rw [beq_eq_false_iff_ne] at hq ⊢; exact fun e => hq e.symm, Bool.false_or])
        go_wp2_with fail
        go_roundw
        case rel => exact ⟨k + 1, by omega, by go_num, HN, hbd, hBd, hmd⟩
        case measure => simp [RowKit.intOf]; omega
      · have HN := Lib.hid (show sigH.contains n = true from by
          rw [HC.out, HD.out, List.map_cons, List.contains_cons, HY.out, show (n == y) = true from by rw [beq_iff_eq] at hq ⊢; exact hq.symm, Bool.true_or])
        go_wp2_with fail
        go_ret2
        exact ⟨⟨xt, by rw [HN.out]; rfl⟩, by rw [HB.out]; exact hbd⟩
    · have HN := Lib.hid (show sigH.contains n = false from by
        rw [HC.out, List.drop_eq_nil_of_le (by omega)]
        rfl)
      go_wp2_with fail
      go_ret2
      exact ⟨⟨[], by rw [HN.out]; rfl⟩, by rw [HB.out]; exact hb⟩
end Go.Proofs.YtfpmnkokmlghmaaDoor
