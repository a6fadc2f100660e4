/- strings.SplitSeq at a separator of one byte: what its iterator gives. Nothing is claimed here. -/
import Derived.Test.YtegfhjndbnipfaaGreatDoorSeq
namespace Go.Proofs.YtegfhjndbnipfaaGreatDoor
open Go.RowKit Go.Shelf Go.Lib
attribute [local go_sem] Oper.semAt_some

def bs (l : List UInt8) : Value := .string ⟨l.toArray⟩
theorem Blk.keptAt {B g : Nat} {w W : World} {t : TypeId} {cs : Array Value} (h : Blk w g t cs) (hk : KeptAt B w W) (h1 : B ≤ g) (h2 : g < B + 3) : Blk W g t cs := (hk.2 g h1 h2).trans h

/-- how long the string in a block is -/
def strAt (w : World) (B : Nat) : Nat := match w.cell? ⟨B, 0, none⟩ with
  | some (.string s) => s.size
  | _ => 0
theorem strAt_blk {w : World} {B t : Nat} {l : List UInt8} (h : Blk w B t #[.string ⟨l.toArray⟩]) : strAt w B = l.length := by
  unfold strAt
  rw [h.cell 0]
  simp [ByteArray.size]

theorem ba_ext {a b : ByteArray} (h : a.data.toList = b.data.toList) : a = b := by
  cases a; cases b
  simp only [ByteArray.mk.injEq]
  exact Array.toList_inj.1 h
theorem extract_take (r : List UInt8) (i : Nat) : (⟨r.toArray⟩ : ByteArray).extract 0 i = ⟨(r.take i).toArray⟩ := ba_ext (by rw [extract_data]; simp)
theorem extract_from (r : List UInt8) (i n : Nat) (h : r.length ≤ n) : (⟨r.toArray⟩ : ByteArray).extract i n = ⟨(r.drop i).toArray⟩ := ba_ext (by rw [extract_data]; show (r.drop i).take (n - i) = r.drop i; exact List.take_of_length_le (by rw [List.length_drop]; omega))

set_option maxRecDepth 100000 in
set_option maxHeartbeats 2000000 in
theorem splitSeq1_in (n : Nat) (c : UInt8) (l0 : List UInt8) (hl : l0.length ≤ 140737488355328) (B : Nat) (w : World)
    (hS : Blk w B 9 #[.string ⟨l0.toArray⟩]) (hC : Blk w (B + 1) 9 #[.string ⟨#[c]⟩]) (hZ : Blk w (B + 2) 3 #[.int .i64 0]) :
    SeqW Fence.wide n Tryz.prog 45 #[.pointer (some ⟨B + 1, 0, none⟩), .pointer (some ⟨B, 0, none⟩), .pointer (some ⟨B + 2, 0, none⟩)] (fun x : List UInt8 => #[.string ⟨x.toArray⟩]) B
      (fun xs => xs = splitB c l0) (fun pre => pre <+: splitB c l0) w := by
  intro l J Jx W hW hJ hJs hY h0
  have hS1 := hS.keptAt hW (Nat.le_refl _) (by omega)
  have hC1 := hC.keptAt hW (by omega) (by omega)
  have hZ1 := hZ.keptAt hW (by omega) (by omega)
  clear hS hC hZ
  have hmx : Tryz.prog.follows .mixedOrders = true := by kernel_rfl
  refine callsIn_of_wp Tryz.func45 rfl trivial ?_ rfl
  simp only [Tryz.ntmps45, List.size_toArray, List.length_cons, List.length_nil, Nat.reduceAdd, Nat.reduceSub, Array.replicate_succ, Array.replicate_zero, List.push_toArray, List.append_toArray, List.nil_append, List.cons_append]
  obtain ⟨r1, r2, r3⟩ := hC1.rules
  gi_wp2
  clear r1 r2 r3
  gi_loopw [7] (fun _ wr => ∃ (pre : List (List UInt8)) (r : List UInt8), J pre wr ∧ splitB c l0 = pre ++ splitB c r ∧ r.length ≤ l0.length ∧ Blk wr B 9 #[.string ⟨r.toArray⟩] ∧ Blk wr (B + 1) 9 #[.string ⟨#[c]⟩] ∧ Blk wr (B + 2) 3 #[.int .i64 0])
    (fun _ wr => strAt wr B)
  case atStart => exact ⟨[], l0, h0, rfl, Nat.le_refl _, hS1, hC1, hZ1⟩
  case round =>
    clear hS1 hC1 hZ1
    obtain ⟨pre, r, hJr, hsp, hrl, hS, hC, hZ⟩ := hrel
    have HS := Lib.hid hsp
    clear hsp
    obtain ⟨a1, a2, a3⟩ := hS.rules
    obtain ⟨b1, b2, b3⟩ := hC.rules
    obtain ⟨c1, c2, c3⟩ := hZ.rules
    have hix := indexByte_ge r c
    by_cases hneg : indexByte r c < 0
    · have HN := Lib.hid (splitB_none c r hneg)
      have hI : ∀ W0 : World, Calls Tryz.prog 44 #[.string ⟨r.toArray⟩, .string ⟨#[c]⟩] W0 fun e w' => e = .returned (.int .i64 (-1)) ∧ W0 = w' := fun W0 => by
        refine (Tryz.strings_Index_one ⟨r.toArray⟩ c W0).mono ?_
        rintro e w' ⟨rfl, rfl⟩
        exact ⟨ret_int (by simp only [List.toList_toArray]; omega), rfl⟩
      have HI := Lib.hid hI
      clear hI hix hneg
      obtain ⟨fn, tmps, assign, body, hy, hR⟩ := hY pre r wr hJr (by rw [HS.out, HN.out]; exact List.prefix_rfl)
      gi_wp2_with fail
      refine ⟨trivial, (fun h => by simp [Fence.wide] at h), ?_⟩
      refine (callsIn_wide.2 (HI.out _)).mono ?_
      rintro e w' ⟨rfl, rfl⟩
      gi_wp2
      refine ⟨(fun h => by simp [Fence.wide] at h), hR.mono ?_⟩
      rintro e W3 (⟨rfl, hJ3, hk3⟩ | ⟨rfl, hJx3⟩)
      · gi_wp2
        go_end0
        exact ⟨⟨_, rfl⟩, .inl ⟨pre ++ [r], by rw [HS.out, HN.out], hJ3⟩⟩
      · gi_wp2
        go_end0
        exact ⟨⟨_, rfl⟩, .inr ⟨pre ++ [r], by rw [HS.out, HN.out]; exact List.prefix_rfl, hJx3⟩⟩
    · obtain ⟨i, hi⟩ := Int.eq_ofNat_of_zero_le (show 0 ≤ indexByte r c by omega)
      obtain ⟨hlt, hsp⟩ := splitB_some c r i hi
      have HN := Lib.hid hsp
      have hI : ∀ W0 : World, Calls Tryz.prog 44 #[.string ⟨r.toArray⟩, .string ⟨#[c]⟩] W0 fun e w' => e = .returned (.int .i64 i) ∧ W0 = w' := fun W0 => by
        refine (Tryz.strings_Index_one ⟨r.toArray⟩ c W0).mono ?_
        rintro e w' ⟨rfl, rfl⟩
        exact ⟨ret_int (by simp only [List.toList_toArray]; omega), rfl⟩
      have HI := Lib.hid hI
      clear hI hix hneg hi hsp
      obtain ⟨fn, tmps, assign, body, hy, hR⟩ := hY pre (r.take i) wr hJr (by rw [HS.out, HN.out]; exact ⟨splitB c (r.drop (i + 1)), by simp⟩)
      rw [← extract_take] at hy
      gi_wp2_with fail
      refine ⟨trivial, (fun h => by simp [Fence.wide] at h), ?_⟩
      refine (callsIn_wide.2 (HI.out _)).mono ?_
      rintro e w' ⟨rfl, rfl⟩
      gi_wp2
      refine ⟨(fun h => by simp [Fence.wide] at h), hR.mono ?_⟩
      rintro e W3 (⟨rfl, hJ3, hk3⟩ | ⟨rfl, hJx3⟩)
      · have hS3 := hS.keptAt hk3 (Nat.le_refl _) (by omega)
        have hC3 := hC.keptAt hk3 (by omega) (by omega)
        have hZ3 := hZ.keptAt hk3 (by omega) (by omega)
        obtain ⟨d1, d2, d3⟩ := hS3.rules
        obtain ⟨e1, e2, e3⟩ := hC3.rules
        gi_wp2
        go_roundw
        all_goals rw [extract_from r (i + 1) r.length (Nat.le_refl _)]
        case rel => exact ⟨pre ++ [r.take i], r.drop (i + 1), hJs _ _ _ hJ3, by rw [HS.out, HN.out]; simp, by rw [List.length_drop]; omega, hS3.set_ 0 _, hC3.far (by simp) _, hZ3.far (by simp) _⟩
        case measure => rw [strAt_blk hS, strAt_blk (l := r.drop (i + 1)) (hS3.set_ 0 _), List.length_drop]; omega
      · gi_wp2
        refine bodyPost_ret (results_none rfl _ _ _) rfl ?_
        exact ⟨⟨_, rfl⟩, .inr ⟨pre ++ [r.take i], by rw [HS.out, HN.out]; exact ⟨splitB c (r.drop (i + 1)), by simp⟩, hJx3⟩⟩

/-- strings.SplitSeq: three blocks, and the iterator's value -/
theorem splitSeq_any (s : ByteArray) (c : ByteArray) (w : World) :
    Calls Tryz.prog 20 #[.string s, .string c] w fun e w' => e = .returned (.func (.func 45) #[] #[.pointer (some ⟨w.heap.size + 1, 0, none⟩), .pointer (some ⟨w.heap.size, 0, none⟩), .pointer (some ⟨w.heap.size + 2, 0, none⟩)]) ∧
      w' = ((w.alloc (.cells #[.string s] 9)).alloc (.cells #[.string c] 9)).alloc (.cells #[.int .i64 0] 3) := by
  go_enter Tryz.func20, Tryz.ntmps20
  go_wp2
  go_ret
  exact ⟨rfl, rfl⟩

end Go.Proofs.YtegfhjndbnipfaaGreatDoor
