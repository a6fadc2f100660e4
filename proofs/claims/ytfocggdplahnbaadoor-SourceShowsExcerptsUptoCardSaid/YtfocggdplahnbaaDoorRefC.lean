/- The reference's SourceLines, Characters: what they compute. Nothing is claimed here. -/
import Derived.Laws.Strings2
import Derived.Test.YtfocggdplahnbaaDoorRefB
namespace Go.Proofs.YtfocggdplahnbaaDoor
open Go.RowKit Go.Shelf Go.Lib

theorem info_str : (Tryd.prog.info? 9).map (fun i => (i.zero, i.size, i.bytes)) = some (some (.string ByteArray.empty), 1, 16) := by kernel_rfl
def strs (l : List (List UInt8)) : List Value := l.map (fun s => Value.string ⟨s.toArray⟩)
theorem strs_snoc (d : List (List UInt8)) (x : List UInt8) : strs (d ++ [x]) = strs d ++ [.string ⟨x.toArray⟩] := by simp [strs]
theorem Row.str {w : World} {A : Option Addr} {l : List (List UInt8)} (h : Row w A (strs l)) {k : Nat} (hk : k < l.length) :
    ∃ b off, A = some ⟨b, off, none⟩ ∧ b < w.heap.size ∧ w.cell? ⟨b, off + k, none⟩ = some (.string ⟨l[k].toArray⟩) := by
  obtain ⟨b, off, e, hlt, hc⟩ := h.at_ (k := k) (by simpa [strs] using hk)
  exact ⟨b, off, e, hlt, hc k _ (by simp [strs, hk])⟩
/-- a slice of strings is handed back -/
def StrPost (l : List (List UInt8)) (w : World) (e : Ending) (w' : World) : Prop :=
  ∃ A c, e = .returned (.slice A l.length c) ∧ l.length ≤ c ∧ Row w' A (strs l) ∧ Below w.heap.size w w'

theorem splitB_cut (c : List UInt8) (h : (10 : UInt8) ∉ c) (l : List UInt8) : splitB 10 (c ++ 10 :: l) = c :: splitB 10 l := by
  have e : splitB 10 (10 :: l) = [] :: splitB 10 l := by conv => lhs; unfold splitB; rw [if_pos rfl]
  have := splitB_pre c h (10 :: l) [] (splitB 10 l) e
  rwa [List.append_nil] at this
theorem splitB_last (c : List UInt8) (h : (10 : UInt8) ∉ c) : splitB 10 c = [c] := by
  have := splitB_pre c h [] [] [] rfl
  rwa [List.append_nil] at this
theorem cat_one (a : List UInt8) (l : List UInt8) (k : Nat) (h : k < l.length) : (⟨a.toArray⟩ : ByteArray) ++ (⟨l.toArray⟩ : ByteArray).extract k (k + 1) = ⟨(a ++ [l[k]]).toArray⟩ := by
  apply ba_ext
  rw [ByteArray.data_append, Array.toList_append, extract_data]
  simp [List.take_one, h]

/-- the loop of SourceLines -/
def LinI (l : List UInt8) (w : World) (v c i : Value) (wr : World) : Prop :=
  ∃ (k : Nat) (d : List (List UInt8)) (cur : List UInt8), i = .int .i64 k ∧ k ≤ l.length ∧ c = .string ⟨cur.toArray⟩ ∧ (10 : UInt8) ∉ cur ∧ cur.length ≤ k ∧ d.length ≤ k ∧ splitB 10 l = d ++ splitB 10 (cur ++ l.drop k) ∧
    wr.ownsRow w.heap.size 9 1 v d.length (strs d) ∧ Below w.heap.size w wr

set_option maxRecDepth 100000 in
set_option maxHeartbeats 1000000 in
theorem sourceLines_any (l : List UInt8) (w : World) (hl : l.length ≤ 1048576) :
    Calls Tryd.prog 10 #[.string ⟨l.toArray⟩] w (StrPost (splitB 10 l) w) := by
  obtain ⟨i0, hi, hz0, hz1, hz2⟩ := info_parts info_str
  go_enter Tryd.func10, Tryd.ntmps10
  go_wp2_with fail
  go_loopw [3, 4, 5] (fun v c i wr => LinI l w v c i wr) (fun _ _ i _ => l.length - (RowKit.intOf i).toNat)
  case atStart => exact ⟨0, [], [], rfl, Nat.zero_le _, rfl, by simp, Nat.le_refl _, Nat.le_refl _, rfl, World.ownsRow_nil _ _ _ _, Below.refl _ _⟩
  case round =>
    obtain ⟨k, d, cur, rfl, hk, rfl, hno, hcl, hdl, hsp, hown, hb⟩ := hrel
    have HSP := Lib.hid hsp
    have HNO := Lib.hid hno
    clear hsp hno
    have hsz := hb.size
    by_cases hlt : k < l.length
    · have hbt := byte_at l k (by simpa [ByteArray.size] using hlt)
      have hdr := List.drop_eq_getElem_cons hlt
      have hbk : bAt l k = l[k].toNat := by simp [bAt, hlt]
      have HDR := Lib.hid hdr
      have HBK := Lib.hid hbk
      have hbl := bAt_lt l k
      clear hdr hbk
      generalize hxx : bAt l k = xb at *
      have HXX := Lib.hid hxx
      clear hxx
      by_cases hx : xb = 10
      · subst hx
        have HE := Lib.hid (show l[k] = 10 from UInt8.toNat_inj.1 (by rw [← HBK.out]; rfl))
        go_wp2_with (at_builtin; refine wpList_append_own_at _ rfl (.tmp 16) (.tmp 18) 31 rfl w.heap.size 9 i0 (.string ByteArray.empty) 1 16 Tryd.underlying31 hi hz0 hz1 hz2 rfl (by decide) _ _ _ rfl (hown.alloc _) ⟨wr.heap.size, 0, none⟩ 1 1 [_] rfl rfl (cell_one_new wr _ _) (by simp [Value.oneCell']) (by unfold maxLen; omega) (by omega) (by simp; omega) ?_; intro v2 w2 hown2 hg2 _ hat2)
        have hb2 := (hb.alloc hb.size _).grown hg2 (by simp; omega) (fun g e => by have := hown.lt g e; omega)
        go_roundw
        case rel =>
          refine ⟨k + 1, d ++ [cur], [], by go_num, by omega, rfl, by simp, by simp, by simp; omega, ?_, ?_, hb2⟩
          · rw [HSP.out, HDR.out, HE.out, splitB_cut cur HNO.out]
            simp
          · rw [strs_snoc, List.length_append, List.length_singleton]
            exact hown2
        case measure => simp [RowKit.intOf]; omega
      · have hxb : ((xb : Int) == 10) = false := by rw [beq_eq_false_iff_ne]; omega
        have HE := Lib.hid (show l[k] ≠ 10 from fun e => hx (by rw [HBK.out, e]; rfl))
        clear hx
        have hsl := fun W : World => run_slice_string (P := Tryd.prog) (w := W) 9 ⟨l.toArray⟩ .i64 .i64 (k : Int) ((k : Int) + 1) Tryd.underlying9 (by omega) (by omega) (by simp [ByteArray.size]; omega)
        simp only [Int.toNat_natCast, show ((k : Int) + 1).toNat = k + 1 by omega] at hsl
        go_wp2_with fail
        go_roundw
        case rel =>
          refine ⟨k + 1, d, cur ++ [l[k]], by go_num, by omega, by rw [cat_one cur l k hlt], ?_, by simp; omega, by omega, ?_, hown, hb⟩
          · intro hm
            rcases List.mem_append.1 hm with hm | hm
            · exact HNO.out hm
            · exact HE.out (List.mem_singleton.1 hm).symm
          · rw [HSP.out, HDR.out]
            simp
        case measure => simp [RowKit.intOf]; omega
    · obtain rfl : k = l.length := by omega
      have HL := Lib.hid (show splitB 10 l = d ++ [cur] by rw [HSP.out, List.drop_length, List.append_nil, splitB_last cur HNO.out])
      go_wp2_with (at_builtin; refine wpList_append_own_at _ rfl (.tmp 27) (.tmp 29) 31 rfl w.heap.size 9 i0 (.string ByteArray.empty) 1 16 Tryd.underlying31 hi hz0 hz1 hz2 rfl (by decide) _ _ _ rfl (hown.alloc _) ⟨wr.heap.size, 0, none⟩ 1 1 [_] rfl rfl (cell_one_new wr _ _) (by simp [Value.oneCell']) (by unfold maxLen; omega) (by omega) (by simp; omega) ?_; intro v2 w2 hown2 hg2 _ hat2)
      have hb2 := (hb.alloc hb.size _).grown hg2 (by simp; omega) (fun g e => by have := hown.lt g e; omega)
      obtain ⟨A, c, rfl, hr, hc⟩ := own_form hown2
      go_wp2_with fail
      go_ret
      refine ⟨A, c, by rw [HL.out, List.length_append, List.length_singleton]; rfl, by rw [HL.out, List.length_append, List.length_singleton]; exact hc, ?_, hb2⟩
      rw [HL.out, strs_snoc]
      exact hr

end Go.Proofs.YtfocggdplahnbaaDoor
