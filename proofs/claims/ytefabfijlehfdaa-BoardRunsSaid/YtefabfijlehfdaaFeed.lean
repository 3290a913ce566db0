/- Proved here: lemmas and contracts (Feed) for the laws of this seat, for all values of the stated types; no further condition. -/
import Derived.Test.YtefabfijlehfdaaHear
open Go Go.RowKit Go.Lib
namespace Go.Proofs.L
theorem Bd.cf {w bb ib lv L I} (h : Bd w bb ib lv L I) (i : Nat) : w.frozen? ⟨ib, i, none⟩ = false := row_free h.ins i
theorem Bd.cfb {w bb ib lv L I} (h : Bd w bb ib lv L I) (i : Nat) : w.frozen? ⟨bb, i, none⟩ = false := row_free h.row i
theorem strC_set (I : List ByteArray) (k : Nat) (t : ByteArray) : (strC I).setIfInBounds k (.string t) = strC (I.set k t) := by
  simp [strC, List.map_set]
theorem Bd.set {w bb ib lv L I} (h : Bd w bb ib lv L I) (k : Nat) (t : ByteArray) (ht : t.size ≤ 64) : Bd (w.setCell ⟨ib, k, none⟩ (.string t)) bb ib lv L (I.set k t) := by
  refine ⟨?_, ?_, ownsRow_chg h.own ((Chg.refl [ib] w).setCell (Or.inl (by simp)) _) (fun j hj => by simpa using (h.apart j hj).2), h.ne, h.apart, by simpa using h.len1, by simpa using h.len4, ?_, h.texts, h.fits⟩
  · rw [row_setCell, if_neg h.ne, h.row]; simp
  · rw [row_setCell, if_pos rfl, h.ins]; simp [strC_set]
  · intro s hs
    rcases List.mem_or_eq_of_mem_set hs with hs | rfl
    · exact h.small s hs
    · exact ht
theorem Bd.drew {w bb ib lv L I} (h : Bd w bb ib lv L I) : Bd w.drew bb ib lv L I := h.keep (E := []) (Chg.refl _ _).drew (fun _ _ => by simp)
theorem chg_set (w : World) (b k : Nat) (v : Value) : Chg [b] w (w.setCell ⟨b, k, none⟩ v) := (Chg.refl _ _).setCell (Or.inl (by simp)) _
theorem hear_out {w bb ib lv L I} (h : Bd w bb ib lv L I) (i : Int) (hi : inB i I.length = false) :
    Calls Try.prog 11 #[.pointer (some ⟨bb, 0, none⟩), .int .i64 i] w fun e w' => e = .returned (.tuple #[.int .u8 0, .int .i64 1]) ∧ w' = w := by
  have hh := has_any h i
  rw [hi] at hh
  clear h hi
  go_enter Try.func11, Try.ntmps11
  go_wp2_with fail
  refine hh.mono ?_
  rintro e w1 ⟨rfl, rfl⟩
  go_wp2
  go_ret2
  exact ⟨rfl, rfl⟩
theorem isE_of {s : ByteArray} (h : s.size = 0) : s.toList.isEmpty = true := by
  rw [ByteArray.toList_eq, List.isEmpty_iff]
  apply List.eq_nil_of_length_eq_zero
  rw [Array.length_toList]
  exact h
theorem toL_of {s : ByteArray} (h : s.size = 0) : s.toList = [] := by
  rw [ByteArray.toList_eq]
  apply List.eq_nil_of_length_eq_zero
  rw [Array.length_toList]
  exact h
theorem toL_ne {s : ByteArray} (h : 0 < s.size) : ¬ s.toList = [] := by
  rw [ByteArray.toList_eq]
  intro e
  have := congrArg List.length e
  rw [Array.length_toList] at this
  change s.size = 0 at this
  omega
theorem isE_ne {s : ByteArray} (h : 0 < s.size) : s.toList.isEmpty = false := by
  rw [List.isEmpty_eq_false_iff]; exact toL_ne h
theorem hear_empty {w bb ib lv L I} (h : Bd w bb ib lv L I) (k : Nat) (hk : k < I.length) (hs : I[k].size = 0) :
    Calls Try.prog 11 #[.pointer (some ⟨bb, 0, none⟩), .int .i64 (k : Int)] w fun e w' => e = .returned (.tuple #[.int .u8 0, .int .i64 17]) ∧ w' = w := by
  have hh := has_any h k
  rw [show inB (k : Int) I.length = true from by simp [inB, hk]] at hh
  have c2 := h.c2
  have ci := h.ci k hk
  have l4 := h.len4
  obtain ⟨n, hn⟩ : ∃ n, n = I.length := ⟨_, rfl⟩
  obtain ⟨s, hs'⟩ : ∃ s, s = I[k] := ⟨_, rfl⟩
  rw [← hs'] at ci hs
  rw [← hn] at c2 l4 hk
  have e1 := isE_of hs
  have e2 := toL_of hs
  have k0 : (0 : Int) ≤ (k : Int) := Int.natCast_nonneg _
  have k1 : (k : Int) < (n : Int) := by omega
  clear hs' hn h hs
  go_enter Try.func11, Try.ntmps11
  go_wp2_with fail
  refine hh.mono ?_
  rintro e w1 ⟨rfl, rfl⟩
  go_wp2
  go_ret2
  exact ⟨rfl, rfl⟩
theorem hear_ok {w bb ib lv L I} (h : Bd w bb ib lv L I) (k : Nat) (hk : k < I.length) (hs : 0 < I[k].size) :
    Calls Try.prog 11 #[.pointer (some ⟨bb, 0, none⟩), .int .i64 (k : Int)] w fun e w' => e = .returned (.tuple #[.int .u8 (I[k][0].toNat : Int), .int .i64 0]) ∧
      Bd w' bb ib lv L (I.set k (I[k].extract 1 I[k].size)) ∧ Chg [ib] w w' := by
  have hh := has_any h k
  rw [show inB (k : Int) I.length = true from by simp [inB, hk]] at hh
  have hsm := h.small I[k] (List.getElem_mem hk)
  refine (hear_walk hk h.len4 h.c2 (h.ci k hk) (h.cf k) hs (by unfold maxLen; omega) hh).mono ?_
  rintro e w' ⟨rfl, rfl⟩
  exact ⟨rfl, (h.set k _ (by simp; omega)).drew, (chg_set _ _ _ _).drew⟩
theorem feed_out {w bb ib lv L I} (h : Bd w bb ib lv L I) (i : Int) (s : ByteArray) (hi : inB i I.length = false) :
    Calls Try.prog 8 #[.pointer (some ⟨bb, 0, none⟩), .int .i64 i, .string s] w fun e w' => e = .returned (.int .i64 1) ∧ w' = w := by
  have hh := has_any h i
  rw [hi] at hh
  clear h hi
  go_enter Try.func8, Try.ntmps8
  go_wp2_with fail
  refine hh.mono ?_
  rintro e w1 ⟨rfl, rfl⟩
  go_wp2
  go_ret
  exact ⟨rfl, rfl⟩
theorem feed_full {w bb ib lv L I} (h : Bd w bb ib lv L I) (k : Nat) (hk : k < I.length) (t : ByteArray) (ht : t.size ≤ 140737488355328) (hf : 64 < I[k].size + t.size) :
    Calls Try.prog 8 #[.pointer (some ⟨bb, 0, none⟩), .int .i64 (k : Int), .string t] w fun e w' => e = .returned (.int .i64 16) ∧ w' = w := by
  have hh := has_any h k
  rw [show inB (k : Int) I.length = true from by simp [inB, hk]] at hh
  have hsm := h.small I[k] (List.getElem_mem hk)
  have c2 := h.c2
  have ci := h.ci k hk
  have l4 := h.len4
  obtain ⟨n, hn⟩ : ∃ n, n = I.length := ⟨_, rfl⟩
  obtain ⟨s, hs'⟩ : ∃ s, s = I[k] := ⟨_, rfl⟩
  rw [← hs'] at ci hf hsm
  rw [← hn] at c2 l4 hk
  have k0 : (0 : Int) ≤ (k : Int) := Int.natCast_nonneg _
  have k1 : (k : Int) < (n : Int) := by omega
  clear hs' hn h
  have d1 : decide ((s.size : Int) + t.size > 64) = true := by simp; omega
  have d2 : decide (64 < (s.size : Int) + t.size) = true := by simp; omega
  go_enter Try.func8, Try.ntmps8
  go_wp2_with fail
  refine hh.mono ?_
  rintro e w1 ⟨rfl, rfl⟩
  go_wp2
  go_ret
  exact ⟨rfl, rfl⟩
theorem feed_ok {w bb ib lv L I} (h : Bd w bb ib lv L I) (k : Nat) (hk : k < I.length) (t : ByteArray) (hf : I[k].size + t.size ≤ 64) :
    Calls Try.prog 8 #[.pointer (some ⟨bb, 0, none⟩), .int .i64 (k : Int), .string t] w fun e w' => e = .returned (.int .i64 0) ∧ Bd w' bb ib lv L (I.set k (I[k] ++ t)) ∧ Chg [ib] w w' := by
  have hh := has_any h k
  rw [show inB (k : Int) I.length = true from by simp [inB, hk]] at hh
  have c2 := h.c2
  have ci := h.ci k hk
  have cf := h.cf k
  have l4 := h.len4
  have hB := h.set k (I[k] ++ t) (by simpa [ByteArray.size_append] using hf)
  have HB := Lib.hid hB
  obtain ⟨n, hn⟩ : ∃ n, n = I.length := ⟨_, rfl⟩
  obtain ⟨s, hs'⟩ : ∃ s, s = I[k] := ⟨_, rfl⟩
  rw [← hs'] at ci hf HB ⊢
  rw [← hn] at c2 l4 hk
  have k0 : (0 : Int) ≤ (k : Int) := Int.natCast_nonneg _
  have k1 : (k : Int) < (n : Int) := by omega
  have d1 : decide ((s.size : Int) + t.size > 64) = false := by simp; omega
  have d2 : decide (64 < (s.size : Int) + t.size) = false := by simp; omega
  clear hs' hn h hB
  go_enter Try.func8, Try.ntmps8
  go_wp2_with fail
  refine hh.mono ?_
  rintro e w1 ⟨rfl, rfl⟩
  go_wp2
  go_ret
  exact ⟨rfl, HB.out, chg_set _ _ _ _⟩
end Go.Proofs.L
