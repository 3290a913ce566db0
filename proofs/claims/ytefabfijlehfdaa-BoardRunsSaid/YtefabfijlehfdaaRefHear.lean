/- Proved here: lemmas and contracts (RefHear) for the laws of this seat, for all values of the stated types; no further condition. -/
import Derived.Test.YtefabfijlehfdaaRefBoard
open Go Go.RowKit Go.Lib
namespace Go.Proofs.L
theorem rsay_out {w bb ib wv tv L I} (h : Rf w bb ib wv tv L I) (i : Int) (t : ByteArray) (hi : inB i I.length = false) :
    Calls Try.prog 13 #[.pointer (some ⟨bb, 0, none⟩), .int .i64 i, .string t] w fun e w' => e = .returned (.int .i64 1) ∧ w' = w := by
  have c2 := h.c2
  have l4 := h.len4
  obtain ⟨n, hn⟩ : ∃ n, n = I.length := ⟨_, rfl⟩
  rw [← hn] at c2 l4 hi
  clear h hn
  by_cases h0 : i < 0
  · have d0 : decide (i < 0) = true := by simpa using h0
    go_enter Try.func13, Try.ntmps13
    go_wp2
    go_ret
    exact ⟨rfl, rfl⟩
  · have d0 : decide (i < 0) = false := by simpa using h0
    have h1 : (n : Int) ≤ i := by
      simp [inB] at hi; omega
    have d1 : decide (i ≥ (n : Int)) = true := by simpa using h1
    have d2 : decide ((n : Int) ≤ i) = true := by simpa using h1
    go_enter Try.func13, Try.ntmps13
    go_wp2
    go_ret
    exact ⟨rfl, rfl⟩
theorem rfeed_out {w bb ib wv tv L I} (h : Rf w bb ib wv tv L I) (i : Int) (t : ByteArray) (hi : inB i I.length = false) :
    Calls Try.prog 14 #[.pointer (some ⟨bb, 0, none⟩), .int .i64 i, .string t] w fun e w' => e = .returned (.int .i64 1) ∧ w' = w := by
  have c2 := h.c2
  have l4 := h.len4
  obtain ⟨n, hn⟩ : ∃ n, n = I.length := ⟨_, rfl⟩
  rw [← hn] at c2 l4 hi
  clear h hn
  by_cases h0 : i < 0
  · have d0 : decide (i < 0) = true := by simpa using h0
    go_enter Try.func14, Try.ntmps14
    go_wp2
    go_ret
    exact ⟨rfl, rfl⟩
  · have d0 : decide (i < 0) = false := by simpa using h0
    have h1 : (n : Int) ≤ i := by
      simp [inB] at hi; omega
    have d1 : decide (i ≥ (n : Int)) = true := by simpa using h1
    have d2 : decide ((n : Int) ≤ i) = true := by simpa using h1
    go_enter Try.func14, Try.ntmps14
    go_wp2
    go_ret
    exact ⟨rfl, rfl⟩
theorem rhear_out {w bb ib wv tv L I} (h : Rf w bb ib wv tv L I) (i : Int) (hi : inB i I.length = false) :
    Calls Try.prog 15 #[.pointer (some ⟨bb, 0, none⟩), .int .i64 i] w fun e w' => e = .returned (.tuple #[.int .i64 0, .int .i64 1]) ∧ w' = w := by
  have c2 := h.c2
  have l4 := h.len4
  obtain ⟨n, hn⟩ : ∃ n, n = I.length := ⟨_, rfl⟩
  rw [← hn] at c2 l4 hi
  clear h hn
  by_cases h0 : i < 0
  · have d0 : decide (i < 0) = true := by simpa using h0
    go_enter Try.func15, Try.ntmps15
    go_wp2
    go_ret2
    exact ⟨rfl, rfl⟩
  · have d0 : decide (i < 0) = false := by simpa using h0
    have h1 : (n : Int) ≤ i := by
      simp [inB] at hi; omega
    have d1 : decide (i ≥ (n : Int)) = true := by simpa using h1
    have d2 : decide ((n : Int) ≤ i) = true := by simpa using h1
    go_enter Try.func15, Try.ntmps15
    go_wp2
    go_ret2
    exact ⟨rfl, rfl⟩
theorem rfeed_full {w bb ib wv tv L I} (h : Rf w bb ib wv tv L I) (k : Nat) (hk : k < I.length) (t : ByteArray) (ht : I[k].size + t.size ≤ 9223372036854775807) (hf : 64 < I[k].size + t.size) :
    Calls Try.prog 14 #[.pointer (some ⟨bb, 0, none⟩), .int .i64 (k : Int), .string t] w fun e w' => e = .returned (.int .i64 16) ∧ w' = w := by
  have c2 := h.c2
  have ci := h.ci k hk
  have cf := h.cf k
  have l4 := h.len4
  have hsm := h.small I[k] (List.getElem_mem hk)
  obtain ⟨n, hn⟩ : ∃ n, n = I.length := ⟨_, rfl⟩
  obtain ⟨s, hs'⟩ : ∃ s, s = I[k] := ⟨_, rfl⟩
  have k0 : (0 : Int) ≤ (k : Int) := Int.natCast_nonneg _
  have k1 : (k : Int) < (I.length : Int) := by omega
  have d0 : decide ((k : Int) < 0) = false := by simp
  have d1 : decide ((k : Int) ≥ (I.length : Int)) = false := by simp; omega
  have d2 : decide (I.length ≤ k) = false := by simp; omega
  rw [← hs'] at ci hf hsm ht
  rw [← hn] at c2 l4 hk k1 d1 d2
  have e1 : decide ((s.size : Int) + t.size > 64) = true := by simp; omega
  have e2 : decide (64 < (s.size : Int) + t.size) = true := by simp; omega
  clear hs' hn h
  go_enter Try.func14, Try.ntmps14
  go_wp2
  go_ret
  exact ⟨rfl, rfl⟩
theorem rfeed_ok {w bb ib wv tv L I} (h : Rf w bb ib wv tv L I) (k : Nat) (hk : k < I.length) (t : ByteArray) (hf : I[k].size + t.size ≤ 64) :
    Calls Try.prog 14 #[.pointer (some ⟨bb, 0, none⟩), .int .i64 (k : Int), .string t] w fun e w' => e = .returned (.int .i64 0) ∧ Rf w' bb ib wv tv L (I.set k (I[k] ++ t)) ∧ Chg [ib] w w' := by
  have c2 := h.c2
  have ci := h.ci k hk
  have cf := h.cf k
  have l4 := h.len4
  have hsm := h.small I[k] (List.getElem_mem hk)
  obtain ⟨n, hn⟩ : ∃ n, n = I.length := ⟨_, rfl⟩
  obtain ⟨s, hs'⟩ : ∃ s, s = I[k] := ⟨_, rfl⟩
  have k0 : (0 : Int) ≤ (k : Int) := Int.natCast_nonneg _
  have k1 : (k : Int) < (I.length : Int) := by omega
  have d0 : decide ((k : Int) < 0) = false := by simp
  have d1 : decide ((k : Int) ≥ (I.length : Int)) = false := by simp; omega
  have d2 : decide (I.length ≤ k) = false := by simp; omega
  have hB := h.set k (I[k] ++ t) (by simpa [ByteArray.size_append] using hf)
  have HB := Lib.hid hB
  rw [← hs'] at ci hf hsm HB ⊢
  rw [← hn] at c2 l4 hk k1 d1 d2
  have e1 : decide ((s.size : Int) + t.size > 64) = false := by simp; omega
  have e2 : decide (64 < (s.size : Int) + t.size) = false := by simp; omega
  clear hs' hn h hB
  go_enter Try.func14, Try.ntmps14
  go_wp2
  go_ret
  exact ⟨rfl, HB.out, chg_set _ _ _ _⟩
theorem rhear_empty {w bb ib wv tv L I} (h : Rf w bb ib wv tv L I) (k : Nat) (hk : k < I.length) (hs : I[k].size = 0) :
    Calls Try.prog 15 #[.pointer (some ⟨bb, 0, none⟩), .int .i64 (k : Int)] w fun e w' => e = .returned (.tuple #[.int .i64 0, .int .i64 17]) ∧ w' = w := by
  have c2 := h.c2
  have ci := h.ci k hk
  have cf := h.cf k
  have l4 := h.len4
  have hsm := h.small I[k] (List.getElem_mem hk)
  obtain ⟨n, hn⟩ : ∃ n, n = I.length := ⟨_, rfl⟩
  obtain ⟨s, hs'⟩ : ∃ s, s = I[k] := ⟨_, rfl⟩
  have k0 : (0 : Int) ≤ (k : Int) := Int.natCast_nonneg _
  have k1 : (k : Int) < (I.length : Int) := by omega
  have d0 : decide ((k : Int) < 0) = false := by simp
  have d1 : decide ((k : Int) ≥ (I.length : Int)) = false := by simp; omega
  have d2 : decide (I.length ≤ k) = false := by simp; omega
  rw [← hs'] at ci hsm hs
  rw [← hn] at c2 l4 hk k1 d1 d2
  clear hs' hn h
  go_enter Try.func15, Try.ntmps15
  go_wp2
  go_ret2
  exact ⟨rfl, rfl⟩
set_option maxRecDepth 100000 in
set_option maxHeartbeats 1600000 in
theorem rhear_walk {w : World} {bb ib n k : Nat} {s : ByteArray} (hk : k < n) (l4 : n ≤ 4) (c2 : w.cell? ⟨bb, 2, none⟩ = some (.slice (some ⟨ib, 0, none⟩) n n)) (ci : w.cell? ⟨ib, k, none⟩ = some (.string s)) (cf : w.frozen? ⟨ib, k, none⟩ = false)
    (hs : 0 < s.size) (hsm : s.size ≤ 64) :
    Calls Try.prog 15 #[.pointer (some ⟨bb, 0, none⟩), .int .i64 (k : Int)] w fun e w' => e = .returned (.tuple #[.int .i64 (s[0].toNat : Int), .int .i64 0]) ∧ w' = (w.setCell ⟨ib, k, none⟩ (.string (s.extract 1 s.size))).drew := by
  have k0 : (0 : Int) ≤ (k : Int) := Int.natCast_nonneg _
  have k1 : (k : Int) < (n : Int) := by omega
  have d0 : decide ((k : Int) < 0) = false := by simp
  have d1 : decide ((k : Int) ≥ (n : Int)) = false := by simp; omega
  have d2 : decide (n ≤ k) = false := by simp; omega
  have m1 : (1 : Int) ≤ (s.size : Int) := by omega
  have e0 : ((s.size : Int) == 0) = false := by rw [beq_eq_false_iff_ne]; omega
  have hb : s[0].toNat < 256 := UInt8.toNat_lt s[0]
  have hw : wrap64 (s[0].toNat : Int) = (s[0].toNat : Int) := IntWalk.wrap64_in _ (by omega)
  go_enter Try.func15, Try.ntmps15
  go_wp2_with fail
  refine wp_region_C (fun w' => w'.cell? ⟨bb, 2, none⟩ = some (.slice (some ⟨ib, 0, none⟩) n n) ∧ w'.cell? ⟨ib, k, none⟩ = some (.string s)) [(0, 0), (1, 0), (2, 0), (3, 1), (4, 0), (5, 0), (6, 0), (7, 0), (8, 1), (9, 0), (10, 0), (11, 1), (12, 0), (13, 0), (14, 3)] rfl (by kernel_rfl) ?hS ?hT
  case hS => exact ⟨by go_simp, by go_simp⟩
  refine wpT_pure (v := ?_) rfl (by rfl) (fun w' => ?_) ?_
  rotate_left
  · (go_simp; try with_reducible rfl)
  try simp only [Act.put, List.setIfInBounds_toArray, List.set_cons_zero, List.set_cons_succ]
  refine wpT_pure (v := ?_) rfl (by rfl) (fun w' => ?_) ?_
  rotate_left
  · (go_simp; try with_reducible rfl)
  try simp only [Act.put, List.setIfInBounds_toArray, List.set_cons_zero, List.set_cons_succ]
  refine wpT_pure (v := ?_) rfl (by rfl) (fun w' => ?_) ?_
  rotate_left
  · (go_simp; try with_reducible rfl)
  try simp only [Act.put, List.setIfInBounds_toArray, List.set_cons_zero, List.set_cons_succ]
  refine wpT_read (v := ?_) rfl (by rfl) (fun w' hw => ?_) ?_
  rotate_left
  · (obtain ⟨q0, q1⟩ := hw; go_simp; try with_reducible rfl)
  try simp only [Act.put, List.setIfInBounds_toArray, List.set_cons_zero, List.set_cons_succ]
  refine wpT_pure (v := ?_) rfl (by rfl) (fun w' => ?_) ?_
  rotate_left
  · (go_simp; try with_reducible rfl)
  try simp only [Act.put, List.setIfInBounds_toArray, List.set_cons_zero, List.set_cons_succ]
  refine wpT_pure (v := ?_) rfl (by rfl) (fun w' => ?_) ?_
  rotate_left
  · (go_simp; try with_reducible rfl)
  try simp only [Act.put, List.setIfInBounds_toArray, List.set_cons_zero, List.set_cons_succ]
  refine wpT_pure (v := ?_) rfl (by rfl) (fun w' => ?_) ?_
  rotate_left
  · (go_simp; try with_reducible rfl)
  try simp only [Act.put, List.setIfInBounds_toArray, List.set_cons_zero, List.set_cons_succ]
  refine wpT_pure (v := ?_) rfl (by rfl) (fun w' => ?_) ?_
  rotate_left
  · (go_simp; try with_reducible rfl)
  try simp only [Act.put, List.setIfInBounds_toArray, List.set_cons_zero, List.set_cons_succ]
  refine wpT_read (v := ?_) rfl (by rfl) (fun w' hw => ?_) ?_
  rotate_left
  · (obtain ⟨q0, q1⟩ := hw; go_simp; try with_reducible rfl)
  try simp only [Act.put, List.setIfInBounds_toArray, List.set_cons_zero, List.set_cons_succ]
  refine wpT_pure (v := ?_) rfl (by rfl) (fun w' => ?_) ?_
  rotate_left
  · (go_simp; try with_reducible rfl)
  try simp only [Act.put, List.setIfInBounds_toArray, List.set_cons_zero, List.set_cons_succ]
  refine wpT_pure (v := ?_) rfl (by rfl) (fun w' => ?_) ?_
  rotate_left
  · (go_simp; try with_reducible rfl)
  try simp only [Act.put, List.setIfInBounds_toArray, List.set_cons_zero, List.set_cons_succ]
  refine wpT_read (v := ?_) rfl (by rfl) (fun w' hw => ?_) ?_
  rotate_left
  · (obtain ⟨q0, q1⟩ := hw; go_simp; try with_reducible rfl)
  try simp only [Act.put, List.setIfInBounds_toArray, List.set_cons_zero, List.set_cons_succ]
  refine wpT_pure (v := ?_) rfl (by rfl) (fun w' => ?_) ?_
  rotate_left
  · (go_simp; try with_reducible rfl)
  try simp only [Act.put, List.setIfInBounds_toArray, List.set_cons_zero, List.set_cons_succ]
  refine wpT_pure (v := ?_) rfl (by rfl) (fun w' => ?_) ?_
  rotate_left
  · (go_simp; try with_reducible rfl)
  try simp only [Act.put, List.setIfInBounds_toArray, List.set_cons_zero, List.set_cons_succ]
  refine wpT_brk rfl (by rfl) (fun K hK => ?_)
  go_wp2_with fail
  refine wpT_end ?_
  go_wp2
  go_ret2
  exact ⟨rfl, rfl⟩
theorem rhear_ok {w bb ib wv tv L I} (h : Rf w bb ib wv tv L I) (k : Nat) (hk : k < I.length) (hs : 0 < I[k].size) :
    Calls Try.prog 15 #[.pointer (some ⟨bb, 0, none⟩), .int .i64 (k : Int)] w fun e w' => e = .returned (.tuple #[.int .i64 (I[k][0].toNat : Int), .int .i64 0]) ∧ Rf w' bb ib wv tv L (I.set k (I[k].extract 1 I[k].size)) ∧ Chg [ib] w w' := by
  have hsm := h.small I[k] (List.getElem_mem hk)
  refine (rhear_walk hk h.len4 h.c2 (h.ci k hk) (h.cf k) hs hsm).mono ?_
  rintro e w' ⟨rfl, rfl⟩
  exact ⟨rfl, (h.set k _ (by simp; omega)).drew, (chg_set _ _ _ _).drew⟩
end Go.Proofs.L
