/- Proved here: lemmas and contracts (NoneWalk) for the laws of this seat, for all values of the stated types; no further condition. -/
import Derived.Test.YtonddkmncfjhoaaNew
import Derived.Test.YtonddkmncfjhoaaEq
open Go Go.RowKit Go.Lib
namespace Go.Proofs.L
theorem xL_cells (X : Nat → Nat) : (xL X).toArray = cellsK .u32 ((List.range 32).map fun i => (X i : Int)) := by simp [xL, cellsK]
theorem stL_extract (S : Sta) : (stL S).toArray.extract 3 (3 + 32) = (xL S.x).toArray := by
  rw [List.extract_toArray]
  congr 1
theorem eqFields_true {P : Program} (w : World) {d : Nat} {xs ys : Array Value} {f : Field} {fs : List Field} {a b : Value} (hn : f.name ≠ "_") (ha : (part f.type xs f.offset).run P w = .ok a w) (hb : (part f.type ys f.offset).run P w = .ok b w)
    (he : (Op.equalIn d f.type a b).run P w = .ok true w) : (Op.eqFields d xs ys (f :: fs)).run P w = (Op.eqFields d xs ys fs).run P w := by
  simp [Op.eqFields, hn, Sem.run_bind, ha, hb, he]
theorem eqSd (S : Sta) (d : Nat) (w : World) : (Op.equalIn (d + 3) 40 (.agg (stL S).toArray) (.agg (stL S).toArray)).run Try.prog w = .ok true w := by
  have hf : (Try.prog.fieldsOf 40).toList.map (fun f => (f.name == "_", f.type, f.offset)) = [(false, 3, 0), (false, 31, 1), (false, 31, 2), (false, 38, 3)] := by kernel_rfl
  rw [run_equalIn_struct w (d + 2) 40 _ _ (by kernel_rfl) (by kernel_rfl)]
  generalize (Try.prog.fieldsOf 40).toList = fs at hf
  obtain ⟨f0, l0, rfl, h0, hf⟩ := List.map_eq_cons_iff.1 hf
  obtain ⟨f1, l1, rfl, h1, hf⟩ := List.map_eq_cons_iff.1 hf
  obtain ⟨f2, l2, rfl, h2, hf⟩ := List.map_eq_cons_iff.1 hf
  obtain ⟨f3, l3, rfl, h3, hf⟩ := List.map_eq_cons_iff.1 hf
  obtain rfl := List.map_eq_nil_iff.1 hf
  simp only [Prod.mk.injEq, beq_eq_false_iff_ne, ne_eq] at h0 h1 h2 h3
  obtain ⟨n0, t0, o0⟩ := h0
  obtain ⟨n1, t1, o1⟩ := h1
  obtain ⟨n2, t2, o2⟩ := h2
  obtain ⟨n3, t3, o3⟩ := h3
  have ha3 : (isAgg 3).run Try.prog w = .ok false w := by kernel_rfl
  have ha31 : (isAgg 31).run Try.prog w = .ok false w := by kernel_rfl
  have p0 : (part 3 (stL S).toArray 0).run Try.prog w = .ok (.int .i64 S.s) w := by
    simp [part, Sem.run_bind, ha3, stL_0]
  have p1 : (part 31 (stL S).toArray 1).run Try.prog w = .ok (.int .u32 S.c) w := by
    simp [part, Sem.run_bind, ha31, stL_1]
  have p2 : (part 31 (stL S).toArray 2).run Try.prog w = .ok (.int .u32 S.p) w := by
    simp [part, Sem.run_bind, ha31, stL_2]
  have p3 : (part 38 (stL S).toArray 3).run Try.prog w = .ok (.agg (cellsK .u32 ((List.range 32).map fun i => (S.x i : Int)))) w := by
    rw [← xL_cells]
    simp only [part, Sem.run_bind, aggT_isAgg a38, aggT_size a38, Result.andThen_ok, if_true, Sem.run_pure]
    rw [stL_extract]
  have e0 : (Op.equalIn (d + 2) 3 (.int .i64 S.s) (.int .i64 S.s)).run Try.prog w = .ok true w := by
    rw [run_equalIn_int w (d + 1) 3 .i64 .i64 _ _ Try.underlying3]; simp
  have e1 : ∀ z, (Op.equalIn (d + 2) 31 (.int .u32 z) (.int .u32 z)).run Try.prog w = .ok true w := fun z => by
    rw [run_equalIn_int w (d + 1) 31 .u32 .u32 _ _ Try.underlying31]; simp
  have e3 : (Op.equalIn (d + 2) 38 (.agg (cellsK .u32 ((List.range 32).map fun i => (S.x i : Int)))) (.agg (cellsK .u32 ((List.range 32).map fun i => (S.x i : Int))))).run Try.prog w = .ok true w := by
    rw [run_equalIn_ints w d 38 31 32 .u32 _ _ Try.underlying38 Try.underlying31 (by kernel_rfl) (by simp) (by simp)]; simp
  rw [eqFields_true w n0 (by rw [t0, o0]; exact p0) (by rw [t0, o0]; exact p0) (by rw [t0]; exact e0), eqFields_true w n1 (by rw [t1, o1]; exact p1) (by rw [t1, o1]; exact p1) (by rw [t1]; exact e1 _),
    eqFields_true w n2 (by rw [t2, o2]; exact p2) (by rw [t2, o2]; exact p2) (by rw [t2]; exact e1 _), eqFields_true w n3 (by rw [t3, o3]; exact p3) (by rw [t3, o3]; exact p3) (by rw [t3]; exact e3)]
  rfl
theorem eqS (S : Sta) (w : World) : (Op.equalIn 10000 40 (.agg (stL S).toArray) (.agg (stL S).toArray)).run Try.prog w = .ok true w := eqSd S 9997 w
theorem nextT_det {f n t a b} (h1 : NextT f n t a) (h2 : NextT f n t b) : a = b := by
  rcases h1 with ⟨k, hk, hno, hz, rfl⟩ | ⟨hno, rfl⟩ <;> rcases h2 with ⟨j, hj, gno, gz, rfl⟩ | ⟨gno, rfl⟩
  · have : k = j := by
      rcases Nat.lt_trichotomy k j with h | h | h
      · exact absurd hz (gno k h)
      · exact h
      · exact absurd gz (hno j h)
    rw [this]
  · exact absurd hz (gno k hk)
  · exact absurd gz (hno j hj)
  · rfl
theorem fit_ok (w : World) : Calls Try.prog 6 #[] w fun e w' => e = .returned (.bool true) ∧ Below w.heap.size w w' := by
  obtain ⟨N, hN⟩ : ∃ N, N = w.heap.size := ⟨_, rfl⟩
  obtain ⟨W1, hW1⟩ : ∃ W1, W1 = w.alloc (.cells #[.int .u32 4, .int .u32 8, .int .u32 12] 31) := ⟨_, rfl⟩
  have hB1 : Below N w W1 := by rw [hW1, hN]; exact (Below.refl _ _).alloc (Nat.le_refl _) _
  have hr1 : W1.row? N = some #[.int .u32 4, .int .u32 8, .int .u32 12] := by rw [hW1]; exact row_alloc_at _ _ _ _ hN
  have hNew := Lib.hid (new_in (some ⟨N, 0, none⟩) N 0 3 3 (fun k => 4 * k + 4) W1 (by omega) (by omega) rfl (fun k hk => by
    rw [Nat.zero_add, row_cell hr1]
    have : k = 0 ∨ k = 1 ∨ k = 2 := by omega
    rcases this with rfl | rfl | rfl <;> rfl))
  have hle : N ≤ W1.heap.size := by have := hB1.size; omega
  have HB1 := Lib.hid hB1
  have HLE := Lib.hid hle
  have HN := Lib.hid hN
  rw [← hN]
  clear hB1 hr1 hle
  go_enter Try.func6, Try.ntmps6
  go_wp2_with fail
  rw [← hN, ← hW1]
  clear hN hW1
  refine hNew.out.mono ?_
  rintro e w2 ⟨rfl, g, o, c, h2, hg, hc2⟩
  have HB2 : Hid (Below N w w2) := Lib.hid (HB1.out.trans (hc2.below (by simp) HLE.out))
  generalize W1.heap.size = b at *
  have HG := Lib.hid hg
  have HP := Lib.hid (pass_in 0 h2 (by omega) (by omega))
  clear h2 hc2 hNew HB1 hg
  go_wp2_with fail
  refine HP.out.mono ?_
  rintro e w3 ⟨rfl, t', hn, h3, hc3⟩
  obtain rfl : t' = ((1 : Nat) : Int) := nextT_det hn (.inl ⟨0, by omega, fun j hj => by omega, rfl, rfl⟩)
  have HB3 : Hid (Below N w w3) := Lib.hid (HB2.out.trans (hc3.below (by simp; exact HLE.out) (by have := HB2.out.size; have := HN.out; omega)))
  have HE := Lib.hid (end_in 1 h3 (by omega) (by omega) 1 5)
  clear hn h3 hc3 HP HB2
  go_wp2_with fail
  refine HE.out.mono ?_
  rintro e w4 ⟨rfl, t', hn, h4, hc4⟩
  obtain rfl : t' = ((2 : Nat) : Int) := nextT_det hn (.inl ⟨0, by omega, fun j hj => by omega, rfl, rfl⟩)
  have HB4 : Hid (Below N w w4) := Lib.hid (HB3.out.trans (hc4.below (by simp; exact ⟨HLE.out, by have := HLE.out; have := HG.out; omega⟩) (by have := HB3.out.size; have := HN.out; omega)))
  have HT := Lib.hid (turn_in h4)
  have H4 := Lib.hid h4
  have HS := Lib.hid (status_in h4 1 (by omega))
  clear hn h4 hc4 HE HB3
  go_wp2_with fail
  refine HT.out.mono ?_
  rintro e w' ⟨rfl, rfl⟩
  rw [if_neg (by decide)]
  go_wp2_with fail
  refine HS.out.mono ?_
  rintro e w5 ⟨rfl, hc5⟩
  have HB5 : Hid (Below N w w5) := Lib.hid (HB4.out.trans (hc5.below (by simp) (by have := HB4.out.size; have := HN.out; omega)))
  have hC := Lib.hid (count_in (H4.out.keep hc5 (by simp) (by simp)))
  have heq : ∀ W, (Op.equalIn 10000 40 (.agg (stL (ups (entSta fun k => 4 * k + 4) 1 (endSta (entSta (fun k => 4 * k + 4) 1) 1 5) 1)).toArray) (.agg (stL ⟨1, 5, 8, fun _ => 0⟩).toArray)).run Try.prog W = .ok true W := fun W => eqS _ W
  rw [show (stL ⟨1, 5, 8, fun _ => 0⟩).toArray = #[.int .i64 1, .int .u32 5, .int .u32 8, .int .u32 0, .int .u32 0, .int .u32 0, .int .u32 0, .int .u32 0, .int .u32 0, .int .u32 0, .int .u32 0, .int .u32 0, .int .u32 0, .int .u32 0, .int .u32 0, .int .u32 0, .int .u32 0, .int .u32 0, .int .u32 0, .int .u32 0, .int .u32 0, .int .u32 0, .int .u32 0, .int .u32 0, .int .u32 0, .int .u32 0, .int .u32 0, .int .u32 0, .int .u32 0, .int .u32 0, .int .u32 0, .int .u32 0, .int .u32 0, .int .u32 0, .int .u32 0] from rfl] at heq
  generalize (stL (ups (entSta fun k => 4 * k + 4) 1 (endSta (entSta (fun k => 4 * k + 4) 1) 1 5) 1)).toArray = A at *
  clear hc5
  go_wp2_with fail
  refine hC.out.mono ?_
  rintro e w' ⟨rfl, rfl⟩
  go_wp2
  go_ret
  exact ⟨rfl, HB5.out⟩
theorem none_walk (i : Int) (l : Value) (w : World) : Calls Try.prog 5 #[.int .i64 i, l] w fun e w' => e = .returned (.bool true) ∧ Below w.heap.size w w' := by
  have heq : ∀ W, (Op.equalIn 10000 40 (.agg (stL noSta).toArray) (.agg (stL noSta).toArray)).run Try.prog W = .ok true W := fun W => eqS _ W
  have hN := noSta_eq
  go_enter Try.func5, Try.ntmps5
  go_wp2_with fail
  refine (fit_ok w).mono ?_
  rintro e w0 ⟨rfl, hB0⟩
  have HB0 := Lib.hid hB0
  clear hB0 hN heq
  go_wp2_with fail
  refine (keep_nil _ _ w0).mono ?_
  rintro e w1 ⟨rfl, hc1⟩
  have HB1 : Hid (Below w.heap.size w w1) := Lib.hid (HB0.out.trans (hc1.below (by simp) HB0.out.size))
  clear hc1
  go_wp2_with fail
  refine (pass_nil w1).mono ?_
  rintro e w' ⟨rfl, rfl⟩
  go_wp2_with fail
  refine (end_nil _ _ _).mono ?_
  rintro e w' ⟨rfl, rfl⟩
  go_wp2_with fail
  refine (status_nil _ _).mono ?_
  rintro e w2 ⟨rfl, hc2⟩
  have HB2 : Hid (Below w.heap.size w w2) := Lib.hid (HB1.out.trans (hc2.below (by simp) HB1.out.size))
  clear hc2
  have heq : ∀ W, (Op.equalIn 10000 40 (.agg (stL noSta).toArray) (.agg (stL noSta).toArray)).run Try.prog W = .ok true W := fun W => eqS _ W
  rw [noSta_eq] at heq ⊢
  go_wp2_with fail
  refine (count_nil _).mono ?_
  rintro e w' ⟨rfl, rfl⟩
  go_wp2_with fail
  refine (turn_nil _).mono ?_
  rintro e w' ⟨rfl, rfl⟩
  go_wp2_with fail
  refine (set_nil _ _ _).mono ?_
  rintro e w' ⟨rfl, rfl⟩
  go_wp2
  go_ret
  exact ⟨rfl, HB2.out⟩
end Go.Proofs.L
