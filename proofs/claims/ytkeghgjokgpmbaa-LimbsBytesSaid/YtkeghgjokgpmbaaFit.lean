/- Proved here: lemmas and contracts (Fit) for the laws of this seat, for all values of the stated types; no further condition. -/
import Derived.Test.YtkeghgjokgpmbaaMod
open Go Go.RowKit
namespace Go.Proofs.L
attribute [local go_sem ↓] z23 z24 z27 ld23 st23 ld24 st24 ld27 st27 bd27 bd24 bd24z
attribute [local go_sem] num_size num_all num_getE bts_size bts_all
set_option maxRecDepth 100000 in
set_option maxHeartbeats 400000 in
theorem fit_any (w : World) : Calls Try.prog 7 #[] w fun e w' => e = .returned (.bool true) ∧ Below w.heap.size w w' := by
  go_enter Try.func7, Try.ntmps7
  go_wp2_with fail
  refine (sub_T 0 1 (T_num _ (by decide)) (T_num _ (by decide)) _).mono ?_
  rintro e w1 ⟨rfl, hB1⟩
  rw [df_big, Bw_big]
  go_wp2_with fail
  refine (add_T _ _ _).mono ?_
  rintro e w2 ⟨rfl, hB2⟩
  rw [sm_big, C_big]
  obtain ⟨⟨q1, s1⟩, -⟩ := RowsOf.keep hB2 (l := [(w1.heap.size, num big)]) (by go_simp)
  have x1 := row_cell q1 7
  have hD := D_big
  go_wp2_with fail
  refine (zero_any 0 (by decide) _).mono ?_
  rintro e w3 ⟨rfl, hB3⟩
  obtain ⟨⟨q2, s2⟩, ⟨q3, s3⟩, -⟩ := RowsOf.keep hB3 (l := [(w1.heap.size, num big), (w2.heap.size, num 0)]) (by go_simp)
  go_wp2_with fail
  refine (cmp_any big 0 (by decide) (by decide) _).mono ?_
  rintro e w4 ⟨rfl, hB4⟩
  rw [cmp_big]
  obtain ⟨⟨q4, s4⟩, -⟩ := RowsOf.keep hB4 (l := [(w1.heap.size, num big)]) (by go_simp)
  go_wp2_with fail
  refine (bit_any big 255 (by decide) _).mono ?_
  rintro e w5 ⟨rfl, hB5⟩
  rw [Bt_big]
  go_wp2
  go_ret
  refine ⟨rfl, ?_⟩
  have h1 := (below_call (Below.refl _ _) (Nat.le_refl _) hB1).alloc hB1.size (.cells (num big) 24)
  have h2 := (below_call h1 h1.size hB2).alloc (Nat.le_trans h1.size hB2.size) (.cells (num 0) 24)
  exact below_call (below_call (below_call h2 h2.size hB3) (Nat.le_trans h2.size hB3.size) hB4) (Nat.le_trans (Nat.le_trans h2.size hB3.size) hB4.size) hB5
end Go.Proofs.L
