/- Proved here: lemmas and contracts (Back) for the laws of this seat, for all values of the stated types; no further condition. -/
import Derived.Test.YtkeghgjokgpmbaaFit
open Go Go.RowKit
namespace Go.Proofs.L
attribute [local go_sem ↓] z23 z24 z27 ld23 st23 ld24 st24 ld27 st27 bd27 bd24 bd24z
attribute [local go_sem] num_size num_all num_getE bts_size bts_all
theorem eqT (w : World) (a b : Nat) (ha : T a) (hb : T b) : (Op.equalIn 10000 24 (.agg (num a)) (.agg (num b))).run Try.prog w = .ok (decide (a = b)) w := eq24 w a b ha hb
theorem eqTs (w : World) (a : Nat) : (Op.equalIn 10000 24 (.agg (num a)) (.agg (num a))).run Try.prog w = .ok true w := by
  rw [← num_mod]
  have := eqT w (a % 2^256) (a % 2^256) (Nat.mod_lt _ (by decide)) (Nat.mod_lt _ (by decide))
  rw [this]; simp
theorem Bw_top (a b : Nat) (ha : T a) (hb : T b) : Bw a b 8 = if a < b then 1 else 0 := by
  show (if a % 2^256 < b % 2^256 then 1 else 0) = _
  rw [Nat.mod_eq_of_lt ha, Nat.mod_eq_of_lt hb]
theorem C_topT (a b : Nat) (ha : T a) (hb : T b) : C a b 8 = if sm a b < b then 1 else 0 := by
  show (a % 2^256 + b % 2^256) / 2^256 = _
  unfold sm T at *
  rw [Nat.mod_eq_of_lt ha, Nat.mod_eq_of_lt hb]
  split <;> omega
theorem df_sm (a b : Nat) (ha : T a) (hb : T b) : df (sm a b) b = a := by unfold df sm T at *; omega
theorem sm_comm (a b : Nat) : sm a b = sm b a := by unfold sm; rw [Nat.add_comm]
theorem C_comm (a b k : Nat) : C a b k = C b a k := by unfold C; rw [Nat.add_comm]
theorem sm_assoc (a b c : Nat) : sm (sm a b) c = sm a (sm b c) := by unfold sm; omega
theorem Bw_C (a b : Nat) (ha : T a) (hb : T b) : Bw (sm a b) b 8 = C a b 8 := by rw [Bw_top _ _ (T_sm _ _) hb, C_topT a b ha hb]
set_option maxHeartbeats 800000 in
theorem back_any (a b c : Nat) (ha : T a) (hb : T b) (w : World) :
    Calls Try.prog 5 #[.agg (num a), .agg (num b), .agg (num c)] w fun e w' => e = .returned (.bool true) ∧ Below w.heap.size w w' := by
  have he := fun w x => eqTs w x
  go_enter Try.func5, Try.ntmps5
  go_wp2_with fail
  refine (fit_any _).mono ?_
  rintro e w1 ⟨rfl, hB1⟩
  obtain ⟨⟨q0, s0⟩, ⟨q1, s1⟩, ⟨q2, s2⟩, -⟩ := RowsOf.keep hB1 (l := [(w.heap.size, num a), (w.heap.size + 1, num b), (w.heap.size + 1 + 1, num c)]) (by go_simp)
  go_wp2_with fail
  refine (add_T _ _ _).mono ?_
  rintro e w2 ⟨rfl, hB2⟩
  obtain ⟨⟨q3, s3⟩, ⟨q4, s4⟩, ⟨q5, s5⟩, -⟩ := RowsOf.keep hB2 (l := [(w.heap.size, num a), (w.heap.size + 1, num b), (w.heap.size + 1 + 1, num c)]) (by go_simp)
  clear q0 q1 q2
  go_wp2_with fail
  refine (add_T _ _ _).mono ?_
  rintro e w3 ⟨rfl, hB3⟩
  rw [sm_comm b a, C_comm b a]
  obtain ⟨⟨q0, s0⟩, ⟨q1, s1⟩, ⟨q2, s2⟩, ⟨q6, s6⟩, -⟩ := RowsOf.keep hB3 (l := [(w.heap.size, num a), (w.heap.size + 1, num b), (w.heap.size + 1 + 1, num c), (w2.heap.size, num (sm a b))]) (by go_simp)
  clear q3 q4 q5
  go_wp2_with fail
  refine (sub_T _ _ (T_sm _ _) hb _).mono ?_
  rintro e w4 ⟨rfl, hB4⟩
  rw [df_sm a b ha hb, Bw_C a b ha hb]
  obtain ⟨⟨q3, s3⟩, ⟨q4, s4⟩, ⟨q5, s5⟩, ⟨q7, s7⟩, ⟨q8, s8⟩, -⟩ := RowsOf.keep hB4 (l := [(w.heap.size, num a), (w.heap.size + 1, num b), (w.heap.size + 1 + 1, num c), (w2.heap.size, num (sm a b)), (w3.heap.size, num (sm a b))]) (by go_simp)
  clear q0 q1 q2 q6
  go_wp2_with fail
  refine (add_T _ _ _).mono ?_
  rintro e w5 ⟨rfl, hB5⟩
  rw [sm_assoc]
  obtain ⟨⟨q0, s0⟩, ⟨q1, s1⟩, ⟨q2, s2⟩, ⟨q6, s6⟩, ⟨q9, s9⟩, ⟨q10, s10⟩, -⟩ := RowsOf.keep hB5 (l := [(w.heap.size, num a), (w.heap.size + 1, num b), (w.heap.size + 1 + 1, num c), (w2.heap.size, num (sm a b)), (w3.heap.size, num (sm a b)), (w4.heap.size, num a)]) (by go_simp)
  clear q3 q4 q5 q7 q8
  go_wp2_with fail
  refine (add_T _ _ _).mono ?_
  rintro e w6 ⟨rfl, hB6⟩
  obtain ⟨⟨q3, s3⟩, ⟨q4, s4⟩, ⟨q5, s5⟩, ⟨q7, s7⟩, ⟨q8, s8⟩, ⟨q11, s11⟩, ⟨q12, s12⟩, -⟩ := RowsOf.keep hB6 (l := [(w.heap.size, num a), (w.heap.size + 1, num b), (w.heap.size + 1 + 1, num c), (w2.heap.size, num (sm a b)), (w3.heap.size, num (sm a b)), (w4.heap.size, num a), (w5.heap.size, num (sm a (sm b c)))]) (by go_simp)
  clear q0 q1 q2 q6 q9 q10
  go_wp2_with fail
  refine (add_T _ _ _).mono ?_
  rintro e w7 ⟨rfl, hB7⟩
  obtain ⟨⟨q0, s0⟩, ⟨q1, s1⟩, ⟨q2, s2⟩, ⟨q6, s6⟩, ⟨q9, s9⟩, ⟨q10, s10⟩, ⟨q13, s13⟩, ⟨q14, s14⟩, -⟩ := RowsOf.keep hB7 (l := [(w.heap.size, num a), (w.heap.size + 1, num b), (w.heap.size + 1 + 1, num c), (w2.heap.size, num (sm a b)), (w3.heap.size, num (sm a b)), (w4.heap.size, num a), (w5.heap.size, num (sm a (sm b c))), (w6.heap.size, num (sm b c))]) (by go_simp)
  clear q3 q4 q5 q7 q8 q11 q12
  go_wp2
  go_ret
  refine ⟨rfl, ?_⟩
  have h0 := (((Below.refl w.heap.size w).alloc (Nat.le_refl _) (.cells (num a) 24)).alloc (by simp) (.cells (num b) 24)).alloc (by simp; omega) (.cells (num c) 24)
  have h1 := below_call h0 h0.size hB1
  have h2 := (below_call h1 h1.size hB2).alloc (Nat.le_trans h1.size hB2.size) (.cells (num (sm a b)) 24)
  have h3 := (below_call h2 h2.size hB3).alloc (Nat.le_trans h2.size hB3.size) (.cells (num (sm a b)) 24)
  have h4 := (below_call h3 h3.size hB4).alloc (Nat.le_trans h3.size hB4.size) (.cells (num a) 24)
  have h5 := (below_call h4 h4.size hB5).alloc (Nat.le_trans h4.size hB5.size) (.cells (num (sm a (sm b c))) 24)
  have h6 := (below_call h5 h5.size hB6).alloc (Nat.le_trans h5.size hB6.size) (.cells (num (sm b c)) 24)
  exact (below_call h6 h6.size hB7).alloc (Nat.le_trans h6.size hB7.size) _
end Go.Proofs.L
