/- Proved here: lemmas and contracts (RefOps) for the laws of this seat, for all values of the stated types; no further condition. -/
import Derived.Test.YtenmnaibmmpfmaaQuot
open Go Go.RowKit Go.Lib
namespace Go.Proofs.L
set_option maxHeartbeats 1600000 in
theorem ref28 (a b : Nat) (ha : a < 4294967296) (hb : b < 4294967296) (w : World) : Calls Try.prog 10 #[.int .i64 28, .int .i64 a, .int .i64 b] w fun e w' => e = .returned (.tuple #[.int .i64 (vI 28 a b), .bool true]) ∧ Below w.heap.size w w' := by
  go_enter Try.func10, Try.ntmps10
  go_wp2_with fail
  refine (name28 _).mono ?_
  rintro e w1 ⟨rfl, hB⟩
  go_wp2_with fail
  refine (low_any _ (by omega) (by omega) _).mono ?_
  rintro e w2 ⟨rfl, rfl⟩
  go_wp2
  go_ret2
  exact ⟨ret_k (rfl), hB⟩
set_option maxHeartbeats 1600000 in
theorem ref19 (a b : Nat) (ha : a < 4294967296) (hb : b < 4294967296) (w : World) : Calls Try.prog 10 #[.int .i64 19, .int .i64 a, .int .i64 b] w fun e w' => e = .returned (.tuple #[.int .i64 (vI 19 a b), .bool true]) ∧ Below w.heap.size w w' := by
  go_enter Try.func10, Try.ntmps10
  go_wp2_with fail
  refine (name19 _).mono ?_
  rintro e w1 ⟨rfl, hB⟩
  go_wp2_with fail
  refine (low_any _ (by omega) (by omega) _).mono ?_
  rintro e w2 ⟨rfl, rfl⟩
  go_wp2
  go_ret2
  exact ⟨ret_k (rfl), hB⟩
set_option maxHeartbeats 1600000 in
theorem ref29 (a b : Nat) (ha : a < 4294967296) (hb : b < 4294967296) (w : World) : Calls Try.prog 10 #[.int .i64 29, .int .i64 a, .int .i64 b] w fun e w' => e = .returned (.tuple #[.int .i64 (vI 29 a b), .bool true]) ∧ Below w.heap.size w w' := by
  go_enter Try.func10, Try.ntmps10
  go_wp2_with fail
  refine (name29 _).mono ?_
  rintro e w1 ⟨rfl, hB⟩
  go_wp2_with fail
  refine (low_any _ (by omega) (by omega) _).mono ?_
  rintro e w2 ⟨rfl, rfl⟩
  go_wp2
  go_ret2
  exact ⟨ret_k (rfl), hB⟩
set_option maxHeartbeats 1600000 in
theorem ref30 (a b : Nat) (ha : a < 4294967296) (hb : b < 4294967296) (w : World) : Calls Try.prog 10 #[.int .i64 30, .int .i64 a, .int .i64 b] w fun e w' => e = .returned (.tuple #[.int .i64 (vI 30 a b), .bool true]) ∧ Below w.heap.size w w' := by
  obtain ⟨n, p, q, hn, hp, p1, p2, q1, q2, pq, e1, e2⟩ := pow_facts b
  have f1 : wrap64 (2 ^ (b % 32)) = (p : Int) := by rw [e1]; clear e1 e2 pq hp hn; exact IntWalk.wrap64_in _ (by omega)
  have HE := Lib.hid e1
  have PQ := Lib.hid pq
  clear hn hp e1 pq
  have E2 := Lib.hid e2
  have F1 := Lib.hid f1
  clear e2 f1
  have f2 : ¬ (p : Int) = 0 := by omega
  have f3 : ¬ (q : Int) = 0 := by omega
  have hl := sll_law a p q PQ.out
  have g1 : 0 ≤ (a : Int) % q ∧ (a : Int) % q < q := ⟨Int.emod_nonneg _ f3, Int.emod_lt_of_pos _ (by omega)⟩
  have g2 := Int.emod_nonneg ((a : Int) * p) (b := 4294967296) (by decide)
  have g3 := Int.emod_lt_of_pos ((a : Int) * p) (b := 4294967296) (by decide)
  have g4 : wrap64 ((a : Int) % q * p) = (a : Int) * p % 4294967296 := by rw [hl]; exact IntWalk.wrap64_in _ (by omega)
  have g5 : IntKind.i64.wrap ((a : Int) % q * p) = (a : Int) * p % 4294967296 := by rw [hl]; exact IntWalk.i64_in _ (by omega)
  have g6 : wrap64 (q : Int) = q := IntWalk.wrap64_in _ (by omega)
  have HL := Lib.hid hl
  have G4 := Lib.hid g4
  have G5 := Lib.hid g5
  clear hl g2 g3 g4 g5
  have e3 : (4294967296 : Int) / p = q := by rw [← E2.out, Int.tdiv_eq_ediv_of_nonneg (by decide)]
  have f1 := F1.out
  go_enter Try.func10, Try.ntmps10
  go_wp2_with fail
  refine (name30 _).mono ?_
  rintro e w1 ⟨rfl, hB⟩
  go_wp2
  go_ret2
  exact ⟨ret_k (by rw [show vI 30 a b = ((a : Int) * 2 ^ (b % 32)) % 4294967296 from rfl, HE.out]; first | exact HL.out | exact G5.out | exact G4.out), hB⟩
set_option maxHeartbeats 1600000 in
theorem ref25 (a b : Nat) (ha : a < 4294967296) (hb : b < 4294967296) (w : World) : Calls Try.prog 10 #[.int .i64 25, .int .i64 a, .int .i64 b] w fun e w' => e = .returned (.tuple #[.int .i64 (vI 25 a b), .bool true]) ∧ Below w.heap.size w w' := by
  obtain ⟨n, p, q, hn, hp, p1, p2, q1, q2, pq, e1, e2⟩ := pow_facts b
  have f1 : wrap64 (2 ^ (b % 32)) = (p : Int) := by rw [e1]; clear e1 e2 pq hp hn; exact IntWalk.wrap64_in _ (by omega)
  have HE := Lib.hid e1
  have PQ := Lib.hid pq
  clear hn hp e1 pq
  have E2 := Lib.hid e2
  have F1 := Lib.hid f1
  clear e2 f1
  have f2 : ¬ (p : Int) = 0 := by omega
  have f3 : ¬ (q : Int) = 0 := by omega
  have hl := sll_law a p q PQ.out
  have g1 : 0 ≤ (a : Int) % q ∧ (a : Int) % q < q := ⟨Int.emod_nonneg _ f3, Int.emod_lt_of_pos _ (by omega)⟩
  have g2 := Int.emod_nonneg ((a : Int) * p) (b := 4294967296) (by decide)
  have g3 := Int.emod_lt_of_pos ((a : Int) * p) (b := 4294967296) (by decide)
  have g4 : wrap64 ((a : Int) % q * p) = (a : Int) * p % 4294967296 := by rw [hl]; exact IntWalk.wrap64_in _ (by omega)
  have g5 : IntKind.i64.wrap ((a : Int) % q * p) = (a : Int) * p % 4294967296 := by rw [hl]; exact IntWalk.i64_in _ (by omega)
  have g6 : wrap64 (q : Int) = q := IntWalk.wrap64_in _ (by omega)
  have HL := Lib.hid hl
  have G4 := Lib.hid g4
  have G5 := Lib.hid g5
  clear hl g2 g3 g4 g5
  have e3 : (4294967296 : Int) / p = q := by rw [← E2.out, Int.tdiv_eq_ediv_of_nonneg (by decide)]
  have f1 := F1.out
  go_enter Try.func10, Try.ntmps10
  go_wp2_with fail
  refine (name25 _).mono ?_
  rintro e w1 ⟨rfl, hB⟩
  go_wp2
  go_ret2
  exact ⟨ret_k (by rw [show vI 25 a b = ((a : Int) * 2 ^ (b % 32)) % 4294967296 from rfl, HE.out]; first | exact HL.out | exact G5.out | exact G4.out), hB⟩
set_option maxHeartbeats 1600000 in
theorem ref31 (a b : Nat) (ha : a < 4294967296) (hb : b < 4294967296) (w : World) : Calls Try.prog 10 #[.int .i64 31, .int .i64 a, .int .i64 b] w fun e w' => e = .returned (.tuple #[.int .i64 (vI 31 a b), .bool true]) ∧ Below w.heap.size w w' := by
  have x1 := sg_bd a ha
  have y1 := sg_bd b hb
  obtain ⟨x, hx⟩ : ∃ x, x = sg a := ⟨_, rfl⟩
  obtain ⟨y, hy⟩ : ∃ y, y = sg b := ⟨_, rfl⟩
  rw [← hx] at x1
  rw [← hy] at y1
  have HX := Lib.hid hx
  have HY := Lib.hid hy
  obtain ⟨x1, x2⟩ := x1
  obtain ⟨y1, y2⟩ := y1
  clear hx hy
  by_cases h : x < y
  · have hd : decide (x < y) = true := by simpa using h
    have H := Lib.hid h
    clear h
    go_enter Try.func10, Try.ntmps10
    go_wp2_with fail
    refine (name31 _).mono ?_
    rintro e w1 ⟨rfl, hB⟩
    go_wp2_with fail
    refine (sign_sg a ha _).mono ?_
    rw [← HX.out]
    rintro e w2 ⟨rfl, rfl⟩
    go_wp2_with fail
    refine (sign_sg b hb _).mono ?_
    rw [← HY.out]
    rintro e w2 ⟨rfl, rfl⟩
    go_wp2_with fail
    refine (truth_any _ _).mono ?_
    rintro e w2 ⟨rfl, rfl⟩
    go_wp2
    go_ret2
    exact ⟨ret_k (by rw [show vI 31 a b = (if sg a < sg b then 1 else 0) from rfl, ← HX.out, ← HY.out, if_pos (by have := H.out; omega)]), hB⟩
  · have hd : decide (x < y) = false := by simpa using h
    have H := Lib.hid h
    clear h
    go_enter Try.func10, Try.ntmps10
    go_wp2_with fail
    refine (name31 _).mono ?_
    rintro e w1 ⟨rfl, hB⟩
    go_wp2_with fail
    refine (sign_sg a ha _).mono ?_
    rw [← HX.out]
    rintro e w2 ⟨rfl, rfl⟩
    go_wp2_with fail
    refine (sign_sg b hb _).mono ?_
    rw [← HY.out]
    rintro e w2 ⟨rfl, rfl⟩
    go_wp2_with fail
    refine (truth_any _ _).mono ?_
    rintro e w2 ⟨rfl, rfl⟩
    go_wp2
    go_ret2
    exact ⟨ret_k (by rw [show vI 31 a b = (if sg a < sg b then 1 else 0) from rfl, ← HX.out, ← HY.out, if_neg (by have := H.out; omega)]), hB⟩
set_option maxHeartbeats 1600000 in
theorem ref20 (a b : Nat) (ha : a < 4294967296) (hb : b < 4294967296) (w : World) : Calls Try.prog 10 #[.int .i64 20, .int .i64 a, .int .i64 b] w fun e w' => e = .returned (.tuple #[.int .i64 (vI 20 a b), .bool true]) ∧ Below w.heap.size w w' := by
  have x1 := sg_bd a ha
  have y1 := sg_bd b hb
  obtain ⟨x, hx⟩ : ∃ x, x = sg a := ⟨_, rfl⟩
  obtain ⟨y, hy⟩ : ∃ y, y = sg b := ⟨_, rfl⟩
  rw [← hx] at x1
  rw [← hy] at y1
  have HX := Lib.hid hx
  have HY := Lib.hid hy
  obtain ⟨x1, x2⟩ := x1
  obtain ⟨y1, y2⟩ := y1
  clear hx hy
  by_cases h : x < y
  · have hd : decide (x < y) = true := by simpa using h
    have H := Lib.hid h
    clear h
    go_enter Try.func10, Try.ntmps10
    go_wp2_with fail
    refine (name20 _).mono ?_
    rintro e w1 ⟨rfl, hB⟩
    go_wp2_with fail
    refine (sign_sg a ha _).mono ?_
    rw [← HX.out]
    rintro e w2 ⟨rfl, rfl⟩
    go_wp2_with fail
    refine (sign_sg b hb _).mono ?_
    rw [← HY.out]
    rintro e w2 ⟨rfl, rfl⟩
    go_wp2_with fail
    refine (truth_any _ _).mono ?_
    rintro e w2 ⟨rfl, rfl⟩
    go_wp2
    go_ret2
    exact ⟨ret_k (by rw [show vI 20 a b = (if sg a < sg b then 1 else 0) from rfl, ← HX.out, ← HY.out, if_pos (by have := H.out; omega)]), hB⟩
  · have hd : decide (x < y) = false := by simpa using h
    have H := Lib.hid h
    clear h
    go_enter Try.func10, Try.ntmps10
    go_wp2_with fail
    refine (name20 _).mono ?_
    rintro e w1 ⟨rfl, hB⟩
    go_wp2_with fail
    refine (sign_sg a ha _).mono ?_
    rw [← HX.out]
    rintro e w2 ⟨rfl, rfl⟩
    go_wp2_with fail
    refine (sign_sg b hb _).mono ?_
    rw [← HY.out]
    rintro e w2 ⟨rfl, rfl⟩
    go_wp2_with fail
    refine (truth_any _ _).mono ?_
    rintro e w2 ⟨rfl, rfl⟩
    go_wp2
    go_ret2
    exact ⟨ret_k (by rw [show vI 20 a b = (if sg a < sg b then 1 else 0) from rfl, ← HX.out, ← HY.out, if_neg (by have := H.out; omega)]), hB⟩
set_option maxHeartbeats 1600000 in
theorem ref32 (a b : Nat) (ha : a < 4294967296) (hb : b < 4294967296) (w : World) : Calls Try.prog 10 #[.int .i64 32, .int .i64 a, .int .i64 b] w fun e w' => e = .returned (.tuple #[.int .i64 (vI 32 a b), .bool true]) ∧ Below w.heap.size w w' := by
  by_cases h : a < b
  · have hd : decide ((a : Int) < b) = true := by simpa using h
    have hd' : decide (a < b) = true := by simpa using h
    have H := Lib.hid h
    clear h
    go_enter Try.func10, Try.ntmps10
    go_wp2_with fail
    refine (name32 _).mono ?_
    rintro e w1 ⟨rfl, hB⟩
    go_wp2_with fail
    refine (truth_any _ _).mono ?_
    rintro e w2 ⟨rfl, rfl⟩
    go_wp2
    go_ret2
    exact ⟨ret_k (by rw [show vI 32 a b = (if a < b then 1 else 0) from rfl, if_pos (by have := H.out; omega)]), hB⟩
  · have hd : decide ((a : Int) < b) = false := by simpa using h
    have hd' : decide (a < b) = false := by simpa using h
    have H := Lib.hid h
    clear h
    go_enter Try.func10, Try.ntmps10
    go_wp2_with fail
    refine (name32 _).mono ?_
    rintro e w1 ⟨rfl, hB⟩
    go_wp2_with fail
    refine (truth_any _ _).mono ?_
    rintro e w2 ⟨rfl, rfl⟩
    go_wp2
    go_ret2
    exact ⟨ret_k (by rw [show vI 32 a b = (if a < b then 1 else 0) from rfl, if_neg (by have := H.out; omega)]), hB⟩
set_option maxHeartbeats 1600000 in
theorem ref21 (a b : Nat) (ha : a < 4294967296) (hb : b < 4294967296) (w : World) : Calls Try.prog 10 #[.int .i64 21, .int .i64 a, .int .i64 b] w fun e w' => e = .returned (.tuple #[.int .i64 (vI 21 a b), .bool true]) ∧ Below w.heap.size w w' := by
  by_cases h : a < b
  · have hd : decide ((a : Int) < b) = true := by simpa using h
    have hd' : decide (a < b) = true := by simpa using h
    have H := Lib.hid h
    clear h
    go_enter Try.func10, Try.ntmps10
    go_wp2_with fail
    refine (name21 _).mono ?_
    rintro e w1 ⟨rfl, hB⟩
    go_wp2_with fail
    refine (truth_any _ _).mono ?_
    rintro e w2 ⟨rfl, rfl⟩
    go_wp2
    go_ret2
    exact ⟨ret_k (by rw [show vI 21 a b = (if a < b then 1 else 0) from rfl, if_pos (by have := H.out; omega)]), hB⟩
  · have hd : decide ((a : Int) < b) = false := by simpa using h
    have hd' : decide (a < b) = false := by simpa using h
    have H := Lib.hid h
    clear h
    go_enter Try.func10, Try.ntmps10
    go_wp2_with fail
    refine (name21 _).mono ?_
    rintro e w1 ⟨rfl, hB⟩
    go_wp2_with fail
    refine (truth_any _ _).mono ?_
    rintro e w2 ⟨rfl, rfl⟩
    go_wp2
    go_ret2
    exact ⟨ret_k (by rw [show vI 21 a b = (if a < b then 1 else 0) from rfl, if_neg (by have := H.out; omega)]), hB⟩
set_option maxHeartbeats 1600000 in
theorem ref33 (a b : Nat) (ha : a < 4294967296) (hb : b < 4294967296) (w : World) : Calls Try.prog 10 #[.int .i64 33, .int .i64 a, .int .i64 b] w fun e w' => e = .returned (.tuple #[.int .i64 (vI 33 a b), .bool true]) ∧ Below w.heap.size w w' := by
  go_enter Try.func10, Try.ntmps10
  go_wp2_with fail
  refine (name33 _).mono ?_
  rintro e w1 ⟨rfl, hB⟩
  go_wp2_with fail
  refine (xor_any a b ha hb _).mono ?_
  rintro e w2 ⟨rfl, hB2⟩
  go_wp2
  go_ret2
  exact ⟨ret_k (rfl), hB.trans (hB2.mono hB.size)⟩
set_option maxHeartbeats 1600000 in
theorem ref22 (a b : Nat) (ha : a < 4294967296) (hb : b < 4294967296) (w : World) : Calls Try.prog 10 #[.int .i64 22, .int .i64 a, .int .i64 b] w fun e w' => e = .returned (.tuple #[.int .i64 (vI 22 a b), .bool true]) ∧ Below w.heap.size w w' := by
  go_enter Try.func10, Try.ntmps10
  go_wp2_with fail
  refine (name22 _).mono ?_
  rintro e w1 ⟨rfl, hB⟩
  go_wp2_with fail
  refine (xor_any a b ha hb _).mono ?_
  rintro e w2 ⟨rfl, hB2⟩
  go_wp2
  go_ret2
  exact ⟨ret_k (rfl), hB.trans (hB2.mono hB.size)⟩
set_option maxHeartbeats 1600000 in
theorem ref36 (a b : Nat) (ha : a < 4294967296) (hb : b < 4294967296) (w : World) : Calls Try.prog 10 #[.int .i64 36, .int .i64 a, .int .i64 b] w fun e w' => e = .returned (.tuple #[.int .i64 (vI 36 a b), .bool true]) ∧ Below w.heap.size w w' := by
  go_enter Try.func10, Try.ntmps10
  go_wp2_with fail
  refine (name36 _).mono ?_
  rintro e w1 ⟨rfl, hB⟩
  go_wp2_with fail
  refine (or_any a b ha hb _).mono ?_
  rintro e w2 ⟨rfl, hB2⟩
  go_wp2
  go_ret2
  exact ⟨ret_k (rfl), hB.trans (hB2.mono hB.size)⟩
set_option maxHeartbeats 1600000 in
theorem ref23 (a b : Nat) (ha : a < 4294967296) (hb : b < 4294967296) (w : World) : Calls Try.prog 10 #[.int .i64 23, .int .i64 a, .int .i64 b] w fun e w' => e = .returned (.tuple #[.int .i64 (vI 23 a b), .bool true]) ∧ Below w.heap.size w w' := by
  go_enter Try.func10, Try.ntmps10
  go_wp2_with fail
  refine (name23 _).mono ?_
  rintro e w1 ⟨rfl, hB⟩
  go_wp2_with fail
  refine (or_any a b ha hb _).mono ?_
  rintro e w2 ⟨rfl, hB2⟩
  go_wp2
  go_ret2
  exact ⟨ret_k (rfl), hB.trans (hB2.mono hB.size)⟩
set_option maxHeartbeats 1600000 in
theorem ref37 (a b : Nat) (ha : a < 4294967296) (hb : b < 4294967296) (w : World) : Calls Try.prog 10 #[.int .i64 37, .int .i64 a, .int .i64 b] w fun e w' => e = .returned (.tuple #[.int .i64 (vI 37 a b), .bool true]) ∧ Below w.heap.size w w' := by
  go_enter Try.func10, Try.ntmps10
  go_wp2_with fail
  refine (name37 _).mono ?_
  rintro e w1 ⟨rfl, hB⟩
  go_wp2_with fail
  refine (and_any a b ha _).mono ?_
  rintro e w2 ⟨rfl, hB2⟩
  go_wp2
  go_ret2
  exact ⟨ret_k (rfl), hB.trans (hB2.mono hB.size)⟩
set_option maxHeartbeats 1600000 in
theorem ref24 (a b : Nat) (ha : a < 4294967296) (hb : b < 4294967296) (w : World) : Calls Try.prog 10 #[.int .i64 24, .int .i64 a, .int .i64 b] w fun e w' => e = .returned (.tuple #[.int .i64 (vI 24 a b), .bool true]) ∧ Below w.heap.size w w' := by
  go_enter Try.func10, Try.ntmps10
  go_wp2_with fail
  refine (name24 _).mono ?_
  rintro e w1 ⟨rfl, hB⟩
  go_wp2_with fail
  refine (and_any a b ha _).mono ?_
  rintro e w2 ⟨rfl, hB2⟩
  go_wp2
  go_ret2
  exact ⟨ret_k (rfl), hB.trans (hB2.mono hB.size)⟩
set_option maxHeartbeats 1600000 in
theorem ref34 (a b : Nat) (ha : a < 4294967296) (hb : b < 4294967296) (w : World) : Calls Try.prog 10 #[.int .i64 34, .int .i64 a, .int .i64 b] w fun e w' => e = .returned (.tuple #[.int .i64 (vI 34 a b), .bool true]) ∧ Below w.heap.size w w' := by
  obtain ⟨n, p, q, hn, hp, p1, p2, q1, q2, pq, e1, e2⟩ := pow_facts b
  have f1 : wrap64 (2 ^ (b % 32)) = (p : Int) := by rw [e1]; clear e1 e2 pq hp hn; exact IntWalk.wrap64_in _ (by omega)
  have HE := Lib.hid e1
  have PQ := Lib.hid pq
  clear hn hp e1 pq
  have E2 := Lib.hid e2
  have F1 := Lib.hid f1
  clear e2 f1
  have f2 : ¬ (p : Int) = 0 := by omega
  have f3 : ¬ (q : Int) = 0 := by omega
  have l1 := Int.ediv_nonneg (a := (a : Int)) (b := p) (by omega) (by omega)
  have l2 := Int.ediv_le_self (a := (a : Int)) p (by omega)
  have e2 := E2.out
  have f1 := F1.out
  go_enter Try.func10, Try.ntmps10
  go_wp2_with fail
  refine (name34 _).mono ?_
  rintro e w1 ⟨rfl, hB⟩
  go_wp2
  go_ret2
  exact ⟨ret_k (by rw [show vI 34 a b = (a : Int) / 2 ^ (b % 32) from rfl, HE.out]), hB⟩
set_option maxHeartbeats 1600000 in
theorem ref26 (a b : Nat) (ha : a < 4294967296) (hb : b < 4294967296) (w : World) : Calls Try.prog 10 #[.int .i64 26, .int .i64 a, .int .i64 b] w fun e w' => e = .returned (.tuple #[.int .i64 (vI 26 a b), .bool true]) ∧ Below w.heap.size w w' := by
  obtain ⟨n, p, q, hn, hp, p1, p2, q1, q2, pq, e1, e2⟩ := pow_facts b
  have f1 : wrap64 (2 ^ (b % 32)) = (p : Int) := by rw [e1]; clear e1 e2 pq hp hn; exact IntWalk.wrap64_in _ (by omega)
  have HE := Lib.hid e1
  have PQ := Lib.hid pq
  clear hn hp e1 pq
  have E2 := Lib.hid e2
  have F1 := Lib.hid f1
  clear e2 f1
  have f2 : ¬ (p : Int) = 0 := by omega
  have f3 : ¬ (q : Int) = 0 := by omega
  have l1 := Int.ediv_nonneg (a := (a : Int)) (b := p) (by omega) (by omega)
  have l2 := Int.ediv_le_self (a := (a : Int)) p (by omega)
  have e2 := E2.out
  have f1 := F1.out
  go_enter Try.func10, Try.ntmps10
  go_wp2_with fail
  refine (name26 _).mono ?_
  rintro e w1 ⟨rfl, hB⟩
  go_wp2
  go_ret2
  exact ⟨ret_k (by rw [show vI 26 a b = (a : Int) / 2 ^ (b % 32) from rfl, HE.out]), hB⟩
set_option maxHeartbeats 1600000 in
theorem ref35 (a b : Nat) (ha : a < 4294967296) (hb : b < 4294967296) (w : World) : Calls Try.prog 10 #[.int .i64 35, .int .i64 a, .int .i64 b] w fun e w' => e = .returned (.tuple #[.int .i64 (vI 35 a b), .bool true]) ∧ Below w.heap.size w w' := by
  have x1 := sg_bd a ha
  have y1 := sg_bd b hb
  obtain ⟨x, hx⟩ : ∃ x, x = sg a := ⟨_, rfl⟩
  obtain ⟨y, hy⟩ : ∃ y, y = sg b := ⟨_, rfl⟩
  rw [← hx] at x1
  rw [← hy] at y1
  have HX := Lib.hid hx
  have HY := Lib.hid hy
  obtain ⟨x1, x2⟩ := x1
  obtain ⟨y1, y2⟩ := y1
  clear hx hy
  obtain ⟨n, p, q, hn, hp, p1, p2, q1, q2, pq, e1, e2⟩ := pow_facts b
  have f1 : wrap64 (2 ^ (b % 32)) = (p : Int) := by rw [e1]; clear e1 e2 pq hp hn; exact IntWalk.wrap64_in _ (by omega)
  have HE := Lib.hid e1
  have PQ := Lib.hid pq
  clear hn hp e1 pq
  have E2 := Lib.hid e2
  have F1 := Lib.hid f1
  clear e2 f1
  have f2 : ¬ (p : Int) = 0 := by omega
  have f3 : ¬ (q : Int) = 0 := by omega
  have e2 := E2.out
  have f1 := F1.out
  go_enter Try.func10, Try.ntmps10
  go_wp2_with fail
  refine (name35 _).mono ?_
  rintro e w1 ⟨rfl, hB⟩
  go_wp2_with fail
  refine (sign_sg a ha _).mono ?_
  rw [← HX.out]
  rintro e w2 ⟨rfl, rfl⟩
  go_wp2_with fail
  refine (floor_any x p (by omega) (by omega) (by omega) (by omega) _).mono ?_
  rintro e w2 ⟨rfl, rfl⟩
  have l1 : -2147483648 ≤ x / p := Int.le_ediv_of_mul_le (by omega) (by omega)
  have l2 : x / p < 2147483648 := Int.ediv_lt_of_lt_mul (by omega) (by omega)
  go_wp2_with fail
  refine (low_any (x / p) (by omega) (by omega) _).mono ?_
  rintro e w2 ⟨rfl, rfl⟩
  go_wp2
  go_ret2
  exact ⟨ret_k (by rw [show vI 35 a b = (sg a / 2 ^ (b % 32)) % 4294967296 from rfl, HE.out, ← HX.out]), hB⟩
set_option maxHeartbeats 1600000 in
theorem ref27 (a b : Nat) (ha : a < 4294967296) (hb : b < 4294967296) (w : World) : Calls Try.prog 10 #[.int .i64 27, .int .i64 a, .int .i64 b] w fun e w' => e = .returned (.tuple #[.int .i64 (vI 27 a b), .bool true]) ∧ Below w.heap.size w w' := by
  have x1 := sg_bd a ha
  have y1 := sg_bd b hb
  obtain ⟨x, hx⟩ : ∃ x, x = sg a := ⟨_, rfl⟩
  obtain ⟨y, hy⟩ : ∃ y, y = sg b := ⟨_, rfl⟩
  rw [← hx] at x1
  rw [← hy] at y1
  have HX := Lib.hid hx
  have HY := Lib.hid hy
  obtain ⟨x1, x2⟩ := x1
  obtain ⟨y1, y2⟩ := y1
  clear hx hy
  obtain ⟨n, p, q, hn, hp, p1, p2, q1, q2, pq, e1, e2⟩ := pow_facts b
  have f1 : wrap64 (2 ^ (b % 32)) = (p : Int) := by rw [e1]; clear e1 e2 pq hp hn; exact IntWalk.wrap64_in _ (by omega)
  have HE := Lib.hid e1
  have PQ := Lib.hid pq
  clear hn hp e1 pq
  have E2 := Lib.hid e2
  have F1 := Lib.hid f1
  clear e2 f1
  have f2 : ¬ (p : Int) = 0 := by omega
  have f3 : ¬ (q : Int) = 0 := by omega
  have e2 := E2.out
  have f1 := F1.out
  go_enter Try.func10, Try.ntmps10
  go_wp2_with fail
  refine (name27 _).mono ?_
  rintro e w1 ⟨rfl, hB⟩
  go_wp2_with fail
  refine (sign_sg a ha _).mono ?_
  rw [← HX.out]
  rintro e w2 ⟨rfl, rfl⟩
  go_wp2_with fail
  refine (floor_any x p (by omega) (by omega) (by omega) (by omega) _).mono ?_
  rintro e w2 ⟨rfl, rfl⟩
  have l1 : -2147483648 ≤ x / p := Int.le_ediv_of_mul_le (by omega) (by omega)
  have l2 : x / p < 2147483648 := Int.ediv_lt_of_lt_mul (by omega) (by omega)
  go_wp2_with fail
  refine (low_any (x / p) (by omega) (by omega) _).mono ?_
  rintro e w2 ⟨rfl, rfl⟩
  go_wp2
  go_ret2
  exact ⟨ret_k (by rw [show vI 27 a b = (sg a / 2 ^ (b % 32)) % 4294967296 from rfl, HE.out, ← HX.out]), hB⟩
set_option maxHeartbeats 1600000 in
theorem ref38 (a b : Nat) (ha : a < 4294967296) (hb : b < 4294967296) (w : World) : Calls Try.prog 10 #[.int .i64 38, .int .i64 a, .int .i64 b] w fun e w' => e = .returned (.tuple #[.int .i64 (vI 38 a b), .bool true]) ∧ Below w.heap.size w w' := by
  have b1 := mul_bd 4294967296 65536 (a := (a : Int)) (b := (b : Int) % 65536) (by omega) (by omega) (by omega) (by omega)
  have b2 := mul_bd 4294967296 65536 (a := (a : Int)) (b := (b : Int) / 65536) (by omega) (by omega) (by omega) (by omega)
  have c1 : IntKind.i64.wrap ((a : Int) * ((b : Int) % 65536)) = (a : Int) * ((b : Int) % 65536) := IntWalk.i64_in _ (by omega)
  have c2 : IntKind.i64.wrap ((a : Int) * ((b : Int) / 65536)) = (a : Int) * ((b : Int) / 65536) := IntWalk.i64_in _ (by omega)
  have ml := mul_law a b
  have ML := Lib.hid ml
  clear ml
  go_enter Try.func10, Try.ntmps10
  go_wp2_with fail
  refine (name38 _).mono ?_
  rintro e w1 ⟨rfl, hB⟩
  go_wp2_with fail
  refine (low_any ((a : Int) * ((b : Int) / 65536)) (by omega) (by omega) _).mono ?_
  rintro e w2 ⟨rfl, rfl⟩
  go_wp2_with fail
  refine (low_any ((a : Int) * ((b : Int) % 65536) + (a : Int) * ((b : Int) / 65536) % 4294967296 * 65536) (by omega) (by omega) _).mono ?_
  rintro e w2 ⟨rfl, rfl⟩
  go_wp2
  go_ret2
  exact ⟨ret_k (ML.out), hB⟩
set_option maxHeartbeats 1600000 in
theorem ref39 (a b : Nat) (ha : a < 4294967296) (hb : b < 4294967296) (w : World) : Calls Try.prog 10 #[.int .i64 39, .int .i64 a, .int .i64 b] w fun e w' => e = .returned (.tuple #[.int .i64 (vI 39 a b), .bool true]) ∧ Below w.heap.size w w' := by
  have x1 := sg_bd a ha
  have y1 := sg_bd b hb
  obtain ⟨x, hx⟩ : ∃ x, x = sg a := ⟨_, rfl⟩
  obtain ⟨y, hy⟩ : ∃ y, y = sg b := ⟨_, rfl⟩
  rw [← hx] at x1
  rw [← hy] at y1
  have HX := Lib.hid hx
  have HY := Lib.hid hy
  obtain ⟨x1, x2⟩ := x1
  obtain ⟨y1, y2⟩ := y1
  clear hx hy
  go_enter Try.func10, Try.ntmps10
  go_wp2_with fail
  refine (name39 _).mono ?_
  rintro e w1 ⟨rfl, hB⟩
  go_wp2_with fail
  refine (sign_sg a ha _).mono ?_
  rw [← HX.out]
  rintro e w2 ⟨rfl, rfl⟩
  go_wp2_with fail
  refine (sign_sg b hb _).mono ?_
  rw [← HY.out]
  rintro e w2 ⟨rfl, rfl⟩
  go_wp2_with fail
  refine (high_any x y (by omega) (by omega) (by omega) (by omega) _).mono ?_
  rintro e w2 ⟨rfl, rfl⟩
  go_wp2
  go_ret2
  exact ⟨ret_k (by rw [high_law, HX.out, HY.out]; rfl), hB⟩
set_option maxHeartbeats 1600000 in
theorem ref40 (a b : Nat) (ha : a < 4294967296) (hb : b < 4294967296) (w : World) : Calls Try.prog 10 #[.int .i64 40, .int .i64 a, .int .i64 b] w fun e w' => e = .returned (.tuple #[.int .i64 (vI 40 a b), .bool true]) ∧ Below w.heap.size w w' := by
  have x1 := sg_bd a ha
  have y1 := sg_bd b hb
  obtain ⟨x, hx⟩ : ∃ x, x = sg a := ⟨_, rfl⟩
  obtain ⟨y, hy⟩ : ∃ y, y = sg b := ⟨_, rfl⟩
  rw [← hx] at x1
  rw [← hy] at y1
  have HX := Lib.hid hx
  have HY := Lib.hid hy
  obtain ⟨x1, x2⟩ := x1
  obtain ⟨y1, y2⟩ := y1
  clear hx hy
  go_enter Try.func10, Try.ntmps10
  go_wp2_with fail
  refine (name40 _).mono ?_
  rintro e w1 ⟨rfl, hB⟩
  go_wp2_with fail
  refine (sign_sg a ha _).mono ?_
  rw [← HX.out]
  rintro e w2 ⟨rfl, rfl⟩
  go_wp2_with fail
  refine (high_any x b (by omega) (by omega) (by omega) (by omega) _).mono ?_
  rintro e w2 ⟨rfl, rfl⟩
  go_wp2
  go_ret2
  exact ⟨ret_k (by rw [high_law, HX.out]; rfl), hB⟩
set_option maxHeartbeats 1600000 in
theorem ref41 (a b : Nat) (ha : a < 4294967296) (hb : b < 4294967296) (w : World) : Calls Try.prog 10 #[.int .i64 41, .int .i64 a, .int .i64 b] w fun e w' => e = .returned (.tuple #[.int .i64 (vI 41 a b), .bool true]) ∧ Below w.heap.size w w' := by
  go_enter Try.func10, Try.ntmps10
  go_wp2_with fail
  refine (name41 _).mono ?_
  rintro e w1 ⟨rfl, hB⟩
  go_wp2_with fail
  refine (high_any a b (by omega) (by omega) (by omega) (by omega) _).mono ?_
  rintro e w2 ⟨rfl, rfl⟩
  go_wp2
  go_ret2
  exact ⟨ret_k (by rw [high_law]; rfl), hB⟩
set_option maxHeartbeats 1600000 in
theorem ref42 (a b : Nat) (ha : a < 4294967296) (hb : b < 4294967296) (w : World) : Calls Try.prog 10 #[.int .i64 42, .int .i64 a, .int .i64 b] w fun e w' => e = .returned (.tuple #[.int .i64 (vI 42 a b), .bool true]) ∧ Below w.heap.size w w' := by
  go_enter Try.func10, Try.ntmps10
  go_wp2_with fail
  refine (name42 _).mono ?_
  rintro e w1 ⟨rfl, hB⟩
  go_wp2_with fail
  refine (name42 _).mono ?_
  rintro e w2 ⟨rfl, hB2⟩
  go_wp2_with fail
  refine (quot42 a b ha hb _).mono ?_
  rintro e w2 ⟨rfl, rfl⟩
  go_wp2
  go_ret2
  exact ⟨ret_k (rfl), hB.trans (hB2.mono hB.size)⟩
set_option maxHeartbeats 1600000 in
theorem ref43 (a b : Nat) (ha : a < 4294967296) (hb : b < 4294967296) (w : World) : Calls Try.prog 10 #[.int .i64 43, .int .i64 a, .int .i64 b] w fun e w' => e = .returned (.tuple #[.int .i64 (vI 43 a b), .bool true]) ∧ Below w.heap.size w w' := by
  go_enter Try.func10, Try.ntmps10
  go_wp2_with fail
  refine (name43 _).mono ?_
  rintro e w1 ⟨rfl, hB⟩
  go_wp2_with fail
  refine (name43 _).mono ?_
  rintro e w2 ⟨rfl, hB2⟩
  go_wp2_with fail
  refine (quot43 a b ha hb _).mono ?_
  rintro e w2 ⟨rfl, rfl⟩
  go_wp2
  go_ret2
  exact ⟨ret_k (rfl), hB.trans (hB2.mono hB.size)⟩
set_option maxHeartbeats 1600000 in
theorem ref44 (a b : Nat) (ha : a < 4294967296) (hb : b < 4294967296) (w : World) : Calls Try.prog 10 #[.int .i64 44, .int .i64 a, .int .i64 b] w fun e w' => e = .returned (.tuple #[.int .i64 (vI 44 a b), .bool true]) ∧ Below w.heap.size w w' := by
  go_enter Try.func10, Try.ntmps10
  go_wp2_with fail
  refine (name44 _).mono ?_
  rintro e w1 ⟨rfl, hB⟩
  go_wp2_with fail
  refine (name44 _).mono ?_
  rintro e w2 ⟨rfl, hB2⟩
  go_wp2_with fail
  refine (quot44 a b ha hb _).mono ?_
  rintro e w2 ⟨rfl, rfl⟩
  go_wp2
  go_ret2
  exact ⟨ret_k (rfl), hB.trans (hB2.mono hB.size)⟩
set_option maxHeartbeats 1600000 in
theorem ref45 (a b : Nat) (ha : a < 4294967296) (hb : b < 4294967296) (w : World) : Calls Try.prog 10 #[.int .i64 45, .int .i64 a, .int .i64 b] w fun e w' => e = .returned (.tuple #[.int .i64 (vI 45 a b), .bool true]) ∧ Below w.heap.size w w' := by
  go_enter Try.func10, Try.ntmps10
  go_wp2_with fail
  refine (name45 _).mono ?_
  rintro e w1 ⟨rfl, hB⟩
  go_wp2_with fail
  refine (name45 _).mono ?_
  rintro e w2 ⟨rfl, hB2⟩
  go_wp2_with fail
  refine (quot45 a b ha hb _).mono ?_
  rintro e w2 ⟨rfl, rfl⟩
  go_wp2
  go_ret2
  exact ⟨ret_k (rfl), hB.trans (hB2.mono hB.size)⟩
def RefOut (w : World) (e : Ending) (w' : World) : Prop := e = .returned (.tuple #[.int .i64 0, .bool false]) ∧ Below w.heap.size w w'
set_option maxHeartbeats 1600000 in
theorem refOut1 (a b : Nat) (ha : a < 4294967296) (hb : b < 4294967296) (w : World) : Calls Try.prog 10 #[.int .i64 1, .int .i64 a, .int .i64 b] w (RefOut w) := by
  have hn : ∀ w, Calls Try.prog 21 #[.int .i64 1] w fun e w' => e = .returned (.string ⟨#[108, 117, 105]⟩) ∧ Below w.heap.size w w' := name_in 1 (by omega) (by omega)
  go_enter Try.func10, Try.ntmps10
  have HN := Lib.hid hn
  clear hn
  go_wp2_with fail
  refine (HN.out _).mono ?_
  rintro e w1 ⟨rfl, hB⟩
  go_wp2_with fail
  refine (HN.out _).mono ?_
  rintro e w2 ⟨rfl, hB2⟩
  go_wp2
  go_ret2
  exact ⟨rfl, hB.trans (hB2.mono hB.size)⟩
set_option maxHeartbeats 1600000 in
theorem refOut2 (a b : Nat) (ha : a < 4294967296) (hb : b < 4294967296) (w : World) : Calls Try.prog 10 #[.int .i64 2, .int .i64 a, .int .i64 b] w (RefOut w) := by
  have hn : ∀ w, Calls Try.prog 21 #[.int .i64 2] w fun e w' => e = .returned (.string ⟨#[97, 117, 105, 112, 99]⟩) ∧ Below w.heap.size w w' := name_in 2 (by omega) (by omega)
  go_enter Try.func10, Try.ntmps10
  have HN := Lib.hid hn
  clear hn
  go_wp2_with fail
  refine (HN.out _).mono ?_
  rintro e w1 ⟨rfl, hB⟩
  go_wp2_with fail
  refine (HN.out _).mono ?_
  rintro e w2 ⟨rfl, hB2⟩
  go_wp2
  go_ret2
  exact ⟨rfl, hB.trans (hB2.mono hB.size)⟩
set_option maxHeartbeats 1600000 in
theorem refOut3 (a b : Nat) (ha : a < 4294967296) (hb : b < 4294967296) (w : World) : Calls Try.prog 10 #[.int .i64 3, .int .i64 a, .int .i64 b] w (RefOut w) := by
  have hn : ∀ w, Calls Try.prog 21 #[.int .i64 3] w fun e w' => e = .returned (.string ⟨#[106, 97, 108]⟩) ∧ Below w.heap.size w w' := name_in 3 (by omega) (by omega)
  go_enter Try.func10, Try.ntmps10
  have HN := Lib.hid hn
  clear hn
  go_wp2_with fail
  refine (HN.out _).mono ?_
  rintro e w1 ⟨rfl, hB⟩
  go_wp2_with fail
  refine (HN.out _).mono ?_
  rintro e w2 ⟨rfl, hB2⟩
  go_wp2
  go_ret2
  exact ⟨rfl, hB.trans (hB2.mono hB.size)⟩
set_option maxHeartbeats 1600000 in
theorem refOut4 (a b : Nat) (ha : a < 4294967296) (hb : b < 4294967296) (w : World) : Calls Try.prog 10 #[.int .i64 4, .int .i64 a, .int .i64 b] w (RefOut w) := by
  have hn : ∀ w, Calls Try.prog 21 #[.int .i64 4] w fun e w' => e = .returned (.string ⟨#[106, 97, 108, 114]⟩) ∧ Below w.heap.size w w' := name_in 4 (by omega) (by omega)
  go_enter Try.func10, Try.ntmps10
  have HN := Lib.hid hn
  clear hn
  go_wp2_with fail
  refine (HN.out _).mono ?_
  rintro e w1 ⟨rfl, hB⟩
  go_wp2_with fail
  refine (HN.out _).mono ?_
  rintro e w2 ⟨rfl, hB2⟩
  go_wp2
  go_ret2
  exact ⟨rfl, hB.trans (hB2.mono hB.size)⟩
set_option maxHeartbeats 1600000 in
theorem refOut5 (a b : Nat) (ha : a < 4294967296) (hb : b < 4294967296) (w : World) : Calls Try.prog 10 #[.int .i64 5, .int .i64 a, .int .i64 b] w (RefOut w) := by
  have hn : ∀ w, Calls Try.prog 21 #[.int .i64 5] w fun e w' => e = .returned (.string ⟨#[98, 101, 113]⟩) ∧ Below w.heap.size w w' := name_in 5 (by omega) (by omega)
  go_enter Try.func10, Try.ntmps10
  have HN := Lib.hid hn
  clear hn
  go_wp2_with fail
  refine (HN.out _).mono ?_
  rintro e w1 ⟨rfl, hB⟩
  go_wp2_with fail
  refine (HN.out _).mono ?_
  rintro e w2 ⟨rfl, hB2⟩
  go_wp2
  go_ret2
  exact ⟨rfl, hB.trans (hB2.mono hB.size)⟩
set_option maxHeartbeats 1600000 in
theorem refOut6 (a b : Nat) (ha : a < 4294967296) (hb : b < 4294967296) (w : World) : Calls Try.prog 10 #[.int .i64 6, .int .i64 a, .int .i64 b] w (RefOut w) := by
  have hn : ∀ w, Calls Try.prog 21 #[.int .i64 6] w fun e w' => e = .returned (.string ⟨#[98, 110, 101]⟩) ∧ Below w.heap.size w w' := name_in 6 (by omega) (by omega)
  go_enter Try.func10, Try.ntmps10
  have HN := Lib.hid hn
  clear hn
  go_wp2_with fail
  refine (HN.out _).mono ?_
  rintro e w1 ⟨rfl, hB⟩
  go_wp2_with fail
  refine (HN.out _).mono ?_
  rintro e w2 ⟨rfl, hB2⟩
  go_wp2
  go_ret2
  exact ⟨rfl, hB.trans (hB2.mono hB.size)⟩
set_option maxHeartbeats 1600000 in
theorem refOut7 (a b : Nat) (ha : a < 4294967296) (hb : b < 4294967296) (w : World) : Calls Try.prog 10 #[.int .i64 7, .int .i64 a, .int .i64 b] w (RefOut w) := by
  have hn : ∀ w, Calls Try.prog 21 #[.int .i64 7] w fun e w' => e = .returned (.string ⟨#[98, 108, 116]⟩) ∧ Below w.heap.size w w' := name_in 7 (by omega) (by omega)
  go_enter Try.func10, Try.ntmps10
  have HN := Lib.hid hn
  clear hn
  go_wp2_with fail
  refine (HN.out _).mono ?_
  rintro e w1 ⟨rfl, hB⟩
  go_wp2_with fail
  refine (HN.out _).mono ?_
  rintro e w2 ⟨rfl, hB2⟩
  go_wp2
  go_ret2
  exact ⟨rfl, hB.trans (hB2.mono hB.size)⟩
set_option maxHeartbeats 1600000 in
theorem refOut8 (a b : Nat) (ha : a < 4294967296) (hb : b < 4294967296) (w : World) : Calls Try.prog 10 #[.int .i64 8, .int .i64 a, .int .i64 b] w (RefOut w) := by
  have hn : ∀ w, Calls Try.prog 21 #[.int .i64 8] w fun e w' => e = .returned (.string ⟨#[98, 103, 101]⟩) ∧ Below w.heap.size w w' := name_in 8 (by omega) (by omega)
  go_enter Try.func10, Try.ntmps10
  have HN := Lib.hid hn
  clear hn
  go_wp2_with fail
  refine (HN.out _).mono ?_
  rintro e w1 ⟨rfl, hB⟩
  go_wp2_with fail
  refine (HN.out _).mono ?_
  rintro e w2 ⟨rfl, hB2⟩
  go_wp2
  go_ret2
  exact ⟨rfl, hB.trans (hB2.mono hB.size)⟩
set_option maxHeartbeats 1600000 in
theorem refOut9 (a b : Nat) (ha : a < 4294967296) (hb : b < 4294967296) (w : World) : Calls Try.prog 10 #[.int .i64 9, .int .i64 a, .int .i64 b] w (RefOut w) := by
  have hn : ∀ w, Calls Try.prog 21 #[.int .i64 9] w fun e w' => e = .returned (.string ⟨#[98, 108, 116, 117]⟩) ∧ Below w.heap.size w w' := name_in 9 (by omega) (by omega)
  go_enter Try.func10, Try.ntmps10
  have HN := Lib.hid hn
  clear hn
  go_wp2_with fail
  refine (HN.out _).mono ?_
  rintro e w1 ⟨rfl, hB⟩
  go_wp2_with fail
  refine (HN.out _).mono ?_
  rintro e w2 ⟨rfl, hB2⟩
  go_wp2
  go_ret2
  exact ⟨rfl, hB.trans (hB2.mono hB.size)⟩
set_option maxHeartbeats 1600000 in
theorem refOut10 (a b : Nat) (ha : a < 4294967296) (hb : b < 4294967296) (w : World) : Calls Try.prog 10 #[.int .i64 10, .int .i64 a, .int .i64 b] w (RefOut w) := by
  have hn : ∀ w, Calls Try.prog 21 #[.int .i64 10] w fun e w' => e = .returned (.string ⟨#[98, 103, 101, 117]⟩) ∧ Below w.heap.size w w' := name_in 10 (by omega) (by omega)
  go_enter Try.func10, Try.ntmps10
  have HN := Lib.hid hn
  clear hn
  go_wp2_with fail
  refine (HN.out _).mono ?_
  rintro e w1 ⟨rfl, hB⟩
  go_wp2_with fail
  refine (HN.out _).mono ?_
  rintro e w2 ⟨rfl, hB2⟩
  go_wp2
  go_ret2
  exact ⟨rfl, hB.trans (hB2.mono hB.size)⟩
set_option maxHeartbeats 1600000 in
theorem refOut11 (a b : Nat) (ha : a < 4294967296) (hb : b < 4294967296) (w : World) : Calls Try.prog 10 #[.int .i64 11, .int .i64 a, .int .i64 b] w (RefOut w) := by
  have hn : ∀ w, Calls Try.prog 21 #[.int .i64 11] w fun e w' => e = .returned (.string ⟨#[108, 98]⟩) ∧ Below w.heap.size w w' := name_in 11 (by omega) (by omega)
  go_enter Try.func10, Try.ntmps10
  have HN := Lib.hid hn
  clear hn
  go_wp2_with fail
  refine (HN.out _).mono ?_
  rintro e w1 ⟨rfl, hB⟩
  go_wp2_with fail
  refine (HN.out _).mono ?_
  rintro e w2 ⟨rfl, hB2⟩
  go_wp2
  go_ret2
  exact ⟨rfl, hB.trans (hB2.mono hB.size)⟩
set_option maxHeartbeats 1600000 in
theorem refOut12 (a b : Nat) (ha : a < 4294967296) (hb : b < 4294967296) (w : World) : Calls Try.prog 10 #[.int .i64 12, .int .i64 a, .int .i64 b] w (RefOut w) := by
  have hn : ∀ w, Calls Try.prog 21 #[.int .i64 12] w fun e w' => e = .returned (.string ⟨#[108, 104]⟩) ∧ Below w.heap.size w w' := name_in 12 (by omega) (by omega)
  go_enter Try.func10, Try.ntmps10
  have HN := Lib.hid hn
  clear hn
  go_wp2_with fail
  refine (HN.out _).mono ?_
  rintro e w1 ⟨rfl, hB⟩
  go_wp2_with fail
  refine (HN.out _).mono ?_
  rintro e w2 ⟨rfl, hB2⟩
  go_wp2
  go_ret2
  exact ⟨rfl, hB.trans (hB2.mono hB.size)⟩
set_option maxHeartbeats 1600000 in
theorem refOut13 (a b : Nat) (ha : a < 4294967296) (hb : b < 4294967296) (w : World) : Calls Try.prog 10 #[.int .i64 13, .int .i64 a, .int .i64 b] w (RefOut w) := by
  have hn : ∀ w, Calls Try.prog 21 #[.int .i64 13] w fun e w' => e = .returned (.string ⟨#[108, 119]⟩) ∧ Below w.heap.size w w' := name_in 13 (by omega) (by omega)
  go_enter Try.func10, Try.ntmps10
  have HN := Lib.hid hn
  clear hn
  go_wp2_with fail
  refine (HN.out _).mono ?_
  rintro e w1 ⟨rfl, hB⟩
  go_wp2_with fail
  refine (HN.out _).mono ?_
  rintro e w2 ⟨rfl, hB2⟩
  go_wp2
  go_ret2
  exact ⟨rfl, hB.trans (hB2.mono hB.size)⟩
set_option maxHeartbeats 1600000 in
theorem refOut14 (a b : Nat) (ha : a < 4294967296) (hb : b < 4294967296) (w : World) : Calls Try.prog 10 #[.int .i64 14, .int .i64 a, .int .i64 b] w (RefOut w) := by
  have hn : ∀ w, Calls Try.prog 21 #[.int .i64 14] w fun e w' => e = .returned (.string ⟨#[108, 98, 117]⟩) ∧ Below w.heap.size w w' := name_in 14 (by omega) (by omega)
  go_enter Try.func10, Try.ntmps10
  have HN := Lib.hid hn
  clear hn
  go_wp2_with fail
  refine (HN.out _).mono ?_
  rintro e w1 ⟨rfl, hB⟩
  go_wp2_with fail
  refine (HN.out _).mono ?_
  rintro e w2 ⟨rfl, hB2⟩
  go_wp2
  go_ret2
  exact ⟨rfl, hB.trans (hB2.mono hB.size)⟩
set_option maxHeartbeats 1600000 in
theorem refOut15 (a b : Nat) (ha : a < 4294967296) (hb : b < 4294967296) (w : World) : Calls Try.prog 10 #[.int .i64 15, .int .i64 a, .int .i64 b] w (RefOut w) := by
  have hn : ∀ w, Calls Try.prog 21 #[.int .i64 15] w fun e w' => e = .returned (.string ⟨#[108, 104, 117]⟩) ∧ Below w.heap.size w w' := name_in 15 (by omega) (by omega)
  go_enter Try.func10, Try.ntmps10
  have HN := Lib.hid hn
  clear hn
  go_wp2_with fail
  refine (HN.out _).mono ?_
  rintro e w1 ⟨rfl, hB⟩
  go_wp2_with fail
  refine (HN.out _).mono ?_
  rintro e w2 ⟨rfl, hB2⟩
  go_wp2
  go_ret2
  exact ⟨rfl, hB.trans (hB2.mono hB.size)⟩
set_option maxHeartbeats 1600000 in
theorem refOut16 (a b : Nat) (ha : a < 4294967296) (hb : b < 4294967296) (w : World) : Calls Try.prog 10 #[.int .i64 16, .int .i64 a, .int .i64 b] w (RefOut w) := by
  have hn : ∀ w, Calls Try.prog 21 #[.int .i64 16] w fun e w' => e = .returned (.string ⟨#[115, 98]⟩) ∧ Below w.heap.size w w' := name_in 16 (by omega) (by omega)
  go_enter Try.func10, Try.ntmps10
  have HN := Lib.hid hn
  clear hn
  go_wp2_with fail
  refine (HN.out _).mono ?_
  rintro e w1 ⟨rfl, hB⟩
  go_wp2_with fail
  refine (HN.out _).mono ?_
  rintro e w2 ⟨rfl, hB2⟩
  go_wp2
  go_ret2
  exact ⟨rfl, hB.trans (hB2.mono hB.size)⟩
set_option maxHeartbeats 1600000 in
theorem refOut17 (a b : Nat) (ha : a < 4294967296) (hb : b < 4294967296) (w : World) : Calls Try.prog 10 #[.int .i64 17, .int .i64 a, .int .i64 b] w (RefOut w) := by
  have hn : ∀ w, Calls Try.prog 21 #[.int .i64 17] w fun e w' => e = .returned (.string ⟨#[115, 104]⟩) ∧ Below w.heap.size w w' := name_in 17 (by omega) (by omega)
  go_enter Try.func10, Try.ntmps10
  have HN := Lib.hid hn
  clear hn
  go_wp2_with fail
  refine (HN.out _).mono ?_
  rintro e w1 ⟨rfl, hB⟩
  go_wp2_with fail
  refine (HN.out _).mono ?_
  rintro e w2 ⟨rfl, hB2⟩
  go_wp2
  go_ret2
  exact ⟨rfl, hB.trans (hB2.mono hB.size)⟩
set_option maxHeartbeats 1600000 in
theorem refOut18 (a b : Nat) (ha : a < 4294967296) (hb : b < 4294967296) (w : World) : Calls Try.prog 10 #[.int .i64 18, .int .i64 a, .int .i64 b] w (RefOut w) := by
  have hn : ∀ w, Calls Try.prog 21 #[.int .i64 18] w fun e w' => e = .returned (.string ⟨#[115, 119]⟩) ∧ Below w.heap.size w w' := name_in 18 (by omega) (by omega)
  go_enter Try.func10, Try.ntmps10
  have HN := Lib.hid hn
  clear hn
  go_wp2_with fail
  refine (HN.out _).mono ?_
  rintro e w1 ⟨rfl, hB⟩
  go_wp2_with fail
  refine (HN.out _).mono ?_
  rintro e w2 ⟨rfl, hB2⟩
  go_wp2
  go_ret2
  exact ⟨rfl, hB.trans (hB2.mono hB.size)⟩
set_option maxHeartbeats 1600000 in
theorem refOut0 (k : Int) (a b : Nat) (ha : a < 4294967296) (hb : b < 4294967296) (hk : k < 1 ∨ 46 ≤ k) (w : World) : Calls Try.prog 10 #[.int .i64 k, .int .i64 a, .int .i64 b] w (RefOut w) := by
  have hn := name_out k hk
  clear hk
  go_enter Try.func10, Try.ntmps10
  have HN := Lib.hid hn
  clear hn
  go_wp2_with fail
  refine (HN.out _).mono ?_
  rintro e w1 ⟨rfl, hB⟩
  go_wp2_with fail
  refine (HN.out _).mono ?_
  rintro e w2 ⟨rfl, hB2⟩
  go_wp2
  go_ret2
  exact ⟨rfl, hB.trans (hB2.mono hB.size)⟩
theorem ref_out (k : Int) (a b : Nat) (ha : a < 4294967296) (hb : b < 4294967296) (hk : k < 19 ∨ 46 ≤ k) (w : World) : Calls Try.prog 10 #[.int .i64 k, .int .i64 a, .int .i64 b] w (RefOut w) := by
  by_cases h0 : k < 1 ∨ 46 ≤ k
  · exact refOut0 k a b ha hb h0 w
  · have hk : k = 1 ∨ k = 2 ∨ k = 3 ∨ k = 4 ∨ k = 5 ∨ k = 6 ∨ k = 7 ∨ k = 8 ∨ k = 9 ∨ k = 10 ∨ k = 11 ∨ k = 12 ∨ k = 13 ∨ k = 14 ∨ k = 15 ∨ k = 16 ∨ k = 17 ∨ k = 18 := by omega
    rcases hk with rfl | rfl | rfl | rfl | rfl | rfl | rfl | rfl | rfl | rfl | rfl | rfl | rfl | rfl | rfl | rfl | rfl | rfl
    · exact refOut1 a b ha hb w
    · exact refOut2 a b ha hb w
    · exact refOut3 a b ha hb w
    · exact refOut4 a b ha hb w
    · exact refOut5 a b ha hb w
    · exact refOut6 a b ha hb w
    · exact refOut7 a b ha hb w
    · exact refOut8 a b ha hb w
    · exact refOut9 a b ha hb w
    · exact refOut10 a b ha hb w
    · exact refOut11 a b ha hb w
    · exact refOut12 a b ha hb w
    · exact refOut13 a b ha hb w
    · exact refOut14 a b ha hb w
    · exact refOut15 a b ha hb w
    · exact refOut16 a b ha hb w
    · exact refOut17 a b ha hb w
    · exact refOut18 a b ha hb w
theorem ref_in (k : Nat) (a b : Nat) (ha : a < 4294967296) (hb : b < 4294967296) (h1 : 19 ≤ k) (h2 : k < 46) (w : World) :
    Calls Try.prog 10 #[.int .i64 k, .int .i64 a, .int .i64 b] w fun e w' => e = .returned (.tuple #[.int .i64 (vI k a b), .bool true]) ∧ Below w.heap.size w w' := by
  have hk : k = 19 ∨ k = 20 ∨ k = 21 ∨ k = 22 ∨ k = 23 ∨ k = 24 ∨ k = 25 ∨ k = 26 ∨ k = 27 ∨ k = 28 ∨ k = 29 ∨ k = 30 ∨ k = 31 ∨ k = 32 ∨ k = 33 ∨ k = 34 ∨ k = 35 ∨ k = 36 ∨ k = 37 ∨ k = 38 ∨ k = 39 ∨ k = 40 ∨ k = 41 ∨ k = 42 ∨ k = 43 ∨ k = 44 ∨ k = 45 := by omega
  rcases hk with rfl | rfl | rfl | rfl | rfl | rfl | rfl | rfl | rfl | rfl | rfl | rfl | rfl | rfl | rfl | rfl | rfl | rfl | rfl | rfl | rfl | rfl | rfl | rfl | rfl | rfl | rfl
  · exact ref19 a b ha hb w
  · exact ref20 a b ha hb w
  · exact ref21 a b ha hb w
  · exact ref22 a b ha hb w
  · exact ref23 a b ha hb w
  · exact ref24 a b ha hb w
  · exact ref25 a b ha hb w
  · exact ref26 a b ha hb w
  · exact ref27 a b ha hb w
  · exact ref28 a b ha hb w
  · exact ref29 a b ha hb w
  · exact ref30 a b ha hb w
  · exact ref31 a b ha hb w
  · exact ref32 a b ha hb w
  · exact ref33 a b ha hb w
  · exact ref34 a b ha hb w
  · exact ref35 a b ha hb w
  · exact ref36 a b ha hb w
  · exact ref37 a b ha hb w
  · exact ref38 a b ha hb w
  · exact ref39 a b ha hb w
  · exact ref40 a b ha hb w
  · exact ref41 a b ha hb w
  · exact ref42 a b ha hb w
  · exact ref43 a b ha hb w
  · exact ref44 a b ha hb w
  · exact ref45 a b ha hb w
end Go.Proofs.L
