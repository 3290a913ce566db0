/- Proved here: lemmas and contracts (Order) for the laws of this seat, for all values of the stated types; no further condition. -/
import Derived.Test.YtkeghgjokgpmbaaSums
open Go Go.RowKit
namespace Go.Proofs.L
attribute [local go_sem ↓] z23 z24 z27 ld23 st23 ld24 st24 ld27 st27 bd27 bd24 bd24z
attribute [local go_sem] num_size num_all num_getE bts_size bts_all
theorem bless_T (a b : Nat) (ha : T a) (hb : T b) (w : World) :
    Calls Try.prog 14 #[.agg (bts a), .agg (bts b)] w fun e w' => e = .returned (.bool (decide (a < b))) ∧ Below w.heap.size w w' := bless_any a b ha hb w
theorem cmp_T (a b : Nat) (ha : T a) (hb : T b) (w : World) :
    Calls Try.prog 15 #[.agg (num a), .agg (num b)] w fun e w' => e = .returned (.int .i64 (cmpR a b)) ∧ Below w.heap.size w w' := cmp_any a b ha hb w
def isZ (a : Nat) : Bool := decide (a = 0)
theorem zero_T (a : Nat) (ha : T a) (w : World) :
    Calls Try.prog 16 #[.agg (num a)] w fun e w' => e = .returned (.bool (isZ a)) ∧ Below w.heap.size w w' := zero_any a ha w
theorem eqZ (w : World) (a : Nat) (ha : T a) : (Op.equalIn 10000 24 (.agg (num a)) (.agg (num 0))).run Try.prog w = .ok (isZ a) w := eq24 w a 0 ha (by decide)
theorem cmp_l {a b : Nat} (h : a < b) : cmpR a b = -1 := by rw [cmpR, if_pos h]
theorem cmp_g {a b : Nat} (h : b < a) : cmpR a b = 1 := by rw [cmpR, if_neg (by omega), if_pos h]
theorem cmp_e {a b : Nat} (h : a = b) : cmpR a b = 0 := by rw [cmpR, if_neg (by omega), if_neg (by omega)]
theorem T0 : T 0 := by unfold T; decide
set_option maxHeartbeats 1600000 in
theorem order_lt (a b : Nat) (ha : T a) (hb : T b) (hx : a < b) (w : World) :
    Calls Try.prog 4 #[.agg (num a), .agg (num b)] w fun e w' => e = .returned (.bool true) ∧ Below w.heap.size w w' := by
  have he : ∀ w, (Op.equalIn 10000 24 (.agg (num a)) (.agg (num b))).run Try.prog w = .ok false w := fun w => by
    rw [eqT w a b ha hb]; congr 1; simp; omega
  have hz := fun w => eqZ w a ha
  have hd1 : Hid (decide (a < b) = true) := by unfold Hid; first | (rw [decide_eq_true_iff]; omega) | (rw [decide_eq_false_iff_not]; omega)
  have hd2 : Hid (decide (b < a) = false) := by unfold Hid; first | (rw [decide_eq_true_iff]; omega) | (rw [decide_eq_false_iff_not]; omega)
  have hc1 : Hid (cmpR a b = -1) := by first | exact cmp_l (by omega) | exact cmp_g (by omega) | exact cmp_e (by omega)
  have hc2 : Hid (cmpR b a = 1) := by first | exact cmp_l (by omega) | exact cmp_g (by omega) | exact cmp_e (by omega)
  clear hx
  go_enter Try.func4, Try.ntmps4
  go_wp2_with fail
  refine (fit_any _).mono ?_
  rintro e w1 ⟨rfl, hB1⟩
  obtain ⟨⟨q0, s0⟩, ⟨q1, s1⟩, -⟩ := RowsOf.keep hB1 (l := [(w.heap.size, num a), (w.heap.size + 1, num b)]) (by go_simp)
  go_wp2_with fail
  refine wp_region_steps (fun S a' w' => ∃ (p4 : Value) (b4 : Nat) (p5 : Value) (b5 : Nat), a' = ⟨(.agg (num a) :: .agg (num b) :: .pointer (some ⟨w.heap.size, 0, none⟩) :: .pointer (some ⟨w.heap.size + 1, 0, none⟩) :: .bool false :: p4 :: p5 :: undef :: .bool true :: .bool false :: (if S 0 = true then .agg (num a) else undef) :: (if S 1 = true then .agg (bts a) else undef) :: (if S 2 = true then .agg (num b) else undef) :: (if S 3 = true then .agg (bts b) else undef) :: undef :: undef :: undef :: undef :: undef :: undef :: undef :: undef :: undef :: undef :: undef :: undef :: undef :: undef :: undef :: undef :: undef :: undef :: undef :: undef :: undef :: undef :: undef :: undef :: undef :: undef :: undef :: undef :: undef :: undef :: undef :: undef :: undef :: undef :: undef :: []).toArray, []⟩ ∧ Hid ((S 4 = true → p4 = .pointer (some ⟨b4, 0, none⟩) ∧ w1.heap.size ≤ b4 ∧ b4 < w'.heap.size ∧ w'.row? b4 = some (if S 6 = true then bts a else (bts 0))) ∧ (S 4 = false → p4 = undef ∧ S 6 = false) ∧ (S 5 = true → p5 = .pointer (some ⟨b5, 0, none⟩) ∧ w1.heap.size ≤ b5 ∧ b5 < w'.heap.size ∧ w'.row? b5 = some (if S 7 = true then bts b else (bts 0))) ∧ (S 5 = false → p5 = undef ∧ S 7 = false) ∧ (S 4 = true → S 5 = true → b4 ≠ b5)) ∧ Below (w1.heap.size) w1 w') rfl (by kernel_rfl) ?h0 ?hs ?he
  case h0 =>
    refine ⟨_, 0, _, 0, rfl, ⟨by simp, by simp, by simp, by simp, by simp⟩, (Below.refl _ _).drew⟩
  case hs =>
    refine ⟨?_, ?_, ?_, ?_, ?_, ?_, ?_, ?_, trivial⟩
    · rintro S a' w' hi hp ⟨p4, b4, p5, b5, rfl, hr, hB⟩ K hK
      change S 0 = false at hi
      clear hp
      have r := fun b hb => row_below hB b hb
      clear hi
      go_simp
      obtain ⟨h4, k4, h5, k5, n4_5⟩ := hr.out
      exact hK _ _ ⟨p4, b4, p5, b5, by simp [upd], ⟨by simpa [upd] using h4, by simpa [upd] using k4, by simpa [upd] using h5, by simpa [upd] using k5, by simpa [upd] using n4_5⟩, hB⟩
    · rintro S a' w' hi hp ⟨p4, b4, p5, b5, rfl, hr, hB⟩ K hK
      change S 1 = false at hi
      have e0 := preds_conj hp (l := [0]) rfl
      change S 0 = true at e0
      clear hp
      clear hi
      go_simp
      obtain ⟨h4, k4, h5, k5, n4_5⟩ := hr.out
      refine (of_any _ _).mono ?_
      rintro e w1 ⟨rfl, hB1⟩
      refine hK _ _ ⟨p4, b4, p5, b5, by simp [upd, Act.put, e0], ⟨?_, by simpa [upd] using k4, ?_, by simpa [upd] using k5, by simpa [upd] using n4_5⟩, below_call hB (Nat.le_trans (by simp; try omega) hB.size) hB1⟩
      · intro h
        obtain ⟨q1, q2, q3, q4⟩ := h4 (by simpa [upd] using h)
        exact ⟨q1, q2, Nat.lt_of_lt_of_le q3 hB1.size, by rw [row_below hB1 _ q3, q4]; simp [upd]⟩
      · intro h
        obtain ⟨q1, q2, q3, q4⟩ := h5 (by simpa [upd] using h)
        exact ⟨q1, q2, Nat.lt_of_lt_of_le q3 hB1.size, by rw [row_below hB1 _ q3, q4]; simp [upd]⟩
    · rintro S a' w' hi hp ⟨p4, b4, p5, b5, rfl, hr, hB⟩ K hK
      change S 2 = false at hi
      clear hp
      have r := fun b hb => row_below hB b hb
      clear hi
      go_simp
      obtain ⟨h4, k4, h5, k5, n4_5⟩ := hr.out
      exact hK _ _ ⟨p4, b4, p5, b5, by simp [upd], ⟨by simpa [upd] using h4, by simpa [upd] using k4, by simpa [upd] using h5, by simpa [upd] using k5, by simpa [upd] using n4_5⟩, hB⟩
    · rintro S a' w' hi hp ⟨p4, b4, p5, b5, rfl, hr, hB⟩ K hK
      change S 3 = false at hi
      obtain ⟨e2, e1⟩ := preds_conj hp (l := [2, 1]) rfl
      change S 1 = true at e1
      clear hp
      clear hi
      go_simp
      obtain ⟨h4, k4, h5, k5, n4_5⟩ := hr.out
      refine (of_any _ _).mono ?_
      rintro e w1 ⟨rfl, hB1⟩
      refine hK _ _ ⟨p4, b4, p5, b5, by simp [upd, Act.put, e2, e1], ⟨?_, by simpa [upd] using k4, ?_, by simpa [upd] using k5, by simpa [upd] using n4_5⟩, below_call hB (Nat.le_trans (by simp; try omega) hB.size) hB1⟩
      · intro h
        obtain ⟨q1, q2, q3, q4⟩ := h4 (by simpa [upd] using h)
        exact ⟨q1, q2, Nat.lt_of_lt_of_le q3 hB1.size, by rw [row_below hB1 _ q3, q4]; simp [upd]⟩
      · intro h
        obtain ⟨q1, q2, q3, q4⟩ := h5 (by simpa [upd] using h)
        exact ⟨q1, q2, Nat.lt_of_lt_of_le q3 hB1.size, by rw [row_below hB1 _ q3, q4]; simp [upd]⟩
    · rintro S a' w' hi hp ⟨p4, b4, p5, b5, rfl, hr, hB⟩ K hK
      change S 4 = false at hi
      clear hp
      have hsz : w1.heap.size ≤ w'.heap.size := Nat.le_trans (by simp; try omega) hB.size
      obtain ⟨h4, k4, h5, k5, n4_5⟩ := hr.out
      obtain ⟨z1, z2⟩ := k4 hi
      clear hi
      go_simp
      refine hK _ _ ⟨(.pointer (some ⟨w'.heap.size, 0, none⟩)), w'.heap.size, p5, b5, by simp [upd], ⟨?_, by simp [upd], ?_, by simpa [upd] using k5, ?_⟩, hB.alloc hsz _⟩
      · intro _; exact ⟨rfl, hsz, by simp, by rw [row_alloc_at _ _ _ _ rfl]; simp [upd, z2]⟩
      · intro h
        obtain ⟨q1, q2, q3, q4⟩ := h5 (by simpa [upd] using h)
        exact ⟨q1, q2, by simp; omega, by rw [row_alloc_past _ _ _ q3, q4]; simp [upd]⟩
      · intro _ h
        obtain ⟨_, _, q3, _⟩ := h5 (by simpa [upd] using h)
        omega
    · rintro S a' w' hi hp ⟨p4, b4, p5, b5, rfl, hr, hB⟩ K hK
      change S 5 = false at hi
      clear hp
      have hsz : w1.heap.size ≤ w'.heap.size := Nat.le_trans (by simp; try omega) hB.size
      obtain ⟨h4, k4, h5, k5, n4_5⟩ := hr.out
      obtain ⟨z1, z2⟩ := k5 hi
      clear hi
      go_simp
      refine hK _ _ ⟨p4, b4, (.pointer (some ⟨w'.heap.size, 0, none⟩)), w'.heap.size, by simp [upd], ⟨?_, by simpa [upd] using k4, ?_, by simp [upd], ?_⟩, hB.alloc hsz _⟩
      · intro h
        obtain ⟨q1, q2, q3, q4⟩ := h4 (by simpa [upd] using h)
        exact ⟨q1, q2, by simp; omega, by rw [row_alloc_past _ _ _ q3, q4]; simp [upd]⟩
      · intro _; exact ⟨rfl, hsz, by simp, by rw [row_alloc_at _ _ _ _ rfl]; simp [upd, z2]⟩
      · intro h _
        obtain ⟨_, _, q3, _⟩ := h4 (by simpa [upd] using h)
        omega
    · rintro S a' w' hi hp ⟨p4, b4, p5, b5, rfl, hr, hB⟩ K hK
      change S 6 = false at hi
      obtain ⟨e4, e1, e3, e0, e5⟩ := preds_conj hp (l := [4, 1, 3, 0, 5]) rfl
      change S 5 = true at e5
      clear hp
      obtain ⟨y4, l4, m4, c4⟩ := by obtain ⟨h4, k4, h5, k5, n4_5⟩ := hr.out; exact h4 e4
      rw [if_neg (by rw [hi]; decide)] at c4
      subst y4
      clear hi
      go_simp
      obtain ⟨h4, k4, h5, k5, n4_5⟩ := hr.out
      refine hK _ _ ⟨(.pointer (some ⟨b4, 0, none⟩)), b4, p5, b5, by simp [upd, e1, e3, e0], ⟨?_, ?_, ?_, by simpa [upd] using k5, by simpa [upd] using n4_5⟩, below_setRow' hB (by omega) _⟩
      · intro _; exact ⟨rfl, l4, by simp [World.setRow]; omega, by rw [row_setRow]; simp [upd, c4]⟩
      · intro h; simp [upd, e4] at h
      · intro h
        obtain ⟨q1, q2, q3, q4⟩ := h5 (by simpa [upd] using h)
        exact ⟨q1, q2, by simp [World.setRow]; omega, by rw [row_setRow, if_neg ((n4_5 e4 (by simpa [upd] using h)).symm), q4]; simp [upd]⟩
    · rintro S a' w' hi hp ⟨p4, b4, p5, b5, rfl, hr, hB⟩ K hK
      change S 7 = false at hi
      obtain ⟨e5, e3, e6, e0, e1, e2, e4⟩ := preds_conj hp (l := [5, 3, 6, 0, 1, 2, 4]) rfl
      change S 4 = true at e4
      clear hp
      obtain ⟨y5, l5, m5, c5⟩ := by obtain ⟨h4, k4, h5, k5, n4_5⟩ := hr.out; exact h5 e5
      rw [if_neg (by rw [hi]; decide)] at c5
      subst y5
      clear hi
      go_simp
      obtain ⟨h4, k4, h5, k5, n4_5⟩ := hr.out
      refine hK _ _ ⟨p4, b4, (.pointer (some ⟨b5, 0, none⟩)), b5, by simp [upd, e3, e0, e1, e2], ⟨?_, by simpa [upd] using k4, ?_, ?_, by simpa [upd] using n4_5⟩, below_setRow' hB (by omega) _⟩
      · intro h
        obtain ⟨q1, q2, q3, q4⟩ := h4 (by simpa [upd] using h)
        exact ⟨q1, q2, by simp [World.setRow]; omega, by rw [row_setRow, if_neg (n4_5 (by simpa [upd] using h) e5), q4]; simp [upd]⟩
      · intro _; exact ⟨rfl, l5, by simp [World.setRow]; omega, by rw [row_setRow]; simp [upd, c5]⟩
      · intro h; simp [upd, e5] at h
  case he =>
    rintro a' wr ⟨p4, b4, p5, b5, rfl, hr, hB⟩
    obtain ⟨h4, k4, h5, k5, n4_5⟩ := hr.out
    obtain ⟨rfl, l4, m4, c4⟩ := h4 (by simp)
    simp only [List.length_cons, List.length_nil, Nat.reduceAdd, Nat.reduceLT, decide_true, if_true] at c4
    obtain ⟨rfl, l5, m5, c5⟩ := h5 (by simp)
    simp only [List.length_cons, List.length_nil, Nat.reduceAdd, Nat.reduceLT, decide_true, if_true] at c5
    have d4_5 := n4_5 (by simp) (by simp)
    clear hr h4 k4 h5 k5 n4_5
    simp only [Nat.reduceLT, List.length_cons, List.length_nil, Nat.reduceAdd, decide_true, if_true]
    have hz1 : w1.heap.size ≤ wr.heap.size := hB.size
    have r0 : wr.row? w.heap.size = some (num a) := (row_below hB _ s0).trans q0
    have r1 : wr.row? (w.heap.size + 1) = some (num b) := (row_below hB _ s1).trans q1
    have s2 : w.heap.size < wr.heap.size := by omega
    have s3 : w.heap.size + 1 < wr.heap.size := by omega
    clear q0 q1
    go_wp2_with fail
    refine (bless_T _ _ ha hb _).mono ?_
    rintro e w2 ⟨rfl, hB2⟩
    rw [hd1.out]
    obtain ⟨⟨q0, s4⟩, ⟨q1, s5⟩, ⟨q2, s6⟩, ⟨q3, s7⟩, -⟩ := RowsOf.keep hB2 (l := [(w.heap.size, num a), (w.heap.size + 1, num b), (b4, bts a), (b5, bts b)]) (by go_simp)
    clear r0 r1 c4 c5
    go_wp2_with fail
    have wr1 : IntKind.i64.wrap 1 = 1 := by decide
    have wr2 : IntKind.i64.wrap (-1) = -1 := by decide
    have wr0 : IntKind.i64.wrap 0 = 0 := by decide
    have hk1 := fun w => cmp_T a b ha hb w
    have hk2 := fun w => cmp_T b a hb ha w
    rw [hc1.out] at hk1
    rw [hc2.out] at hk2
    refine wp_region_steps (fun S a' w' => ∃ (_u : Unit), a' = ⟨(.agg (num a) :: .agg (num b) :: .pointer (some ⟨w.heap.size, 0, none⟩) :: .pointer (some ⟨w.heap.size + 1, 0, none⟩) :: (if S 29 = true then .bool true else .bool false) :: .pointer (some ⟨b4, 0, none⟩) :: .pointer (some ⟨b5, 0, none⟩) :: .int .i64 (-1) :: .bool true :: .bool false :: .agg (num a) :: .agg (bts a) :: .agg (num b) :: .agg (bts b) :: .agg (bts a) :: .agg (bts b) :: .bool true :: undef :: undef :: undef :: (if S 0 = true then .agg (num a) else undef) :: (if S 1 = true then .agg (num b) else undef) :: (if S 2 = true then .int .i64 (-1) else undef) :: (if S 3 = true then .int .i64 (-1) else undef) :: (if S 4 = true then .bool true else undef) :: (if S 5 = true then .bool true else undef) :: (if S 6 = true then .agg (num b) else undef) :: (if S 7 = true then .agg (num a) else undef) :: (if S 8 = true then .int .i64 (1) else undef) :: (if S 9 = true then .int .i64 (-1) else undef) :: (if S 10 = true then .int .i64 (1) else undef) :: (if S 11 = true then .bool true else undef) :: (if S 12 = true then .bool true else undef) :: (if S 13 = true then .bool true else undef) :: (if S 14 = true then .int .i64 (-1) else undef) :: (if S 15 = true then .bool false else undef) :: (if S 16 = true then .agg (num a) else undef) :: (if S 17 = true then .agg (num b) else undef) :: (if S 18 = true then .bool false else undef) :: (if S 19 = true then .bool true else undef) :: (if S 20 = true then .bool true else undef) :: (if S 21 = true then .bool true else undef) :: (if S 22 = true then .agg (num a) else undef) :: (if S 23 = true then .bool (isZ a) else undef) :: (if S 24 = true then .agg (num a) else undef) :: (if S 25 = true then .agg (num 0) else undef) :: (if S 26 = true then .bool (isZ a) else undef) :: (if S 27 = true then .bool true else undef) :: (if S 28 = true then .bool true else undef) :: []).toArray, []⟩ ∧ Hid (True) ∧ Below (w2.heap.size) w2 w') rfl (by kernel_rfl) ?h0 ?hs ?he
    case h0 =>
      refine ⟨(), rfl, trivial, (Below.refl _ _).drew⟩
    case hs =>
      refine ⟨?_, ?_, ?_, ?_, ?_, ?_, ?_, ?_, ?_, ?_, ?_, ?_, ?_, ?_, ?_, ?_, ?_, ?_, ?_, ?_, ?_, ?_, ?_, ?_, ?_, ?_, ?_, ?_, ?_, ?_, trivial⟩
      · rintro S a' w' hi hp ⟨_u, rfl, hr, hB⟩ K hK
        change S 0 = false at hi
        clear hp
        have r := fun b hb => row_below hB b hb
        clear hi
        go_simp
        exact hK _ _ ⟨(), by simp [upd], trivial, hB⟩
      · rintro S a' w' hi hp ⟨_u, rfl, hr, hB⟩ K hK
        change S 1 = false at hi
        clear hp
        have r := fun b hb => row_below hB b hb
        clear hi
        go_simp
        exact hK _ _ ⟨(), by simp [upd], trivial, hB⟩
      · rintro S a' w' hi hp ⟨_u, rfl, hr, hB⟩ K hK
        change S 2 = false at hi
        obtain ⟨e0, e1⟩ := preds_conj hp (l := [0, 1]) rfl
        change S 1 = true at e1
        clear hp
        clear hi
        go_simp
        refine (hk1 _).mono ?_
        rintro e w1 ⟨rfl, hB1⟩
        refine hK _ _ ⟨_u, by simp [upd, Act.put, e0, e1], trivial, below_call hB (Nat.le_trans (by simp; try omega) hB.size) hB1⟩
      · rintro S a' w' hi hp ⟨_u, rfl, hr, hB⟩ K hK
        change S 3 = false at hi
        clear hp
        have r := fun b hb => row_below hB b hb
        clear hi
        go_simp
        exact hK _ _ ⟨(), by simp [upd], trivial, hB⟩
      · rintro S a' w' hi hp ⟨_u, rfl, hr, hB⟩ K hK
        change S 4 = false at hi
        obtain ⟨e2, e3⟩ := preds_conj hp (l := [2, 3]) rfl
        change S 3 = true at e3
        clear hp
        have r := fun b hb => row_below hB b hb
        clear hi
        go_simp
        exact hK _ _ ⟨(), by simp [upd, e2, e3], trivial, hB⟩
      · rintro S a' w' hi hp ⟨_u, rfl, hr, hB⟩ K hK
        change S 5 = false at hi
        obtain ⟨e4, e2⟩ := preds_conj hp (l := [4, 2]) rfl
        change S 2 = true at e2
        clear hp
        have r := fun b hb => row_below hB b hb
        clear hi
        go_simp
        exact hK _ _ ⟨(), by simp [upd, e4, e2], trivial, hB⟩
      · rintro S a' w' hi hp ⟨_u, rfl, hr, hB⟩ K hK
        change S 6 = false at hi
        have e5 := preds_conj hp (l := [5]) rfl
        change S 5 = true at e5
        clear hp
        have r := fun b hb => row_below hB b hb
        clear hi
        go_simp
        exact hK _ _ ⟨(), by simp [upd, e5], trivial, hB⟩
      · rintro S a' w' hi hp ⟨_u, rfl, hr, hB⟩ K hK
        change S 7 = false at hi
        have e5 := preds_conj hp (l := [5]) rfl
        change S 5 = true at e5
        clear hp
        have r := fun b hb => row_below hB b hb
        clear hi
        go_simp
        exact hK _ _ ⟨(), by simp [upd, e5], trivial, hB⟩
      · rintro S a' w' hi hp ⟨_u, rfl, hr, hB⟩ K hK
        change S 8 = false at hi
        obtain ⟨e6, e7, e5⟩ := preds_conj hp (l := [6, 7, 5]) rfl
        change S 5 = true at e5
        clear hp
        clear hi
        go_simp
        refine (hk2 _).mono ?_
        rintro e w1 ⟨rfl, hB1⟩
        refine hK _ _ ⟨_u, by simp [upd, Act.put, e6, e7, e5], trivial, below_call hB (Nat.le_trans (by simp; try omega) hB.size) hB1⟩
      · rintro S a' w' hi hp ⟨_u, rfl, hr, hB⟩ K hK
        change S 9 = false at hi
        have e5 := preds_conj hp (l := [5]) rfl
        change S 5 = true at e5
        clear hp
        have r := fun b hb => row_below hB b hb
        clear hi
        go_simp
        exact hK _ _ ⟨(), by simp [upd, e5], trivial, hB⟩
      · rintro S a' w' hi hp ⟨_u, rfl, hr, hB⟩ K hK
        change S 10 = false at hi
        obtain ⟨e9, e5⟩ := preds_conj hp (l := [9, 5]) rfl
        change S 5 = true at e5
        clear hp
        have r := fun b hb => row_below hB b hb
        clear hi
        go_simp
        exact hK _ _ ⟨(), by simp [upd, e9, e5], trivial, hB⟩
      · rintro S a' w' hi hp ⟨_u, rfl, hr, hB⟩ K hK
        change S 11 = false at hi
        obtain ⟨e8, e10, e5⟩ := preds_conj hp (l := [8, 10, 5]) rfl
        change S 5 = true at e5
        clear hp
        have r := fun b hb => row_below hB b hb
        clear hi
        go_simp
        exact hK _ _ ⟨(), by simp [upd, e8, e10, e5], trivial, hB⟩
      · rintro S a' w' hi hp ⟨_u, rfl, hr, hB⟩ K hK
        change S 12 = false at hi
        obtain ⟨e5, e11⟩ := preds_conj hp (l := [5, 11]) rfl
        change S 11 = true at e11
        clear hp
        have r := fun b hb => row_below hB b hb
        clear hi
        go_simp
        exact hK _ _ ⟨(), by simp [upd, e5, e11], trivial, hB⟩
      · rintro S a' w' hi hp ⟨_u, rfl, hr, hB⟩ K hK
        change S 13 = false at hi
        obtain ⟨e12, e8⟩ := preds_conj hp (l := [12, 8]) rfl
        change S 8 = true at e8
        clear hp
        have r := fun b hb => row_below hB b hb
        clear hi
        go_simp
        exact hK _ _ ⟨(), by simp [upd, e12, e8], trivial, hB⟩
      · rintro S a' w' hi hp ⟨_u, rfl, hr, hB⟩ K hK
        change S 14 = false at hi
        have e13 := preds_conj hp (l := [13]) rfl
        change S 13 = true at e13
        clear hp
        have r := fun b hb => row_below hB b hb
        clear hi
        go_simp
        exact hK _ _ ⟨(), by simp [upd, e13], trivial, hB⟩
      · rintro S a' w' hi hp ⟨_u, rfl, hr, hB⟩ K hK
        change S 15 = false at hi
        obtain ⟨e14, e13⟩ := preds_conj hp (l := [14, 13]) rfl
        change S 13 = true at e13
        clear hp
        have r := fun b hb => row_below hB b hb
        clear hi
        go_simp
        exact hK _ _ ⟨(), by simp [upd, e14, e13], trivial, hB⟩
      · rintro S a' w' hi hp ⟨_u, rfl, hr, hB⟩ K hK
        change S 16 = false at hi
        have e13 := preds_conj hp (l := [13]) rfl
        change S 13 = true at e13
        clear hp
        have r := fun b hb => row_below hB b hb
        clear hi
        go_simp
        exact hK _ _ ⟨(), by simp [upd, e13], trivial, hB⟩
      · rintro S a' w' hi hp ⟨_u, rfl, hr, hB⟩ K hK
        change S 17 = false at hi
        have e13 := preds_conj hp (l := [13]) rfl
        change S 13 = true at e13
        clear hp
        have r := fun b hb => row_below hB b hb
        clear hi
        go_simp
        exact hK _ _ ⟨(), by simp [upd, e13], trivial, hB⟩
      · rintro S a' w' hi hp ⟨_u, rfl, hr, hB⟩ K hK
        change S 18 = false at hi
        obtain ⟨e16, e17, e13⟩ := preds_conj hp (l := [16, 17, 13]) rfl
        change S 13 = true at e13
        clear hp
        have r := fun b hb => row_below hB b hb
        clear hi
        go_simp
        exact hK _ _ ⟨(), by simp [upd, e16, e17, e13], trivial, hB⟩
      · rintro S a' w' hi hp ⟨_u, rfl, hr, hB⟩ K hK
        change S 19 = false at hi
        obtain ⟨e15, e18, e13⟩ := preds_conj hp (l := [15, 18, 13]) rfl
        change S 13 = true at e13
        clear hp
        have r := fun b hb => row_below hB b hb
        clear hi
        go_simp
        exact hK _ _ ⟨(), by simp [upd, e15, e18, e13], trivial, hB⟩
      · rintro S a' w' hi hp ⟨_u, rfl, hr, hB⟩ K hK
        change S 20 = false at hi
        obtain ⟨e13, e19⟩ := preds_conj hp (l := [13, 19]) rfl
        change S 19 = true at e19
        clear hp
        have r := fun b hb => row_below hB b hb
        clear hi
        go_simp
        exact hK _ _ ⟨(), by simp [upd, e13, e19], trivial, hB⟩
      · rintro S a' w' hi hp ⟨_u, rfl, hr, hB⟩ K hK
        change S 21 = false at hi
        obtain ⟨e20, e13⟩ := preds_conj hp (l := [20, 13]) rfl
        change S 13 = true at e13
        clear hp
        have r := fun b hb => row_below hB b hb
        clear hi
        go_simp
        exact hK _ _ ⟨(), by simp [upd, e20, e13], trivial, hB⟩
      · rintro S a' w' hi hp ⟨_u, rfl, hr, hB⟩ K hK
        change S 22 = false at hi
        have e21 := preds_conj hp (l := [21]) rfl
        change S 21 = true at e21
        clear hp
        have r := fun b hb => row_below hB b hb
        clear hi
        go_simp
        exact hK _ _ ⟨(), by simp [upd, e21], trivial, hB⟩
      · rintro S a' w' hi hp ⟨_u, rfl, hr, hB⟩ K hK
        change S 23 = false at hi
        obtain ⟨e22, e21⟩ := preds_conj hp (l := [22, 21]) rfl
        change S 21 = true at e21
        clear hp
        clear hi
        go_simp
        refine (zero_T _ ha _).mono ?_
        rintro e w1 ⟨rfl, hB1⟩
        refine hK _ _ ⟨_u, by simp [upd, Act.put, e22, e21], trivial, below_call hB (Nat.le_trans (by simp; try omega) hB.size) hB1⟩
      · rintro S a' w' hi hp ⟨_u, rfl, hr, hB⟩ K hK
        change S 24 = false at hi
        have e21 := preds_conj hp (l := [21]) rfl
        change S 21 = true at e21
        clear hp
        have r := fun b hb => row_below hB b hb
        clear hi
        go_simp
        exact hK _ _ ⟨(), by simp [upd, e21], trivial, hB⟩
      · rintro S a' w' hi hp ⟨_u, rfl, hr, hB⟩ K hK
        change S 25 = false at hi
        have e21 := preds_conj hp (l := [21]) rfl
        change S 21 = true at e21
        clear hp
        have r := fun b hb => row_below hB b hb
        clear hi
        go_simp
        exact hK _ _ ⟨(), by simp [upd, e21], trivial, hB⟩
      · rintro S a' w' hi hp ⟨_u, rfl, hr, hB⟩ K hK
        change S 26 = false at hi
        obtain ⟨e24, e25, e21⟩ := preds_conj hp (l := [24, 25, 21]) rfl
        change S 21 = true at e21
        clear hp
        have r := fun b hb => row_below hB b hb
        clear hi
        go_simp
        exact hK _ _ ⟨(), by simp [upd, e24, e25, e21], trivial, hB⟩
      · rintro S a' w' hi hp ⟨_u, rfl, hr, hB⟩ K hK
        change S 27 = false at hi
        obtain ⟨e23, e26, e21⟩ := preds_conj hp (l := [23, 26, 21]) rfl
        change S 21 = true at e21
        clear hp
        have r := fun b hb => row_below hB b hb
        clear hi
        go_simp
        exact hK _ _ ⟨(), by simp [upd, e23, e26, e21], trivial, hB⟩
      · rintro S a' w' hi hp ⟨_u, rfl, hr, hB⟩ K hK
        change S 28 = false at hi
        obtain ⟨e21, e27⟩ := preds_conj hp (l := [21, 27]) rfl
        change S 27 = true at e27
        clear hp
        have r := fun b hb => row_below hB b hb
        clear hi
        go_simp
        exact hK _ _ ⟨(), by simp [upd, e21, e27], trivial, hB⟩
      · rintro S a' w' hi hp ⟨_u, rfl, hr, hB⟩ K hK
        change S 29 = false at hi
        obtain ⟨e28, e23, e0, e1, e2, e3, e4, e5, e6, e7, e8, e9, e10, e11, e12, e13, e14, e15, e16, e17, e18, e19, e20, e21, e22, e24, e25, e26, e27⟩ := preds_conj hp (l := [28, 23, 0, 1, 2, 3, 4, 5, 6, 7, 8, 9, 10, 11, 12, 13, 14, 15, 16, 17, 18, 19, 20, 21, 22, 24, 25, 26, 27]) rfl
        change S 27 = true at e27
        clear hp
        have r := fun b hb => row_below hB b hb
        clear hi
        go_simp
        exact hK _ _ ⟨(), by simp [upd, e28, e23, e0, e1, e2, e3, e4, e5, e6, e7, e8, e9, e10, e11, e12, e13, e14, e15, e16, e17, e18, e19, e20, e21, e22, e24, e25, e26, e27], trivial, hB⟩
    case he =>
      rintro a' wq ⟨_u, rfl, hr, hB⟩
      simp only [Nat.reduceLT, List.length_cons, List.length_nil, Nat.reduceAdd, decide_true, if_true]
      go_wp2
      go_ret
      refine ⟨rfl, ?_⟩
      have h0 := ((Below.refl w.heap.size w).alloc (Nat.le_refl _) (.cells (num a) 24)).alloc (by simp) (.cells (num b) 24)
      have h1 := below_call h0 h0.size hB1
      have h1' := below_call h1 h1.size ‹Below w1.heap.size w1 wr›
      have h2 := below_call h1' h1'.size hB2
      have h3 := h2
      exact below_call h3 h3.size hB
set_option maxHeartbeats 1600000 in
theorem order_gt (a b : Nat) (ha : T a) (hb : T b) (hx : b < a) (w : World) :
    Calls Try.prog 4 #[.agg (num a), .agg (num b)] w fun e w' => e = .returned (.bool true) ∧ Below w.heap.size w w' := by
  have he : ∀ w, (Op.equalIn 10000 24 (.agg (num a)) (.agg (num b))).run Try.prog w = .ok false w := fun w => by
    rw [eqT w a b ha hb]; congr 1; simp; omega
  have hz := fun w => eqZ w a ha
  have hd1 : Hid (decide (a < b) = false) := by unfold Hid; first | (rw [decide_eq_true_iff]; omega) | (rw [decide_eq_false_iff_not]; omega)
  have hd2 : Hid (decide (b < a) = true) := by unfold Hid; first | (rw [decide_eq_true_iff]; omega) | (rw [decide_eq_false_iff_not]; omega)
  have hc1 : Hid (cmpR a b = 1) := by first | exact cmp_l (by omega) | exact cmp_g (by omega) | exact cmp_e (by omega)
  have hc2 : Hid (cmpR b a = -1) := by first | exact cmp_l (by omega) | exact cmp_g (by omega) | exact cmp_e (by omega)
  clear hx
  go_enter Try.func4, Try.ntmps4
  go_wp2_with fail
  refine (fit_any _).mono ?_
  rintro e w1 ⟨rfl, hB1⟩
  obtain ⟨⟨q0, s0⟩, ⟨q1, s1⟩, -⟩ := RowsOf.keep hB1 (l := [(w.heap.size, num a), (w.heap.size + 1, num b)]) (by go_simp)
  go_wp2_with fail
  refine wp_region_steps (fun S a' w' => ∃ (p4 : Value) (b4 : Nat) (p5 : Value) (b5 : Nat), a' = ⟨(.agg (num a) :: .agg (num b) :: .pointer (some ⟨w.heap.size, 0, none⟩) :: .pointer (some ⟨w.heap.size + 1, 0, none⟩) :: .bool false :: p4 :: p5 :: undef :: .bool true :: .bool false :: (if S 0 = true then .agg (num a) else undef) :: (if S 1 = true then .agg (bts a) else undef) :: (if S 2 = true then .agg (num b) else undef) :: (if S 3 = true then .agg (bts b) else undef) :: undef :: undef :: undef :: undef :: undef :: undef :: undef :: undef :: undef :: undef :: undef :: undef :: undef :: undef :: undef :: undef :: undef :: undef :: undef :: undef :: undef :: undef :: undef :: undef :: undef :: undef :: undef :: undef :: undef :: undef :: undef :: undef :: undef :: undef :: undef :: []).toArray, []⟩ ∧ Hid ((S 4 = true → p4 = .pointer (some ⟨b4, 0, none⟩) ∧ w1.heap.size ≤ b4 ∧ b4 < w'.heap.size ∧ w'.row? b4 = some (if S 6 = true then bts a else (bts 0))) ∧ (S 4 = false → p4 = undef ∧ S 6 = false) ∧ (S 5 = true → p5 = .pointer (some ⟨b5, 0, none⟩) ∧ w1.heap.size ≤ b5 ∧ b5 < w'.heap.size ∧ w'.row? b5 = some (if S 7 = true then bts b else (bts 0))) ∧ (S 5 = false → p5 = undef ∧ S 7 = false) ∧ (S 4 = true → S 5 = true → b4 ≠ b5)) ∧ Below (w1.heap.size) w1 w') rfl (by kernel_rfl) ?h0 ?hs ?he
  case h0 =>
    refine ⟨_, 0, _, 0, rfl, ⟨by simp, by simp, by simp, by simp, by simp⟩, (Below.refl _ _).drew⟩
  case hs =>
    refine ⟨?_, ?_, ?_, ?_, ?_, ?_, ?_, ?_, trivial⟩
    · rintro S a' w' hi hp ⟨p4, b4, p5, b5, rfl, hr, hB⟩ K hK
      change S 0 = false at hi
      clear hp
      have r := fun b hb => row_below hB b hb
      clear hi
      go_simp
      obtain ⟨h4, k4, h5, k5, n4_5⟩ := hr.out
      exact hK _ _ ⟨p4, b4, p5, b5, by simp [upd], ⟨by simpa [upd] using h4, by simpa [upd] using k4, by simpa [upd] using h5, by simpa [upd] using k5, by simpa [upd] using n4_5⟩, hB⟩
    · rintro S a' w' hi hp ⟨p4, b4, p5, b5, rfl, hr, hB⟩ K hK
      change S 1 = false at hi
      have e0 := preds_conj hp (l := [0]) rfl
      change S 0 = true at e0
      clear hp
      clear hi
      go_simp
      obtain ⟨h4, k4, h5, k5, n4_5⟩ := hr.out
      refine (of_any _ _).mono ?_
      rintro e w1 ⟨rfl, hB1⟩
      refine hK _ _ ⟨p4, b4, p5, b5, by simp [upd, Act.put, e0], ⟨?_, by simpa [upd] using k4, ?_, by simpa [upd] using k5, by simpa [upd] using n4_5⟩, below_call hB (Nat.le_trans (by simp; try omega) hB.size) hB1⟩
      · intro h
        obtain ⟨q1, q2, q3, q4⟩ := h4 (by simpa [upd] using h)
        exact ⟨q1, q2, Nat.lt_of_lt_of_le q3 hB1.size, by rw [row_below hB1 _ q3, q4]; simp [upd]⟩
      · intro h
        obtain ⟨q1, q2, q3, q4⟩ := h5 (by simpa [upd] using h)
        exact ⟨q1, q2, Nat.lt_of_lt_of_le q3 hB1.size, by rw [row_below hB1 _ q3, q4]; simp [upd]⟩
    · rintro S a' w' hi hp ⟨p4, b4, p5, b5, rfl, hr, hB⟩ K hK
      change S 2 = false at hi
      clear hp
      have r := fun b hb => row_below hB b hb
      clear hi
      go_simp
      obtain ⟨h4, k4, h5, k5, n4_5⟩ := hr.out
      exact hK _ _ ⟨p4, b4, p5, b5, by simp [upd], ⟨by simpa [upd] using h4, by simpa [upd] using k4, by simpa [upd] using h5, by simpa [upd] using k5, by simpa [upd] using n4_5⟩, hB⟩
    · rintro S a' w' hi hp ⟨p4, b4, p5, b5, rfl, hr, hB⟩ K hK
      change S 3 = false at hi
      obtain ⟨e2, e1⟩ := preds_conj hp (l := [2, 1]) rfl
      change S 1 = true at e1
      clear hp
      clear hi
      go_simp
      obtain ⟨h4, k4, h5, k5, n4_5⟩ := hr.out
      refine (of_any _ _).mono ?_
      rintro e w1 ⟨rfl, hB1⟩
      refine hK _ _ ⟨p4, b4, p5, b5, by simp [upd, Act.put, e2, e1], ⟨?_, by simpa [upd] using k4, ?_, by simpa [upd] using k5, by simpa [upd] using n4_5⟩, below_call hB (Nat.le_trans (by simp; try omega) hB.size) hB1⟩
      · intro h
        obtain ⟨q1, q2, q3, q4⟩ := h4 (by simpa [upd] using h)
        exact ⟨q1, q2, Nat.lt_of_lt_of_le q3 hB1.size, by rw [row_below hB1 _ q3, q4]; simp [upd]⟩
      · intro h
        obtain ⟨q1, q2, q3, q4⟩ := h5 (by simpa [upd] using h)
        exact ⟨q1, q2, Nat.lt_of_lt_of_le q3 hB1.size, by rw [row_below hB1 _ q3, q4]; simp [upd]⟩
    · rintro S a' w' hi hp ⟨p4, b4, p5, b5, rfl, hr, hB⟩ K hK
      change S 4 = false at hi
      clear hp
      have hsz : w1.heap.size ≤ w'.heap.size := Nat.le_trans (by simp; try omega) hB.size
      obtain ⟨h4, k4, h5, k5, n4_5⟩ := hr.out
      obtain ⟨z1, z2⟩ := k4 hi
      clear hi
      go_simp
      refine hK _ _ ⟨(.pointer (some ⟨w'.heap.size, 0, none⟩)), w'.heap.size, p5, b5, by simp [upd], ⟨?_, by simp [upd], ?_, by simpa [upd] using k5, ?_⟩, hB.alloc hsz _⟩
      · intro _; exact ⟨rfl, hsz, by simp, by rw [row_alloc_at _ _ _ _ rfl]; simp [upd, z2]⟩
      · intro h
        obtain ⟨q1, q2, q3, q4⟩ := h5 (by simpa [upd] using h)
        exact ⟨q1, q2, by simp; omega, by rw [row_alloc_past _ _ _ q3, q4]; simp [upd]⟩
      · intro _ h
        obtain ⟨_, _, q3, _⟩ := h5 (by simpa [upd] using h)
        omega
    · rintro S a' w' hi hp ⟨p4, b4, p5, b5, rfl, hr, hB⟩ K hK
      change S 5 = false at hi
      clear hp
      have hsz : w1.heap.size ≤ w'.heap.size := Nat.le_trans (by simp; try omega) hB.size
      obtain ⟨h4, k4, h5, k5, n4_5⟩ := hr.out
      obtain ⟨z1, z2⟩ := k5 hi
      clear hi
      go_simp
      refine hK _ _ ⟨p4, b4, (.pointer (some ⟨w'.heap.size, 0, none⟩)), w'.heap.size, by simp [upd], ⟨?_, by simpa [upd] using k4, ?_, by simp [upd], ?_⟩, hB.alloc hsz _⟩
      · intro h
        obtain ⟨q1, q2, q3, q4⟩ := h4 (by simpa [upd] using h)
        exact ⟨q1, q2, by simp; omega, by rw [row_alloc_past _ _ _ q3, q4]; simp [upd]⟩
      · intro _; exact ⟨rfl, hsz, by simp, by rw [row_alloc_at _ _ _ _ rfl]; simp [upd, z2]⟩
      · intro h _
        obtain ⟨_, _, q3, _⟩ := h4 (by simpa [upd] using h)
        omega
    · rintro S a' w' hi hp ⟨p4, b4, p5, b5, rfl, hr, hB⟩ K hK
      change S 6 = false at hi
      obtain ⟨e4, e1, e3, e0, e5⟩ := preds_conj hp (l := [4, 1, 3, 0, 5]) rfl
      change S 5 = true at e5
      clear hp
      obtain ⟨y4, l4, m4, c4⟩ := by obtain ⟨h4, k4, h5, k5, n4_5⟩ := hr.out; exact h4 e4
      rw [if_neg (by rw [hi]; decide)] at c4
      subst y4
      clear hi
      go_simp
      obtain ⟨h4, k4, h5, k5, n4_5⟩ := hr.out
      refine hK _ _ ⟨(.pointer (some ⟨b4, 0, none⟩)), b4, p5, b5, by simp [upd, e1, e3, e0], ⟨?_, ?_, ?_, by simpa [upd] using k5, by simpa [upd] using n4_5⟩, below_setRow' hB (by omega) _⟩
      · intro _; exact ⟨rfl, l4, by simp [World.setRow]; omega, by rw [row_setRow]; simp [upd, c4]⟩
      · intro h; simp [upd, e4] at h
      · intro h
        obtain ⟨q1, q2, q3, q4⟩ := h5 (by simpa [upd] using h)
        exact ⟨q1, q2, by simp [World.setRow]; omega, by rw [row_setRow, if_neg ((n4_5 e4 (by simpa [upd] using h)).symm), q4]; simp [upd]⟩
    · rintro S a' w' hi hp ⟨p4, b4, p5, b5, rfl, hr, hB⟩ K hK
      change S 7 = false at hi
      obtain ⟨e5, e3, e6, e0, e1, e2, e4⟩ := preds_conj hp (l := [5, 3, 6, 0, 1, 2, 4]) rfl
      change S 4 = true at e4
      clear hp
      obtain ⟨y5, l5, m5, c5⟩ := by obtain ⟨h4, k4, h5, k5, n4_5⟩ := hr.out; exact h5 e5
      rw [if_neg (by rw [hi]; decide)] at c5
      subst y5
      clear hi
      go_simp
      obtain ⟨h4, k4, h5, k5, n4_5⟩ := hr.out
      refine hK _ _ ⟨p4, b4, (.pointer (some ⟨b5, 0, none⟩)), b5, by simp [upd, e3, e0, e1, e2], ⟨?_, by simpa [upd] using k4, ?_, ?_, by simpa [upd] using n4_5⟩, below_setRow' hB (by omega) _⟩
      · intro h
        obtain ⟨q1, q2, q3, q4⟩ := h4 (by simpa [upd] using h)
        exact ⟨q1, q2, by simp [World.setRow]; omega, by rw [row_setRow, if_neg (n4_5 (by simpa [upd] using h) e5), q4]; simp [upd]⟩
      · intro _; exact ⟨rfl, l5, by simp [World.setRow]; omega, by rw [row_setRow]; simp [upd, c5]⟩
      · intro h; simp [upd, e5] at h
  case he =>
    rintro a' wr ⟨p4, b4, p5, b5, rfl, hr, hB⟩
    obtain ⟨h4, k4, h5, k5, n4_5⟩ := hr.out
    obtain ⟨rfl, l4, m4, c4⟩ := h4 (by simp)
    simp only [List.length_cons, List.length_nil, Nat.reduceAdd, Nat.reduceLT, decide_true, if_true] at c4
    obtain ⟨rfl, l5, m5, c5⟩ := h5 (by simp)
    simp only [List.length_cons, List.length_nil, Nat.reduceAdd, Nat.reduceLT, decide_true, if_true] at c5
    have d4_5 := n4_5 (by simp) (by simp)
    clear hr h4 k4 h5 k5 n4_5
    simp only [Nat.reduceLT, List.length_cons, List.length_nil, Nat.reduceAdd, decide_true, if_true]
    have hz1 : w1.heap.size ≤ wr.heap.size := hB.size
    have r0 : wr.row? w.heap.size = some (num a) := (row_below hB _ s0).trans q0
    have r1 : wr.row? (w.heap.size + 1) = some (num b) := (row_below hB _ s1).trans q1
    have s2 : w.heap.size < wr.heap.size := by omega
    have s3 : w.heap.size + 1 < wr.heap.size := by omega
    clear q0 q1
    go_wp2_with fail
    refine (bless_T _ _ ha hb _).mono ?_
    rintro e w2 ⟨rfl, hB2⟩
    rw [hd1.out]
    obtain ⟨⟨q0, s4⟩, ⟨q1, s5⟩, ⟨q2, s6⟩, ⟨q3, s7⟩, -⟩ := RowsOf.keep hB2 (l := [(w.heap.size, num a), (w.heap.size + 1, num b), (b4, bts a), (b5, bts b)]) (by go_simp)
    clear r0 r1 c4 c5
    go_wp2_with fail
    refine (bless_T _ _ hb ha _).mono ?_
    rintro e w3 ⟨rfl, hB3⟩
    rw [hd2.out]
    obtain ⟨⟨r0, t4⟩, ⟨r1, t5⟩, -⟩ := RowsOf.keep hB3 (l := [(w.heap.size, num a), (w.heap.size + 1, num b)]) (by go_simp)
    clear q0 q1 q2 q3
    go_wp2_with fail
    have wr1 : IntKind.i64.wrap 1 = 1 := by decide
    have wr2 : IntKind.i64.wrap (-1) = -1 := by decide
    have wr0 : IntKind.i64.wrap 0 = 0 := by decide
    have hk1 := fun w => cmp_T a b ha hb w
    have hk2 := fun w => cmp_T b a hb ha w
    rw [hc1.out] at hk1
    rw [hc2.out] at hk2
    refine wp_region_steps (fun S a' w' => ∃ (_u : Unit), a' = ⟨(.agg (num a) :: .agg (num b) :: .pointer (some ⟨w.heap.size, 0, none⟩) :: .pointer (some ⟨w.heap.size + 1, 0, none⟩) :: (if S 29 = true then .bool true else .bool false) :: .pointer (some ⟨b4, 0, none⟩) :: .pointer (some ⟨b5, 0, none⟩) :: .int .i64 (1) :: .bool true :: .bool false :: .agg (num a) :: .agg (bts a) :: .agg (num b) :: .agg (bts b) :: .agg (bts a) :: .agg (bts b) :: .bool false :: .agg (bts b) :: .agg (bts a) :: .bool true :: (if S 0 = true then .agg (num a) else undef) :: (if S 1 = true then .agg (num b) else undef) :: (if S 2 = true then .int .i64 (1) else undef) :: (if S 3 = true then .int .i64 (1) else undef) :: (if S 4 = true then .bool true else undef) :: (if S 5 = true then .bool true else undef) :: (if S 6 = true then .agg (num b) else undef) :: (if S 7 = true then .agg (num a) else undef) :: (if S 8 = true then .int .i64 (-1) else undef) :: (if S 9 = true then .int .i64 (1) else undef) :: (if S 10 = true then .int .i64 (-1) else undef) :: (if S 11 = true then .bool true else undef) :: (if S 12 = true then .bool true else undef) :: (if S 13 = true then .bool true else undef) :: (if S 14 = true then .int .i64 (1) else undef) :: (if S 15 = true then .bool false else undef) :: (if S 16 = true then .agg (num a) else undef) :: (if S 17 = true then .agg (num b) else undef) :: (if S 18 = true then .bool false else undef) :: (if S 19 = true then .bool true else undef) :: (if S 20 = true then .bool true else undef) :: (if S 21 = true then .bool true else undef) :: (if S 22 = true then .agg (num a) else undef) :: (if S 23 = true then .bool (isZ a) else undef) :: (if S 24 = true then .agg (num a) else undef) :: (if S 25 = true then .agg (num 0) else undef) :: (if S 26 = true then .bool (isZ a) else undef) :: (if S 27 = true then .bool true else undef) :: (if S 28 = true then .bool true else undef) :: []).toArray, []⟩ ∧ Hid (True) ∧ Below (w3.heap.size) w3 w') rfl (by kernel_rfl) ?h0 ?hs ?he
    case h0 =>
      refine ⟨(), rfl, trivial, (Below.refl _ _).drew⟩
    case hs =>
      refine ⟨?_, ?_, ?_, ?_, ?_, ?_, ?_, ?_, ?_, ?_, ?_, ?_, ?_, ?_, ?_, ?_, ?_, ?_, ?_, ?_, ?_, ?_, ?_, ?_, ?_, ?_, ?_, ?_, ?_, ?_, trivial⟩
      · rintro S a' w' hi hp ⟨_u, rfl, hr, hB⟩ K hK
        change S 0 = false at hi
        clear hp
        have r := fun b hb => row_below hB b hb
        clear hi
        go_simp
        exact hK _ _ ⟨(), by simp [upd], trivial, hB⟩
      · rintro S a' w' hi hp ⟨_u, rfl, hr, hB⟩ K hK
        change S 1 = false at hi
        clear hp
        have r := fun b hb => row_below hB b hb
        clear hi
        go_simp
        exact hK _ _ ⟨(), by simp [upd], trivial, hB⟩
      · rintro S a' w' hi hp ⟨_u, rfl, hr, hB⟩ K hK
        change S 2 = false at hi
        obtain ⟨e0, e1⟩ := preds_conj hp (l := [0, 1]) rfl
        change S 1 = true at e1
        clear hp
        clear hi
        go_simp
        refine (hk1 _).mono ?_
        rintro e w1 ⟨rfl, hB1⟩
        refine hK _ _ ⟨_u, by simp [upd, Act.put, e0, e1], trivial, below_call hB (Nat.le_trans (by simp; try omega) hB.size) hB1⟩
      · rintro S a' w' hi hp ⟨_u, rfl, hr, hB⟩ K hK
        change S 3 = false at hi
        clear hp
        have r := fun b hb => row_below hB b hb
        clear hi
        go_simp
        exact hK _ _ ⟨(), by simp [upd], trivial, hB⟩
      · rintro S a' w' hi hp ⟨_u, rfl, hr, hB⟩ K hK
        change S 4 = false at hi
        obtain ⟨e2, e3⟩ := preds_conj hp (l := [2, 3]) rfl
        change S 3 = true at e3
        clear hp
        have r := fun b hb => row_below hB b hb
        clear hi
        go_simp
        exact hK _ _ ⟨(), by simp [upd, e2, e3], trivial, hB⟩
      · rintro S a' w' hi hp ⟨_u, rfl, hr, hB⟩ K hK
        change S 5 = false at hi
        obtain ⟨e4, e2⟩ := preds_conj hp (l := [4, 2]) rfl
        change S 2 = true at e2
        clear hp
        have r := fun b hb => row_below hB b hb
        clear hi
        go_simp
        exact hK _ _ ⟨(), by simp [upd, e4, e2], trivial, hB⟩
      · rintro S a' w' hi hp ⟨_u, rfl, hr, hB⟩ K hK
        change S 6 = false at hi
        have e5 := preds_conj hp (l := [5]) rfl
        change S 5 = true at e5
        clear hp
        have r := fun b hb => row_below hB b hb
        clear hi
        go_simp
        exact hK _ _ ⟨(), by simp [upd, e5], trivial, hB⟩
      · rintro S a' w' hi hp ⟨_u, rfl, hr, hB⟩ K hK
        change S 7 = false at hi
        have e5 := preds_conj hp (l := [5]) rfl
        change S 5 = true at e5
        clear hp
        have r := fun b hb => row_below hB b hb
        clear hi
        go_simp
        exact hK _ _ ⟨(), by simp [upd, e5], trivial, hB⟩
      · rintro S a' w' hi hp ⟨_u, rfl, hr, hB⟩ K hK
        change S 8 = false at hi
        obtain ⟨e6, e7, e5⟩ := preds_conj hp (l := [6, 7, 5]) rfl
        change S 5 = true at e5
        clear hp
        clear hi
        go_simp
        refine (hk2 _).mono ?_
        rintro e w1 ⟨rfl, hB1⟩
        refine hK _ _ ⟨_u, by simp [upd, Act.put, e6, e7, e5], trivial, below_call hB (Nat.le_trans (by simp; try omega) hB.size) hB1⟩
      · rintro S a' w' hi hp ⟨_u, rfl, hr, hB⟩ K hK
        change S 9 = false at hi
        have e5 := preds_conj hp (l := [5]) rfl
        change S 5 = true at e5
        clear hp
        have r := fun b hb => row_below hB b hb
        clear hi
        go_simp
        exact hK _ _ ⟨(), by simp [upd, e5], trivial, hB⟩
      · rintro S a' w' hi hp ⟨_u, rfl, hr, hB⟩ K hK
        change S 10 = false at hi
        obtain ⟨e9, e5⟩ := preds_conj hp (l := [9, 5]) rfl
        change S 5 = true at e5
        clear hp
        have r := fun b hb => row_below hB b hb
        clear hi
        go_simp
        exact hK _ _ ⟨(), by simp [upd, e9, e5], trivial, hB⟩
      · rintro S a' w' hi hp ⟨_u, rfl, hr, hB⟩ K hK
        change S 11 = false at hi
        obtain ⟨e8, e10, e5⟩ := preds_conj hp (l := [8, 10, 5]) rfl
        change S 5 = true at e5
        clear hp
        have r := fun b hb => row_below hB b hb
        clear hi
        go_simp
        exact hK _ _ ⟨(), by simp [upd, e8, e10, e5], trivial, hB⟩
      · rintro S a' w' hi hp ⟨_u, rfl, hr, hB⟩ K hK
        change S 12 = false at hi
        obtain ⟨e5, e11⟩ := preds_conj hp (l := [5, 11]) rfl
        change S 11 = true at e11
        clear hp
        have r := fun b hb => row_below hB b hb
        clear hi
        go_simp
        exact hK _ _ ⟨(), by simp [upd, e5, e11], trivial, hB⟩
      · rintro S a' w' hi hp ⟨_u, rfl, hr, hB⟩ K hK
        change S 13 = false at hi
        obtain ⟨e12, e8⟩ := preds_conj hp (l := [12, 8]) rfl
        change S 8 = true at e8
        clear hp
        have r := fun b hb => row_below hB b hb
        clear hi
        go_simp
        exact hK _ _ ⟨(), by simp [upd, e12, e8], trivial, hB⟩
      · rintro S a' w' hi hp ⟨_u, rfl, hr, hB⟩ K hK
        change S 14 = false at hi
        have e13 := preds_conj hp (l := [13]) rfl
        change S 13 = true at e13
        clear hp
        have r := fun b hb => row_below hB b hb
        clear hi
        go_simp
        exact hK _ _ ⟨(), by simp [upd, e13], trivial, hB⟩
      · rintro S a' w' hi hp ⟨_u, rfl, hr, hB⟩ K hK
        change S 15 = false at hi
        obtain ⟨e14, e13⟩ := preds_conj hp (l := [14, 13]) rfl
        change S 13 = true at e13
        clear hp
        have r := fun b hb => row_below hB b hb
        clear hi
        go_simp
        exact hK _ _ ⟨(), by simp [upd, e14, e13], trivial, hB⟩
      · rintro S a' w' hi hp ⟨_u, rfl, hr, hB⟩ K hK
        change S 16 = false at hi
        have e13 := preds_conj hp (l := [13]) rfl
        change S 13 = true at e13
        clear hp
        have r := fun b hb => row_below hB b hb
        clear hi
        go_simp
        exact hK _ _ ⟨(), by simp [upd, e13], trivial, hB⟩
      · rintro S a' w' hi hp ⟨_u, rfl, hr, hB⟩ K hK
        change S 17 = false at hi
        have e13 := preds_conj hp (l := [13]) rfl
        change S 13 = true at e13
        clear hp
        have r := fun b hb => row_below hB b hb
        clear hi
        go_simp
        exact hK _ _ ⟨(), by simp [upd, e13], trivial, hB⟩
      · rintro S a' w' hi hp ⟨_u, rfl, hr, hB⟩ K hK
        change S 18 = false at hi
        obtain ⟨e16, e17, e13⟩ := preds_conj hp (l := [16, 17, 13]) rfl
        change S 13 = true at e13
        clear hp
        have r := fun b hb => row_below hB b hb
        clear hi
        go_simp
        exact hK _ _ ⟨(), by simp [upd, e16, e17, e13], trivial, hB⟩
      · rintro S a' w' hi hp ⟨_u, rfl, hr, hB⟩ K hK
        change S 19 = false at hi
        obtain ⟨e15, e18, e13⟩ := preds_conj hp (l := [15, 18, 13]) rfl
        change S 13 = true at e13
        clear hp
        have r := fun b hb => row_below hB b hb
        clear hi
        go_simp
        exact hK _ _ ⟨(), by simp [upd, e15, e18, e13], trivial, hB⟩
      · rintro S a' w' hi hp ⟨_u, rfl, hr, hB⟩ K hK
        change S 20 = false at hi
        obtain ⟨e13, e19⟩ := preds_conj hp (l := [13, 19]) rfl
        change S 19 = true at e19
        clear hp
        have r := fun b hb => row_below hB b hb
        clear hi
        go_simp
        exact hK _ _ ⟨(), by simp [upd, e13, e19], trivial, hB⟩
      · rintro S a' w' hi hp ⟨_u, rfl, hr, hB⟩ K hK
        change S 21 = false at hi
        obtain ⟨e20, e13⟩ := preds_conj hp (l := [20, 13]) rfl
        change S 13 = true at e13
        clear hp
        have r := fun b hb => row_below hB b hb
        clear hi
        go_simp
        exact hK _ _ ⟨(), by simp [upd, e20, e13], trivial, hB⟩
      · rintro S a' w' hi hp ⟨_u, rfl, hr, hB⟩ K hK
        change S 22 = false at hi
        have e21 := preds_conj hp (l := [21]) rfl
        change S 21 = true at e21
        clear hp
        have r := fun b hb => row_below hB b hb
        clear hi
        go_simp
        exact hK _ _ ⟨(), by simp [upd, e21], trivial, hB⟩
      · rintro S a' w' hi hp ⟨_u, rfl, hr, hB⟩ K hK
        change S 23 = false at hi
        obtain ⟨e22, e21⟩ := preds_conj hp (l := [22, 21]) rfl
        change S 21 = true at e21
        clear hp
        clear hi
        go_simp
        refine (zero_T _ ha _).mono ?_
        rintro e w1 ⟨rfl, hB1⟩
        refine hK _ _ ⟨_u, by simp [upd, Act.put, e22, e21], trivial, below_call hB (Nat.le_trans (by simp; try omega) hB.size) hB1⟩
      · rintro S a' w' hi hp ⟨_u, rfl, hr, hB⟩ K hK
        change S 24 = false at hi
        have e21 := preds_conj hp (l := [21]) rfl
        change S 21 = true at e21
        clear hp
        have r := fun b hb => row_below hB b hb
        clear hi
        go_simp
        exact hK _ _ ⟨(), by simp [upd, e21], trivial, hB⟩
      · rintro S a' w' hi hp ⟨_u, rfl, hr, hB⟩ K hK
        change S 25 = false at hi
        have e21 := preds_conj hp (l := [21]) rfl
        change S 21 = true at e21
        clear hp
        have r := fun b hb => row_below hB b hb
        clear hi
        go_simp
        exact hK _ _ ⟨(), by simp [upd, e21], trivial, hB⟩
      · rintro S a' w' hi hp ⟨_u, rfl, hr, hB⟩ K hK
        change S 26 = false at hi
        obtain ⟨e24, e25, e21⟩ := preds_conj hp (l := [24, 25, 21]) rfl
        change S 21 = true at e21
        clear hp
        have r := fun b hb => row_below hB b hb
        clear hi
        go_simp
        exact hK _ _ ⟨(), by simp [upd, e24, e25, e21], trivial, hB⟩
      · rintro S a' w' hi hp ⟨_u, rfl, hr, hB⟩ K hK
        change S 27 = false at hi
        obtain ⟨e23, e26, e21⟩ := preds_conj hp (l := [23, 26, 21]) rfl
        change S 21 = true at e21
        clear hp
        have r := fun b hb => row_below hB b hb
        clear hi
        go_simp
        exact hK _ _ ⟨(), by simp [upd, e23, e26, e21], trivial, hB⟩
      · rintro S a' w' hi hp ⟨_u, rfl, hr, hB⟩ K hK
        change S 28 = false at hi
        obtain ⟨e21, e27⟩ := preds_conj hp (l := [21, 27]) rfl
        change S 27 = true at e27
        clear hp
        have r := fun b hb => row_below hB b hb
        clear hi
        go_simp
        exact hK _ _ ⟨(), by simp [upd, e21, e27], trivial, hB⟩
      · rintro S a' w' hi hp ⟨_u, rfl, hr, hB⟩ K hK
        change S 29 = false at hi
        obtain ⟨e28, e23, e0, e1, e2, e3, e4, e5, e6, e7, e8, e9, e10, e11, e12, e13, e14, e15, e16, e17, e18, e19, e20, e21, e22, e24, e25, e26, e27⟩ := preds_conj hp (l := [28, 23, 0, 1, 2, 3, 4, 5, 6, 7, 8, 9, 10, 11, 12, 13, 14, 15, 16, 17, 18, 19, 20, 21, 22, 24, 25, 26, 27]) rfl
        change S 27 = true at e27
        clear hp
        have r := fun b hb => row_below hB b hb
        clear hi
        go_simp
        exact hK _ _ ⟨(), by simp [upd, e28, e23, e0, e1, e2, e3, e4, e5, e6, e7, e8, e9, e10, e11, e12, e13, e14, e15, e16, e17, e18, e19, e20, e21, e22, e24, e25, e26, e27], trivial, hB⟩
    case he =>
      rintro a' wq ⟨_u, rfl, hr, hB⟩
      simp only [Nat.reduceLT, List.length_cons, List.length_nil, Nat.reduceAdd, decide_true, if_true]
      go_wp2
      go_ret
      refine ⟨rfl, ?_⟩
      have h0 := ((Below.refl w.heap.size w).alloc (Nat.le_refl _) (.cells (num a) 24)).alloc (by simp) (.cells (num b) 24)
      have h1 := below_call h0 h0.size hB1
      have h1' := below_call h1 h1.size ‹Below w1.heap.size w1 wr›
      have h2 := below_call h1' h1'.size hB2
      have h3 := below_call h2 h2.size hB3
      exact below_call h3 h3.size hB
set_option maxHeartbeats 1600000 in
theorem order_eq (a b : Nat) (ha : T a) (hb : T b) (hx : a = b) (w : World) :
    Calls Try.prog 4 #[.agg (num a), .agg (num b)] w fun e w' => e = .returned (.bool true) ∧ Below w.heap.size w w' := by
  have he : ∀ w, (Op.equalIn 10000 24 (.agg (num a)) (.agg (num b))).run Try.prog w = .ok true w := fun w => by
    rw [eqT w a b ha hb]; congr 1; simp; omega
  have hz := fun w => eqZ w a ha
  have hd1 : Hid (decide (a < b) = false) := by unfold Hid; first | (rw [decide_eq_true_iff]; omega) | (rw [decide_eq_false_iff_not]; omega)
  have hd2 : Hid (decide (b < a) = false) := by unfold Hid; first | (rw [decide_eq_true_iff]; omega) | (rw [decide_eq_false_iff_not]; omega)
  have hc1 : Hid (cmpR a b = 0) := by first | exact cmp_l (by omega) | exact cmp_g (by omega) | exact cmp_e (by omega)
  have hc2 : Hid (cmpR b a = 0) := by first | exact cmp_l (by omega) | exact cmp_g (by omega) | exact cmp_e (by omega)
  clear hx
  go_enter Try.func4, Try.ntmps4
  go_wp2_with fail
  refine (fit_any _).mono ?_
  rintro e w1 ⟨rfl, hB1⟩
  obtain ⟨⟨q0, s0⟩, ⟨q1, s1⟩, -⟩ := RowsOf.keep hB1 (l := [(w.heap.size, num a), (w.heap.size + 1, num b)]) (by go_simp)
  go_wp2_with fail
  refine wp_region_steps (fun S a' w' => ∃ (p4 : Value) (b4 : Nat) (p5 : Value) (b5 : Nat), a' = ⟨(.agg (num a) :: .agg (num b) :: .pointer (some ⟨w.heap.size, 0, none⟩) :: .pointer (some ⟨w.heap.size + 1, 0, none⟩) :: .bool false :: p4 :: p5 :: undef :: .bool true :: .bool false :: (if S 0 = true then .agg (num a) else undef) :: (if S 1 = true then .agg (bts a) else undef) :: (if S 2 = true then .agg (num b) else undef) :: (if S 3 = true then .agg (bts b) else undef) :: undef :: undef :: undef :: undef :: undef :: undef :: undef :: undef :: undef :: undef :: undef :: undef :: undef :: undef :: undef :: undef :: undef :: undef :: undef :: undef :: undef :: undef :: undef :: undef :: undef :: undef :: undef :: undef :: undef :: undef :: undef :: undef :: undef :: undef :: undef :: []).toArray, []⟩ ∧ Hid ((S 4 = true → p4 = .pointer (some ⟨b4, 0, none⟩) ∧ w1.heap.size ≤ b4 ∧ b4 < w'.heap.size ∧ w'.row? b4 = some (if S 6 = true then bts a else (bts 0))) ∧ (S 4 = false → p4 = undef ∧ S 6 = false) ∧ (S 5 = true → p5 = .pointer (some ⟨b5, 0, none⟩) ∧ w1.heap.size ≤ b5 ∧ b5 < w'.heap.size ∧ w'.row? b5 = some (if S 7 = true then bts b else (bts 0))) ∧ (S 5 = false → p5 = undef ∧ S 7 = false) ∧ (S 4 = true → S 5 = true → b4 ≠ b5)) ∧ Below (w1.heap.size) w1 w') rfl (by kernel_rfl) ?h0 ?hs ?he
  case h0 =>
    refine ⟨_, 0, _, 0, rfl, ⟨by simp, by simp, by simp, by simp, by simp⟩, (Below.refl _ _).drew⟩
  case hs =>
    refine ⟨?_, ?_, ?_, ?_, ?_, ?_, ?_, ?_, trivial⟩
    · rintro S a' w' hi hp ⟨p4, b4, p5, b5, rfl, hr, hB⟩ K hK
      change S 0 = false at hi
      clear hp
      have r := fun b hb => row_below hB b hb
      clear hi
      go_simp
      obtain ⟨h4, k4, h5, k5, n4_5⟩ := hr.out
      exact hK _ _ ⟨p4, b4, p5, b5, by simp [upd], ⟨by simpa [upd] using h4, by simpa [upd] using k4, by simpa [upd] using h5, by simpa [upd] using k5, by simpa [upd] using n4_5⟩, hB⟩
    · rintro S a' w' hi hp ⟨p4, b4, p5, b5, rfl, hr, hB⟩ K hK
      change S 1 = false at hi
      have e0 := preds_conj hp (l := [0]) rfl
      change S 0 = true at e0
      clear hp
      clear hi
      go_simp
      obtain ⟨h4, k4, h5, k5, n4_5⟩ := hr.out
      refine (of_any _ _).mono ?_
      rintro e w1 ⟨rfl, hB1⟩
      refine hK _ _ ⟨p4, b4, p5, b5, by simp [upd, Act.put, e0], ⟨?_, by simpa [upd] using k4, ?_, by simpa [upd] using k5, by simpa [upd] using n4_5⟩, below_call hB (Nat.le_trans (by simp; try omega) hB.size) hB1⟩
      · intro h
        obtain ⟨q1, q2, q3, q4⟩ := h4 (by simpa [upd] using h)
        exact ⟨q1, q2, Nat.lt_of_lt_of_le q3 hB1.size, by rw [row_below hB1 _ q3, q4]; simp [upd]⟩
      · intro h
        obtain ⟨q1, q2, q3, q4⟩ := h5 (by simpa [upd] using h)
        exact ⟨q1, q2, Nat.lt_of_lt_of_le q3 hB1.size, by rw [row_below hB1 _ q3, q4]; simp [upd]⟩
    · rintro S a' w' hi hp ⟨p4, b4, p5, b5, rfl, hr, hB⟩ K hK
      change S 2 = false at hi
      clear hp
      have r := fun b hb => row_below hB b hb
      clear hi
      go_simp
      obtain ⟨h4, k4, h5, k5, n4_5⟩ := hr.out
      exact hK _ _ ⟨p4, b4, p5, b5, by simp [upd], ⟨by simpa [upd] using h4, by simpa [upd] using k4, by simpa [upd] using h5, by simpa [upd] using k5, by simpa [upd] using n4_5⟩, hB⟩
    · rintro S a' w' hi hp ⟨p4, b4, p5, b5, rfl, hr, hB⟩ K hK
      change S 3 = false at hi
      obtain ⟨e2, e1⟩ := preds_conj hp (l := [2, 1]) rfl
      change S 1 = true at e1
      clear hp
      clear hi
      go_simp
      obtain ⟨h4, k4, h5, k5, n4_5⟩ := hr.out
      refine (of_any _ _).mono ?_
      rintro e w1 ⟨rfl, hB1⟩
      refine hK _ _ ⟨p4, b4, p5, b5, by simp [upd, Act.put, e2, e1], ⟨?_, by simpa [upd] using k4, ?_, by simpa [upd] using k5, by simpa [upd] using n4_5⟩, below_call hB (Nat.le_trans (by simp; try omega) hB.size) hB1⟩
      · intro h
        obtain ⟨q1, q2, q3, q4⟩ := h4 (by simpa [upd] using h)
        exact ⟨q1, q2, Nat.lt_of_lt_of_le q3 hB1.size, by rw [row_below hB1 _ q3, q4]; simp [upd]⟩
      · intro h
        obtain ⟨q1, q2, q3, q4⟩ := h5 (by simpa [upd] using h)
        exact ⟨q1, q2, Nat.lt_of_lt_of_le q3 hB1.size, by rw [row_below hB1 _ q3, q4]; simp [upd]⟩
    · rintro S a' w' hi hp ⟨p4, b4, p5, b5, rfl, hr, hB⟩ K hK
      change S 4 = false at hi
      clear hp
      have hsz : w1.heap.size ≤ w'.heap.size := Nat.le_trans (by simp; try omega) hB.size
      obtain ⟨h4, k4, h5, k5, n4_5⟩ := hr.out
      obtain ⟨z1, z2⟩ := k4 hi
      clear hi
      go_simp
      refine hK _ _ ⟨(.pointer (some ⟨w'.heap.size, 0, none⟩)), w'.heap.size, p5, b5, by simp [upd], ⟨?_, by simp [upd], ?_, by simpa [upd] using k5, ?_⟩, hB.alloc hsz _⟩
      · intro _; exact ⟨rfl, hsz, by simp, by rw [row_alloc_at _ _ _ _ rfl]; simp [upd, z2]⟩
      · intro h
        obtain ⟨q1, q2, q3, q4⟩ := h5 (by simpa [upd] using h)
        exact ⟨q1, q2, by simp; omega, by rw [row_alloc_past _ _ _ q3, q4]; simp [upd]⟩
      · intro _ h
        obtain ⟨_, _, q3, _⟩ := h5 (by simpa [upd] using h)
        omega
    · rintro S a' w' hi hp ⟨p4, b4, p5, b5, rfl, hr, hB⟩ K hK
      change S 5 = false at hi
      clear hp
      have hsz : w1.heap.size ≤ w'.heap.size := Nat.le_trans (by simp; try omega) hB.size
      obtain ⟨h4, k4, h5, k5, n4_5⟩ := hr.out
      obtain ⟨z1, z2⟩ := k5 hi
      clear hi
      go_simp
      refine hK _ _ ⟨p4, b4, (.pointer (some ⟨w'.heap.size, 0, none⟩)), w'.heap.size, by simp [upd], ⟨?_, by simpa [upd] using k4, ?_, by simp [upd], ?_⟩, hB.alloc hsz _⟩
      · intro h
        obtain ⟨q1, q2, q3, q4⟩ := h4 (by simpa [upd] using h)
        exact ⟨q1, q2, by simp; omega, by rw [row_alloc_past _ _ _ q3, q4]; simp [upd]⟩
      · intro _; exact ⟨rfl, hsz, by simp, by rw [row_alloc_at _ _ _ _ rfl]; simp [upd, z2]⟩
      · intro h _
        obtain ⟨_, _, q3, _⟩ := h4 (by simpa [upd] using h)
        omega
    · rintro S a' w' hi hp ⟨p4, b4, p5, b5, rfl, hr, hB⟩ K hK
      change S 6 = false at hi
      obtain ⟨e4, e1, e3, e0, e5⟩ := preds_conj hp (l := [4, 1, 3, 0, 5]) rfl
      change S 5 = true at e5
      clear hp
      obtain ⟨y4, l4, m4, c4⟩ := by obtain ⟨h4, k4, h5, k5, n4_5⟩ := hr.out; exact h4 e4
      rw [if_neg (by rw [hi]; decide)] at c4
      subst y4
      clear hi
      go_simp
      obtain ⟨h4, k4, h5, k5, n4_5⟩ := hr.out
      refine hK _ _ ⟨(.pointer (some ⟨b4, 0, none⟩)), b4, p5, b5, by simp [upd, e1, e3, e0], ⟨?_, ?_, ?_, by simpa [upd] using k5, by simpa [upd] using n4_5⟩, below_setRow' hB (by omega) _⟩
      · intro _; exact ⟨rfl, l4, by simp [World.setRow]; omega, by rw [row_setRow]; simp [upd, c4]⟩
      · intro h; simp [upd, e4] at h
      · intro h
        obtain ⟨q1, q2, q3, q4⟩ := h5 (by simpa [upd] using h)
        exact ⟨q1, q2, by simp [World.setRow]; omega, by rw [row_setRow, if_neg ((n4_5 e4 (by simpa [upd] using h)).symm), q4]; simp [upd]⟩
    · rintro S a' w' hi hp ⟨p4, b4, p5, b5, rfl, hr, hB⟩ K hK
      change S 7 = false at hi
      obtain ⟨e5, e3, e6, e0, e1, e2, e4⟩ := preds_conj hp (l := [5, 3, 6, 0, 1, 2, 4]) rfl
      change S 4 = true at e4
      clear hp
      obtain ⟨y5, l5, m5, c5⟩ := by obtain ⟨h4, k4, h5, k5, n4_5⟩ := hr.out; exact h5 e5
      rw [if_neg (by rw [hi]; decide)] at c5
      subst y5
      clear hi
      go_simp
      obtain ⟨h4, k4, h5, k5, n4_5⟩ := hr.out
      refine hK _ _ ⟨p4, b4, (.pointer (some ⟨b5, 0, none⟩)), b5, by simp [upd, e3, e0, e1, e2], ⟨?_, by simpa [upd] using k4, ?_, ?_, by simpa [upd] using n4_5⟩, below_setRow' hB (by omega) _⟩
      · intro h
        obtain ⟨q1, q2, q3, q4⟩ := h4 (by simpa [upd] using h)
        exact ⟨q1, q2, by simp [World.setRow]; omega, by rw [row_setRow, if_neg (n4_5 (by simpa [upd] using h) e5), q4]; simp [upd]⟩
      · intro _; exact ⟨rfl, l5, by simp [World.setRow]; omega, by rw [row_setRow]; simp [upd, c5]⟩
      · intro h; simp [upd, e5] at h
  case he =>
    rintro a' wr ⟨p4, b4, p5, b5, rfl, hr, hB⟩
    obtain ⟨h4, k4, h5, k5, n4_5⟩ := hr.out
    obtain ⟨rfl, l4, m4, c4⟩ := h4 (by simp)
    simp only [List.length_cons, List.length_nil, Nat.reduceAdd, Nat.reduceLT, decide_true, if_true] at c4
    obtain ⟨rfl, l5, m5, c5⟩ := h5 (by simp)
    simp only [List.length_cons, List.length_nil, Nat.reduceAdd, Nat.reduceLT, decide_true, if_true] at c5
    have d4_5 := n4_5 (by simp) (by simp)
    clear hr h4 k4 h5 k5 n4_5
    simp only [Nat.reduceLT, List.length_cons, List.length_nil, Nat.reduceAdd, decide_true, if_true]
    have hz1 : w1.heap.size ≤ wr.heap.size := hB.size
    have r0 : wr.row? w.heap.size = some (num a) := (row_below hB _ s0).trans q0
    have r1 : wr.row? (w.heap.size + 1) = some (num b) := (row_below hB _ s1).trans q1
    have s2 : w.heap.size < wr.heap.size := by omega
    have s3 : w.heap.size + 1 < wr.heap.size := by omega
    clear q0 q1
    go_wp2_with fail
    refine (bless_T _ _ ha hb _).mono ?_
    rintro e w2 ⟨rfl, hB2⟩
    rw [hd1.out]
    obtain ⟨⟨q0, s4⟩, ⟨q1, s5⟩, ⟨q2, s6⟩, ⟨q3, s7⟩, -⟩ := RowsOf.keep hB2 (l := [(w.heap.size, num a), (w.heap.size + 1, num b), (b4, bts a), (b5, bts b)]) (by go_simp)
    clear r0 r1 c4 c5
    go_wp2_with fail
    refine (bless_T _ _ hb ha _).mono ?_
    rintro e w3 ⟨rfl, hB3⟩
    rw [hd2.out]
    obtain ⟨⟨r0, t4⟩, ⟨r1, t5⟩, -⟩ := RowsOf.keep hB3 (l := [(w.heap.size, num a), (w.heap.size + 1, num b)]) (by go_simp)
    clear q0 q1 q2 q3
    go_wp2_with fail
    have wr1 : IntKind.i64.wrap 1 = 1 := by decide
    have wr2 : IntKind.i64.wrap (-1) = -1 := by decide
    have wr0 : IntKind.i64.wrap 0 = 0 := by decide
    have hk1 := fun w => cmp_T a b ha hb w
    have hk2 := fun w => cmp_T b a hb ha w
    rw [hc1.out] at hk1
    rw [hc2.out] at hk2
    refine wp_region_steps (fun S a' w' => ∃ (_u : Unit), a' = ⟨(.agg (num a) :: .agg (num b) :: .pointer (some ⟨w.heap.size, 0, none⟩) :: .pointer (some ⟨w.heap.size + 1, 0, none⟩) :: (if S 29 = true then .bool true else .bool false) :: .pointer (some ⟨b4, 0, none⟩) :: .pointer (some ⟨b5, 0, none⟩) :: .int .i64 (0) :: .bool true :: .bool false :: .agg (num a) :: .agg (bts a) :: .agg (num b) :: .agg (bts b) :: .agg (bts a) :: .agg (bts b) :: .bool false :: .agg (bts b) :: .agg (bts a) :: .bool false :: (if S 0 = true then .agg (num a) else undef) :: (if S 1 = true then .agg (num b) else undef) :: (if S 2 = true then .int .i64 (0) else undef) :: (if S 3 = true then .int .i64 (0) else undef) :: (if S 4 = true then .bool true else undef) :: (if S 5 = true then .bool true else undef) :: (if S 6 = true then .agg (num b) else undef) :: (if S 7 = true then .agg (num a) else undef) :: (if S 8 = true then .int .i64 (0) else undef) :: (if S 9 = true then .int .i64 (0) else undef) :: (if S 10 = true then .int .i64 (0) else undef) :: (if S 11 = true then .bool true else undef) :: (if S 12 = true then .bool true else undef) :: (if S 13 = true then .bool true else undef) :: (if S 14 = true then .int .i64 (0) else undef) :: (if S 15 = true then .bool true else undef) :: (if S 16 = true then .agg (num a) else undef) :: (if S 17 = true then .agg (num b) else undef) :: (if S 18 = true then .bool true else undef) :: (if S 19 = true then .bool true else undef) :: (if S 20 = true then .bool true else undef) :: (if S 21 = true then .bool true else undef) :: (if S 22 = true then .agg (num a) else undef) :: (if S 23 = true then .bool (isZ a) else undef) :: (if S 24 = true then .agg (num a) else undef) :: (if S 25 = true then .agg (num 0) else undef) :: (if S 26 = true then .bool (isZ a) else undef) :: (if S 27 = true then .bool true else undef) :: (if S 28 = true then .bool true else undef) :: []).toArray, []⟩ ∧ Hid (True) ∧ Below (w3.heap.size) w3 w') rfl (by kernel_rfl) ?h0 ?hs ?he
    case h0 =>
      refine ⟨(), rfl, trivial, (Below.refl _ _).drew⟩
    case hs =>
      refine ⟨?_, ?_, ?_, ?_, ?_, ?_, ?_, ?_, ?_, ?_, ?_, ?_, ?_, ?_, ?_, ?_, ?_, ?_, ?_, ?_, ?_, ?_, ?_, ?_, ?_, ?_, ?_, ?_, ?_, ?_, trivial⟩
      · rintro S a' w' hi hp ⟨_u, rfl, hr, hB⟩ K hK
        change S 0 = false at hi
        clear hp
        have r := fun b hb => row_below hB b hb
        clear hi
        go_simp
        exact hK _ _ ⟨(), by simp [upd], trivial, hB⟩
      · rintro S a' w' hi hp ⟨_u, rfl, hr, hB⟩ K hK
        change S 1 = false at hi
        clear hp
        have r := fun b hb => row_below hB b hb
        clear hi
        go_simp
        exact hK _ _ ⟨(), by simp [upd], trivial, hB⟩
      · rintro S a' w' hi hp ⟨_u, rfl, hr, hB⟩ K hK
        change S 2 = false at hi
        obtain ⟨e0, e1⟩ := preds_conj hp (l := [0, 1]) rfl
        change S 1 = true at e1
        clear hp
        clear hi
        go_simp
        refine (hk1 _).mono ?_
        rintro e w1 ⟨rfl, hB1⟩
        refine hK _ _ ⟨_u, by simp [upd, Act.put, e0, e1], trivial, below_call hB (Nat.le_trans (by simp; try omega) hB.size) hB1⟩
      · rintro S a' w' hi hp ⟨_u, rfl, hr, hB⟩ K hK
        change S 3 = false at hi
        clear hp
        have r := fun b hb => row_below hB b hb
        clear hi
        go_simp
        exact hK _ _ ⟨(), by simp [upd], trivial, hB⟩
      · rintro S a' w' hi hp ⟨_u, rfl, hr, hB⟩ K hK
        change S 4 = false at hi
        obtain ⟨e2, e3⟩ := preds_conj hp (l := [2, 3]) rfl
        change S 3 = true at e3
        clear hp
        have r := fun b hb => row_below hB b hb
        clear hi
        go_simp
        exact hK _ _ ⟨(), by simp [upd, e2, e3], trivial, hB⟩
      · rintro S a' w' hi hp ⟨_u, rfl, hr, hB⟩ K hK
        change S 5 = false at hi
        obtain ⟨e4, e2⟩ := preds_conj hp (l := [4, 2]) rfl
        change S 2 = true at e2
        clear hp
        have r := fun b hb => row_below hB b hb
        clear hi
        go_simp
        exact hK _ _ ⟨(), by simp [upd, e4, e2], trivial, hB⟩
      · rintro S a' w' hi hp ⟨_u, rfl, hr, hB⟩ K hK
        change S 6 = false at hi
        have e5 := preds_conj hp (l := [5]) rfl
        change S 5 = true at e5
        clear hp
        have r := fun b hb => row_below hB b hb
        clear hi
        go_simp
        exact hK _ _ ⟨(), by simp [upd, e5], trivial, hB⟩
      · rintro S a' w' hi hp ⟨_u, rfl, hr, hB⟩ K hK
        change S 7 = false at hi
        have e5 := preds_conj hp (l := [5]) rfl
        change S 5 = true at e5
        clear hp
        have r := fun b hb => row_below hB b hb
        clear hi
        go_simp
        exact hK _ _ ⟨(), by simp [upd, e5], trivial, hB⟩
      · rintro S a' w' hi hp ⟨_u, rfl, hr, hB⟩ K hK
        change S 8 = false at hi
        obtain ⟨e6, e7, e5⟩ := preds_conj hp (l := [6, 7, 5]) rfl
        change S 5 = true at e5
        clear hp
        clear hi
        go_simp
        refine (hk2 _).mono ?_
        rintro e w1 ⟨rfl, hB1⟩
        refine hK _ _ ⟨_u, by simp [upd, Act.put, e6, e7, e5], trivial, below_call hB (Nat.le_trans (by simp; try omega) hB.size) hB1⟩
      · rintro S a' w' hi hp ⟨_u, rfl, hr, hB⟩ K hK
        change S 9 = false at hi
        have e5 := preds_conj hp (l := [5]) rfl
        change S 5 = true at e5
        clear hp
        have r := fun b hb => row_below hB b hb
        clear hi
        go_simp
        exact hK _ _ ⟨(), by simp [upd, e5], trivial, hB⟩
      · rintro S a' w' hi hp ⟨_u, rfl, hr, hB⟩ K hK
        change S 10 = false at hi
        obtain ⟨e9, e5⟩ := preds_conj hp (l := [9, 5]) rfl
        change S 5 = true at e5
        clear hp
        have r := fun b hb => row_below hB b hb
        clear hi
        go_simp
        exact hK _ _ ⟨(), by simp [upd, e9, e5], trivial, hB⟩
      · rintro S a' w' hi hp ⟨_u, rfl, hr, hB⟩ K hK
        change S 11 = false at hi
        obtain ⟨e8, e10, e5⟩ := preds_conj hp (l := [8, 10, 5]) rfl
        change S 5 = true at e5
        clear hp
        have r := fun b hb => row_below hB b hb
        clear hi
        go_simp
        exact hK _ _ ⟨(), by simp [upd, e8, e10, e5], trivial, hB⟩
      · rintro S a' w' hi hp ⟨_u, rfl, hr, hB⟩ K hK
        change S 12 = false at hi
        obtain ⟨e5, e11⟩ := preds_conj hp (l := [5, 11]) rfl
        change S 11 = true at e11
        clear hp
        have r := fun b hb => row_below hB b hb
        clear hi
        go_simp
        exact hK _ _ ⟨(), by simp [upd, e5, e11], trivial, hB⟩
      · rintro S a' w' hi hp ⟨_u, rfl, hr, hB⟩ K hK
        change S 13 = false at hi
        obtain ⟨e12, e8⟩ := preds_conj hp (l := [12, 8]) rfl
        change S 8 = true at e8
        clear hp
        have r := fun b hb => row_below hB b hb
        clear hi
        go_simp
        exact hK _ _ ⟨(), by simp [upd, e12, e8], trivial, hB⟩
      · rintro S a' w' hi hp ⟨_u, rfl, hr, hB⟩ K hK
        change S 14 = false at hi
        have e13 := preds_conj hp (l := [13]) rfl
        change S 13 = true at e13
        clear hp
        have r := fun b hb => row_below hB b hb
        clear hi
        go_simp
        exact hK _ _ ⟨(), by simp [upd, e13], trivial, hB⟩
      · rintro S a' w' hi hp ⟨_u, rfl, hr, hB⟩ K hK
        change S 15 = false at hi
        obtain ⟨e14, e13⟩ := preds_conj hp (l := [14, 13]) rfl
        change S 13 = true at e13
        clear hp
        have r := fun b hb => row_below hB b hb
        clear hi
        go_simp
        exact hK _ _ ⟨(), by simp [upd, e14, e13], trivial, hB⟩
      · rintro S a' w' hi hp ⟨_u, rfl, hr, hB⟩ K hK
        change S 16 = false at hi
        have e13 := preds_conj hp (l := [13]) rfl
        change S 13 = true at e13
        clear hp
        have r := fun b hb => row_below hB b hb
        clear hi
        go_simp
        exact hK _ _ ⟨(), by simp [upd, e13], trivial, hB⟩
      · rintro S a' w' hi hp ⟨_u, rfl, hr, hB⟩ K hK
        change S 17 = false at hi
        have e13 := preds_conj hp (l := [13]) rfl
        change S 13 = true at e13
        clear hp
        have r := fun b hb => row_below hB b hb
        clear hi
        go_simp
        exact hK _ _ ⟨(), by simp [upd, e13], trivial, hB⟩
      · rintro S a' w' hi hp ⟨_u, rfl, hr, hB⟩ K hK
        change S 18 = false at hi
        obtain ⟨e16, e17, e13⟩ := preds_conj hp (l := [16, 17, 13]) rfl
        change S 13 = true at e13
        clear hp
        have r := fun b hb => row_below hB b hb
        clear hi
        go_simp
        exact hK _ _ ⟨(), by simp [upd, e16, e17, e13], trivial, hB⟩
      · rintro S a' w' hi hp ⟨_u, rfl, hr, hB⟩ K hK
        change S 19 = false at hi
        obtain ⟨e15, e18, e13⟩ := preds_conj hp (l := [15, 18, 13]) rfl
        change S 13 = true at e13
        clear hp
        have r := fun b hb => row_below hB b hb
        clear hi
        go_simp
        exact hK _ _ ⟨(), by simp [upd, e15, e18, e13], trivial, hB⟩
      · rintro S a' w' hi hp ⟨_u, rfl, hr, hB⟩ K hK
        change S 20 = false at hi
        obtain ⟨e13, e19⟩ := preds_conj hp (l := [13, 19]) rfl
        change S 19 = true at e19
        clear hp
        have r := fun b hb => row_below hB b hb
        clear hi
        go_simp
        exact hK _ _ ⟨(), by simp [upd, e13, e19], trivial, hB⟩
      · rintro S a' w' hi hp ⟨_u, rfl, hr, hB⟩ K hK
        change S 21 = false at hi
        obtain ⟨e20, e13⟩ := preds_conj hp (l := [20, 13]) rfl
        change S 13 = true at e13
        clear hp
        have r := fun b hb => row_below hB b hb
        clear hi
        go_simp
        exact hK _ _ ⟨(), by simp [upd, e20, e13], trivial, hB⟩
      · rintro S a' w' hi hp ⟨_u, rfl, hr, hB⟩ K hK
        change S 22 = false at hi
        have e21 := preds_conj hp (l := [21]) rfl
        change S 21 = true at e21
        clear hp
        have r := fun b hb => row_below hB b hb
        clear hi
        go_simp
        exact hK _ _ ⟨(), by simp [upd, e21], trivial, hB⟩
      · rintro S a' w' hi hp ⟨_u, rfl, hr, hB⟩ K hK
        change S 23 = false at hi
        obtain ⟨e22, e21⟩ := preds_conj hp (l := [22, 21]) rfl
        change S 21 = true at e21
        clear hp
        clear hi
        go_simp
        refine (zero_T _ ha _).mono ?_
        rintro e w1 ⟨rfl, hB1⟩
        refine hK _ _ ⟨_u, by simp [upd, Act.put, e22, e21], trivial, below_call hB (Nat.le_trans (by simp; try omega) hB.size) hB1⟩
      · rintro S a' w' hi hp ⟨_u, rfl, hr, hB⟩ K hK
        change S 24 = false at hi
        have e21 := preds_conj hp (l := [21]) rfl
        change S 21 = true at e21
        clear hp
        have r := fun b hb => row_below hB b hb
        clear hi
        go_simp
        exact hK _ _ ⟨(), by simp [upd, e21], trivial, hB⟩
      · rintro S a' w' hi hp ⟨_u, rfl, hr, hB⟩ K hK
        change S 25 = false at hi
        have e21 := preds_conj hp (l := [21]) rfl
        change S 21 = true at e21
        clear hp
        have r := fun b hb => row_below hB b hb
        clear hi
        go_simp
        exact hK _ _ ⟨(), by simp [upd, e21], trivial, hB⟩
      · rintro S a' w' hi hp ⟨_u, rfl, hr, hB⟩ K hK
        change S 26 = false at hi
        obtain ⟨e24, e25, e21⟩ := preds_conj hp (l := [24, 25, 21]) rfl
        change S 21 = true at e21
        clear hp
        have r := fun b hb => row_below hB b hb
        clear hi
        go_simp
        exact hK _ _ ⟨(), by simp [upd, e24, e25, e21], trivial, hB⟩
      · rintro S a' w' hi hp ⟨_u, rfl, hr, hB⟩ K hK
        change S 27 = false at hi
        obtain ⟨e23, e26, e21⟩ := preds_conj hp (l := [23, 26, 21]) rfl
        change S 21 = true at e21
        clear hp
        have r := fun b hb => row_below hB b hb
        clear hi
        go_simp
        exact hK _ _ ⟨(), by simp [upd, e23, e26, e21], trivial, hB⟩
      · rintro S a' w' hi hp ⟨_u, rfl, hr, hB⟩ K hK
        change S 28 = false at hi
        obtain ⟨e21, e27⟩ := preds_conj hp (l := [21, 27]) rfl
        change S 27 = true at e27
        clear hp
        have r := fun b hb => row_below hB b hb
        clear hi
        go_simp
        exact hK _ _ ⟨(), by simp [upd, e21, e27], trivial, hB⟩
      · rintro S a' w' hi hp ⟨_u, rfl, hr, hB⟩ K hK
        change S 29 = false at hi
        obtain ⟨e28, e23, e0, e1, e2, e3, e4, e5, e6, e7, e8, e9, e10, e11, e12, e13, e14, e15, e16, e17, e18, e19, e20, e21, e22, e24, e25, e26, e27⟩ := preds_conj hp (l := [28, 23, 0, 1, 2, 3, 4, 5, 6, 7, 8, 9, 10, 11, 12, 13, 14, 15, 16, 17, 18, 19, 20, 21, 22, 24, 25, 26, 27]) rfl
        change S 27 = true at e27
        clear hp
        have r := fun b hb => row_below hB b hb
        clear hi
        go_simp
        exact hK _ _ ⟨(), by simp [upd, e28, e23, e0, e1, e2, e3, e4, e5, e6, e7, e8, e9, e10, e11, e12, e13, e14, e15, e16, e17, e18, e19, e20, e21, e22, e24, e25, e26, e27], trivial, hB⟩
    case he =>
      rintro a' wq ⟨_u, rfl, hr, hB⟩
      simp only [Nat.reduceLT, List.length_cons, List.length_nil, Nat.reduceAdd, decide_true, if_true]
      go_wp2
      go_ret
      refine ⟨rfl, ?_⟩
      have h0 := ((Below.refl w.heap.size w).alloc (Nat.le_refl _) (.cells (num a) 24)).alloc (by simp) (.cells (num b) 24)
      have h1 := below_call h0 h0.size hB1
      have h1' := below_call h1 h1.size ‹Below w1.heap.size w1 wr›
      have h2 := below_call h1' h1'.size hB2
      have h3 := below_call h2 h2.size hB3
      exact below_call h3 h3.size hB
theorem order_any (a b : Nat) (ha : T a) (hb : T b) (w : World) :
    Calls Try.prog 4 #[.agg (num a), .agg (num b)] w fun e w' => e = .returned (.bool true) ∧ Below w.heap.size w w' := by
  rcases Nat.lt_trichotomy a b with h | h | h
  · exact order_lt a b ha hb h w
  · exact order_eq a b ha hb h w
  · exact order_gt a b ha hb h w
end Go.Proofs.L
