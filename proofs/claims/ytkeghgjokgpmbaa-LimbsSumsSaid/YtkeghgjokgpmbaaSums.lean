/- Proved here: lemmas and contracts (Sums) for the laws of this seat, for all values of the stated types; no further condition. -/
import Derived.Test.YtkeghgjokgpmbaaBack
open Go Go.RowKit
namespace Go.Proofs.L
attribute [local go_sem ↓] z23 z24 z27 ld23 st23 ld24 st24 ld27 st27 bd27 bd24 bd24z
attribute [local go_sem] num_size num_all num_getE bts_size bts_all
theorem bdig_mod (n : Nat) : Bt.dig (n % 2^256) = Bt.dig n := by
  unfold Bt.dig
  apply List.map_congr_left
  intro i hi
  have hi := List.mem_range.1 hi
  unfold Bt.D
  have e : (2:Nat) ^ 256 = 2 ^ (1 * i) * 2 ^ (256 - 1 * i) := by rw [← Nat.pow_add]; congr 1; omega
  rw [e, Nat.mod_mul_right_div_self, Nat.mod_mod_of_dvd]
  have : (2:Nat) ^ 1 ∣ 2 ^ (256 - 1 * i) := Nat.pow_dvd_pow 2 (by omega)
  simpa using this
theorem bts_mod (n : Nat) : bts (n % 2^256) = bts n := congrArg (cellsK .i64) (bdig_mod n)
/-- what is carried out of a sum -/
def cr (a b : Nat) : Nat := (a % 2^256 + b % 2^256) / 2^256
theorem cr_le (a b : Nat) : cr a b ≤ 1 := C_le a b 8
theorem bor_le (a b : Nat) : Bw a b 8 ≤ 1 := Bw_le a b 8
theorem badd_T (a b : Nat) (w : World) :
    Calls Try.prog 10 #[.agg (bts a), .agg (bts b)] w fun e w' => e = .returned (.tuple #[.agg (bts (sm a b)), .int .i64 (cr a b)]) ∧ Below w.heap.size w w' := by
  rw [sm, bts_mod]; exact badd_any a b w
theorem addc_T (a b : Nat) (w : World) :
    Calls Try.prog 9 #[.agg (num a), .agg (num b)] w fun e w' => e = .returned (.tuple #[.agg (num (sm a b)), .int .u32 (cr a b)]) ∧ Below w.heap.size w w' := add_T a b w
theorem bnum_T (a : Nat) (ha : T a) (w : World) :
    Calls Try.prog 13 #[.agg (bts a)] w fun e w' => e = .returned (.agg (num a)) ∧ Below w.heap.size w w' := bnum_any a ha w
theorem bsub_T (a b : Nat) (ha : T a) (hb : T b) (w : World) :
    Calls Try.prog 12 #[.agg (bts a), .agg (bts b)] w fun e w' => e = .returned (.tuple #[.agg (bts (df a b)), .int .i64 (Bw a b 8)]) ∧ Below w.heap.size w w' := by
  have h := bsub_any a b ha hb w
  have e1 : bts (df a b) = bts (a + (2^256 - 1 - b) + 1) := by
    rw [df, bts_mod]; congr 1; unfold T at *; omega
  have e2 : (Bw a b 8 : Int) = 1 - Bt.C a (2^256 - 1 - b) 256 - Bt.C (a + (2^256 - 1 - b)) 1 256 := by
    rw [Bw_top a b ha hb]
    show _ = 1 - (((a % 2^256 + (2^256 - 1 - b) % 2^256) / 2^256 : Nat) : Int) - ((((a + (2^256 - 1 - b)) % 2^256 + 1 % 2^256) / 2^256 : Nat) : Int)
    unfold T at *
    split <;> omega
  rw [e1, e2]; exact h
set_option maxHeartbeats 1600000 in
theorem sums_any (a b : Nat) (ha : T a) (hb : T b) (w : World) :
    Calls Try.prog 3 #[.agg (num a), .agg (num b)] w fun e w' => e = .returned (.bool true) ∧ Below w.heap.size w w' := by
  have he := fun w x => eqTs w x
  have cb := cr_le a b
  have bb := bor_le a b
  go_enter Try.func3, Try.ntmps3
  go_wp2_with fail
  refine (fit_any _).mono ?_
  rintro e w1 ⟨rfl, hB1⟩
  obtain ⟨⟨q0, s0⟩, ⟨q1, s1⟩, -⟩ := RowsOf.keep hB1 (l := [(w.heap.size, num a), (w.heap.size + 1, num b)]) (by go_simp)
  go_wp2_with fail
  refine wp_region_steps (fun S a' w' => ∃ (p4 : Value) (b4 : Nat) (p5 : Value) (b5 : Nat), a' = ⟨(.agg (num a) :: .agg (num b) :: .pointer (some ⟨w.heap.size, 0, none⟩) :: .pointer (some ⟨w.heap.size + 1, 0, none⟩) :: .bool false :: p4 :: p5 :: undef :: undef :: undef :: undef :: undef :: undef :: undef :: undef :: .bool true :: .bool false :: (if S 0 = true then .agg (num a) else undef) :: (if S 1 = true then .agg (bts a) else undef) :: (if S 2 = true then .agg (num b) else undef) :: (if S 3 = true then .agg (bts b) else undef) :: undef :: undef :: undef :: undef :: undef :: undef :: undef :: undef :: undef :: undef :: undef :: undef :: undef :: undef :: undef :: undef :: undef :: undef :: undef :: undef :: undef :: undef :: undef :: undef :: undef :: undef :: undef :: undef :: undef :: undef :: undef :: undef :: undef :: undef :: undef :: undef :: undef :: undef :: undef :: undef :: undef :: undef :: undef :: undef :: undef :: undef :: []).toArray, []⟩ ∧ Hid ((S 4 = true → p4 = .pointer (some ⟨b4, 0, none⟩) ∧ w1.heap.size ≤ b4 ∧ b4 < w'.heap.size ∧ w'.row? b4 = some (if S 6 = true then bts a else (bts 0))) ∧ (S 4 = false → p4 = undef ∧ S 6 = false) ∧ (S 5 = true → p5 = .pointer (some ⟨b5, 0, none⟩) ∧ w1.heap.size ≤ b5 ∧ b5 < w'.heap.size ∧ w'.row? b5 = some (if S 7 = true then bts b else (bts 0))) ∧ (S 5 = false → p5 = undef ∧ S 7 = false) ∧ (S 4 = true → S 5 = true → b4 ≠ b5)) ∧ Below (w1.heap.size) w1 w') rfl (by kernel_rfl) ?h0 ?hs ?he
  case h0 =>
    refine ⟨_, 0, _, 0, rfl, ⟨by simp, by simp, by simp, by simp, by simp⟩, (Below.refl _ _).drew⟩
  case hs =>
    refine ⟨?_, ?_, ?_, ?_, ?_, ?_, ?_, ?_, trivial⟩
    · rintro S a' w' hi hp ⟨p4, b4, p5, b5, rfl, hr, hB⟩ K hK
      change S 0 = false at hi
      clear hp
      have r := fun b hb => row_below hB b hb
      clear hi
      go_simp
      obtain ⟨h4, k4, h5, k5, n4_5⟩ := hr.out
      exact hK _ _ ⟨p4, b4, p5, b5, by simp [upd], ⟨by simpa [upd] using h4, by simpa [upd] using k4, by simpa [upd] using h5, by simpa [upd] using k5, by simpa [upd] using n4_5⟩, hB⟩
    · rintro S a' w' hi hp ⟨p4, b4, p5, b5, rfl, hr, hB⟩ K hK
      change S 1 = false at hi
      have e0 := preds_conj hp (l := [0]) rfl
      change S 0 = true at e0
      clear hp
      clear hi
      go_simp
      obtain ⟨h4, k4, h5, k5, n4_5⟩ := hr.out
      refine (of_any _ _).mono ?_
      rintro e w1 ⟨rfl, hB1⟩
      refine hK _ _ ⟨p4, b4, p5, b5, by simp [upd, Act.put, e0], ⟨?_, by simpa [upd] using k4, ?_, by simpa [upd] using k5, by simpa [upd] using n4_5⟩, below_call hB (Nat.le_trans (by simp; try omega) hB.size) hB1⟩
      · intro h
        obtain ⟨q1, q2, q3, q4⟩ := h4 (by simpa [upd] using h)
        exact ⟨q1, q2, Nat.lt_of_lt_of_le q3 hB1.size, by rw [row_below hB1 _ q3, q4]; simp [upd]⟩
      · intro h
        obtain ⟨q1, q2, q3, q4⟩ := h5 (by simpa [upd] using h)
        exact ⟨q1, q2, Nat.lt_of_lt_of_le q3 hB1.size, by rw [row_below hB1 _ q3, q4]; simp [upd]⟩
    · rintro S a' w' hi hp ⟨p4, b4, p5, b5, rfl, hr, hB⟩ K hK
      change S 2 = false at hi
      clear hp
      have r := fun b hb => row_below hB b hb
      clear hi
      go_simp
      obtain ⟨h4, k4, h5, k5, n4_5⟩ := hr.out
      exact hK _ _ ⟨p4, b4, p5, b5, by simp [upd], ⟨by simpa [upd] using h4, by simpa [upd] using k4, by simpa [upd] using h5, by simpa [upd] using k5, by simpa [upd] using n4_5⟩, hB⟩
    · rintro S a' w' hi hp ⟨p4, b4, p5, b5, rfl, hr, hB⟩ K hK
      change S 3 = false at hi
      obtain ⟨e2, e1⟩ := preds_conj hp (l := [2, 1]) rfl
      change S 1 = true at e1
      clear hp
      clear hi
      go_simp
      obtain ⟨h4, k4, h5, k5, n4_5⟩ := hr.out
      refine (of_any _ _).mono ?_
      rintro e w1 ⟨rfl, hB1⟩
      refine hK _ _ ⟨p4, b4, p5, b5, by simp [upd, Act.put, e2, e1], ⟨?_, by simpa [upd] using k4, ?_, by simpa [upd] using k5, by simpa [upd] using n4_5⟩, below_call hB (Nat.le_trans (by simp; try omega) hB.size) hB1⟩
      · intro h
        obtain ⟨q1, q2, q3, q4⟩ := h4 (by simpa [upd] using h)
        exact ⟨q1, q2, Nat.lt_of_lt_of_le q3 hB1.size, by rw [row_below hB1 _ q3, q4]; simp [upd]⟩
      · intro h
        obtain ⟨q1, q2, q3, q4⟩ := h5 (by simpa [upd] using h)
        exact ⟨q1, q2, Nat.lt_of_lt_of_le q3 hB1.size, by rw [row_below hB1 _ q3, q4]; simp [upd]⟩
    · rintro S a' w' hi hp ⟨p4, b4, p5, b5, rfl, hr, hB⟩ K hK
      change S 4 = false at hi
      clear hp
      have hsz : w1.heap.size ≤ w'.heap.size := Nat.le_trans (by simp; try omega) hB.size
      obtain ⟨h4, k4, h5, k5, n4_5⟩ := hr.out
      obtain ⟨z1, z2⟩ := k4 hi
      clear hi
      go_simp
      refine hK _ _ ⟨(.pointer (some ⟨w'.heap.size, 0, none⟩)), w'.heap.size, p5, b5, by simp [upd], ⟨?_, by simp [upd], ?_, by simpa [upd] using k5, ?_⟩, hB.alloc hsz _⟩
      · intro _; exact ⟨rfl, hsz, by simp, by rw [row_alloc_at _ _ _ _ rfl]; simp [upd, z2]⟩
      · intro h
        obtain ⟨q1, q2, q3, q4⟩ := h5 (by simpa [upd] using h)
        exact ⟨q1, q2, by simp; omega, by rw [row_alloc_past _ _ _ q3, q4]; simp [upd]⟩
      · intro _ h
        obtain ⟨_, _, q3, _⟩ := h5 (by simpa [upd] using h)
        omega
    · rintro S a' w' hi hp ⟨p4, b4, p5, b5, rfl, hr, hB⟩ K hK
      change S 5 = false at hi
      clear hp
      have hsz : w1.heap.size ≤ w'.heap.size := Nat.le_trans (by simp; try omega) hB.size
      obtain ⟨h4, k4, h5, k5, n4_5⟩ := hr.out
      obtain ⟨z1, z2⟩ := k5 hi
      clear hi
      go_simp
      refine hK _ _ ⟨p4, b4, (.pointer (some ⟨w'.heap.size, 0, none⟩)), w'.heap.size, by simp [upd], ⟨?_, by simpa [upd] using k4, ?_, by simp [upd], ?_⟩, hB.alloc hsz _⟩
      · intro h
        obtain ⟨q1, q2, q3, q4⟩ := h4 (by simpa [upd] using h)
        exact ⟨q1, q2, by simp; omega, by rw [row_alloc_past _ _ _ q3, q4]; simp [upd]⟩
      · intro _; exact ⟨rfl, hsz, by simp, by rw [row_alloc_at _ _ _ _ rfl]; simp [upd, z2]⟩
      · intro h _
        obtain ⟨_, _, q3, _⟩ := h4 (by simpa [upd] using h)
        omega
    · rintro S a' w' hi hp ⟨p4, b4, p5, b5, rfl, hr, hB⟩ K hK
      change S 6 = false at hi
      obtain ⟨e4, e1, e3, e0, e5⟩ := preds_conj hp (l := [4, 1, 3, 0, 5]) rfl
      change S 5 = true at e5
      clear hp
      obtain ⟨y4, l4, m4, c4⟩ := by obtain ⟨h4, k4, h5, k5, n4_5⟩ := hr.out; exact h4 e4
      rw [if_neg (by rw [hi]; decide)] at c4
      subst y4
      clear hi
      go_simp
      obtain ⟨h4, k4, h5, k5, n4_5⟩ := hr.out
      refine hK _ _ ⟨(.pointer (some ⟨b4, 0, none⟩)), b4, p5, b5, by simp [upd, e1, e3, e0], ⟨?_, ?_, ?_, by simpa [upd] using k5, by simpa [upd] using n4_5⟩, below_setRow' hB (by omega) _⟩
      · intro _; exact ⟨rfl, l4, by simp [World.setRow]; omega, by rw [row_setRow]; simp [upd, c4]⟩
      · intro h; simp [upd, e4] at h
      · intro h
        obtain ⟨q1, q2, q3, q4⟩ := h5 (by simpa [upd] using h)
        exact ⟨q1, q2, by simp [World.setRow]; omega, by rw [row_setRow, if_neg ((n4_5 e4 (by simpa [upd] using h)).symm), q4]; simp [upd]⟩
    · rintro S a' w' hi hp ⟨p4, b4, p5, b5, rfl, hr, hB⟩ K hK
      change S 7 = false at hi
      obtain ⟨e5, e3, e6, e0, e1, e2, e4⟩ := preds_conj hp (l := [5, 3, 6, 0, 1, 2, 4]) rfl
      change S 4 = true at e4
      clear hp
      obtain ⟨y5, l5, m5, c5⟩ := by obtain ⟨h4, k4, h5, k5, n4_5⟩ := hr.out; exact h5 e5
      rw [if_neg (by rw [hi]; decide)] at c5
      subst y5
      clear hi
      go_simp
      obtain ⟨h4, k4, h5, k5, n4_5⟩ := hr.out
      refine hK _ _ ⟨p4, b4, (.pointer (some ⟨b5, 0, none⟩)), b5, by simp [upd, e3, e0, e1, e2], ⟨?_, by simpa [upd] using k4, ?_, ?_, by simpa [upd] using n4_5⟩, below_setRow' hB (by omega) _⟩
      · intro h
        obtain ⟨q1, q2, q3, q4⟩ := h4 (by simpa [upd] using h)
        exact ⟨q1, q2, by simp [World.setRow]; omega, by rw [row_setRow, if_neg (n4_5 (by simpa [upd] using h) e5), q4]; simp [upd]⟩
      · intro _; exact ⟨rfl, l5, by simp [World.setRow]; omega, by rw [row_setRow]; simp [upd, c5]⟩
      · intro h; simp [upd, e5] at h
  case he =>
    rintro a' wr ⟨p4, b4, p5, b5, rfl, hr, hB⟩
    obtain ⟨h4, k4, h5, k5, n4_5⟩ := hr.out
    obtain ⟨rfl, l4, m4, c4⟩ := h4 (by simp)
    simp only [List.length_cons, List.length_nil, Nat.reduceAdd, Nat.reduceLT, decide_true, if_true] at c4
    obtain ⟨rfl, l5, m5, c5⟩ := h5 (by simp)
    simp only [List.length_cons, List.length_nil, Nat.reduceAdd, Nat.reduceLT, decide_true, if_true] at c5
    have d4_5 := n4_5 (by simp) (by simp)
    clear hr h4 k4 h5 k5 n4_5
    simp only [Nat.reduceLT, List.length_cons, List.length_nil, Nat.reduceAdd, decide_true, if_true]
    have hz : w1.heap.size ≤ wr.heap.size := hB.size
    have r0 : wr.row? w.heap.size = some (num a) := (row_below hB _ s0).trans q0
    have r1 : wr.row? (w.heap.size + 1) = some (num b) := (row_below hB _ s1).trans q1
    have s2 : w.heap.size < wr.heap.size := by omega
    have s3 : w.heap.size + 1 < wr.heap.size := by omega
    clear q0 q1
    go_wp2_with fail
    refine (addc_T _ _ _).mono ?_
    rintro e w2 ⟨rfl, hB2⟩
    obtain ⟨⟨q0, s4⟩, ⟨q1, s5⟩, ⟨q2, s6⟩, ⟨q3, s7⟩, -⟩ := RowsOf.keep hB2 (l := [(w.heap.size, num a), (w.heap.size + 1, num b), (b4, bts a), (b5, bts b)]) (by go_simp)
    clear r0 r1 c4 c5
    go_wp2_with fail
    refine (badd_T _ _ _).mono ?_
    rintro e w3 ⟨rfl, hB3⟩
    obtain ⟨⟨r0, s0⟩, ⟨r1, s1⟩, ⟨r2, s2⟩, ⟨r3, s3⟩, ⟨r4, t4⟩, -⟩ := RowsOf.keep hB3 (l := [(w.heap.size, num a), (w.heap.size + 1, num b), (b4, bts a), (b5, bts b), (w2.heap.size, num (sm a b))]) (by go_simp)
    clear q0 q1 q2 q3
    go_wp2_with fail
    refine (sub_T _ _ ha hb _).mono ?_
    rintro e w4 ⟨rfl, hB4⟩
    obtain ⟨⟨q2, s6⟩, ⟨q3, s7⟩, ⟨q4, t5⟩, ⟨q5, t6⟩, -⟩ := RowsOf.keep hB4 (l := [(b4, bts a), (b5, bts b), (w2.heap.size, num (sm a b)), (w3.heap.size, bts (sm a b))]) (by go_simp)
    clear r0 r1 r2 r3 r4
    go_wp2_with fail
    refine (bsub_T _ _ ha hb _).mono ?_
    rintro e w5 ⟨rfl, hB5⟩
    obtain ⟨⟨r4, t7⟩, ⟨r5, t8⟩, ⟨r6, t9⟩, -⟩ := RowsOf.keep hB5 (l := [(w2.heap.size, num (sm a b)), (w3.heap.size, bts (sm a b)), (w4.heap.size, num (df a b))]) (by go_simp)
    clear q2 q3 q4 q5
    go_wp2_with fail
    have e64a : IntKind.i64.wrap (cr a b : Int) = cr a b := IntWalk.i64_in _ (by omega)
    have e64b : IntKind.i64.wrap (Bw a b 8 : Int) = Bw a b 8 := IntWalk.i64_in _ (by omega)
    have u1 : w2.heap.size < w5.heap.size + 1 := by omega
    have u2 : w3.heap.size < w5.heap.size + 1 := by omega
    have u3 : w4.heap.size < w5.heap.size + 1 := by omega
    have u4 : w5.heap.size < w5.heap.size + 1 := by omega
    have HB := Lib.hid (And.intro hB1 (And.intro hB (And.intro hB2 (And.intro hB3 (And.intro hB4 hB5)))))
    clear hB1 hB hB2 hB3 hB4 hB5
    refine wp_region_steps (fun S a' w' => ∃ (_u : Unit), a' = ⟨(.agg (num a) :: .agg (num b) :: .pointer (some ⟨w.heap.size, 0, none⟩) :: .pointer (some ⟨w.heap.size + 1, 0, none⟩) :: (if S 22 = true then .bool true else .bool false) :: .pointer (some ⟨b4, 0, none⟩) :: .pointer (some ⟨b5, 0, none⟩) :: .pointer (some ⟨w2.heap.size, 0, none⟩) :: .int .u32 (cr a b) :: .pointer (some ⟨w3.heap.size, 0, none⟩) :: .int .i64 (cr a b) :: .pointer (some ⟨w4.heap.size, 0, none⟩) :: .int .u32 (Bw a b 8) :: .pointer (some ⟨w5.heap.size, 0, none⟩) :: .int .i64 (Bw a b 8) :: .bool true :: .bool false :: .agg (num a) :: .agg (bts a) :: .agg (num b) :: .agg (bts b) :: .tuple #[.agg (num (sm a b)), .int .u32 (cr a b)] :: .agg (num a) :: .agg (num b) :: .tuple #[.agg (num (sm a b)), .int .u32 (cr a b)] :: .agg (num (sm a b)) :: .int .u32 (cr a b) :: .tuple #[.agg (bts (sm a b)), .int .i64 (cr a b)] :: .agg (bts a) :: .agg (bts b) :: .tuple #[.agg (bts (sm a b)), .int .i64 (cr a b)] :: .agg (bts (sm a b)) :: .int .i64 (cr a b) :: .tuple #[.agg (num (df a b)), .int .u32 (Bw a b 8)] :: .agg (num a) :: .agg (num b) :: .tuple #[.agg (num (df a b)), .int .u32 (Bw a b 8)] :: .agg (num (df a b)) :: .int .u32 (Bw a b 8) :: .tuple #[.agg (bts (df a b)), .int .i64 (Bw a b 8)] :: .agg (bts a) :: .agg (bts b) :: .tuple #[.agg (bts (df a b)), .int .i64 (Bw a b 8)] :: .agg (bts (df a b)) :: .int .i64 (Bw a b 8) :: (if S 0 = true then .agg (num (sm a b)) else undef) :: (if S 1 = true then .agg (bts (sm a b)) else undef) :: (if S 2 = true then .agg (num (sm a b)) else undef) :: (if S 3 = true then .bool true else undef) :: (if S 4 = true then .bool true else undef) :: (if S 5 = true then .int .u32 (cr a b) else undef) :: (if S 6 = true then .int .i64 (cr a b) else undef) :: (if S 7 = true then .int .i64 (cr a b) else undef) :: (if S 8 = true then .bool true else undef) :: (if S 9 = true then .bool true else undef) :: (if S 10 = true then .bool true else undef) :: (if S 11 = true then .agg (num (df a b)) else undef) :: (if S 12 = true then .agg (bts (df a b)) else undef) :: (if S 13 = true then .agg (num (df a b)) else undef) :: (if S 14 = true then .bool true else undef) :: (if S 15 = true then .bool true else undef) :: (if S 16 = true then .bool true else undef) :: (if S 17 = true then .int .u32 (Bw a b 8) else undef) :: (if S 18 = true then .int .i64 (Bw a b 8) else undef) :: (if S 19 = true then .int .i64 (Bw a b 8) else undef) :: (if S 20 = true then .bool true else undef) :: (if S 21 = true then .bool true else undef) :: []).toArray, []⟩ ∧ Hid (True) ∧ Below (w5.heap.size + 1) (w5.alloc (.cells (bts (df a b)) 27)) w') rfl (by kernel_rfl) ?h0 ?hs ?he
    case h0 =>
      refine ⟨(), rfl, trivial, (Below.refl _ _).drew⟩
    case hs =>
      refine ⟨?_, ?_, ?_, ?_, ?_, ?_, ?_, ?_, ?_, ?_, ?_, ?_, ?_, ?_, ?_, ?_, ?_, ?_, ?_, ?_, ?_, ?_, ?_, trivial⟩
      · rintro S a' w' hi hp ⟨_u, rfl, hr, hB⟩ K hK
        change S 0 = false at hi
        clear hp
        have r := fun b hb => row_below hB b hb
        clear hi
        go_simp
        exact hK _ _ ⟨(), by simp [upd], trivial, hB⟩
      · rintro S a' w' hi hp ⟨_u, rfl, hr, hB⟩ K hK
        change S 1 = false at hi
        clear hp
        have r := fun b hb => row_below hB b hb
        clear hi
        go_simp
        exact hK _ _ ⟨(), by simp [upd], trivial, hB⟩
      · rintro S a' w' hi hp ⟨_u, rfl, hr, hB⟩ K hK
        change S 2 = false at hi
        have e1 := preds_conj hp (l := [1]) rfl
        change S 1 = true at e1
        clear hp
        clear hi
        go_simp
        refine (bnum_T _ (T_sm _ _) _).mono ?_
        rintro e w1 ⟨rfl, hB1⟩
        refine hK _ _ ⟨_u, by simp [upd, Act.put, e1], trivial, below_call hB (Nat.le_trans (by simp; try omega) hB.size) hB1⟩
      · rintro S a' w' hi hp ⟨_u, rfl, hr, hB⟩ K hK
        change S 3 = false at hi
        obtain ⟨e0, e2⟩ := preds_conj hp (l := [0, 2]) rfl
        change S 2 = true at e2
        clear hp
        have r := fun b hb => row_below hB b hb
        clear hi
        go_simp
        exact hK _ _ ⟨(), by simp [upd, e0, e2], trivial, hB⟩
      · rintro S a' w' hi hp ⟨_u, rfl, hr, hB⟩ K hK
        change S 4 = false at hi
        obtain ⟨e3, e2⟩ := preds_conj hp (l := [3, 2]) rfl
        change S 2 = true at e2
        clear hp
        have r := fun b hb => row_below hB b hb
        clear hi
        go_simp
        exact hK _ _ ⟨(), by simp [upd, e3, e2], trivial, hB⟩
      · rintro S a' w' hi hp ⟨_u, rfl, hr, hB⟩ K hK
        change S 5 = false at hi
        have e4 := preds_conj hp (l := [4]) rfl
        change S 4 = true at e4
        clear hp
        have r := fun b hb => row_below hB b hb
        clear hi
        go_simp
        exact hK _ _ ⟨(), by simp [upd, e4], trivial, hB⟩
      · rintro S a' w' hi hp ⟨_u, rfl, hr, hB⟩ K hK
        change S 6 = false at hi
        obtain ⟨e5, e4⟩ := preds_conj hp (l := [5, 4]) rfl
        change S 4 = true at e4
        clear hp
        have r := fun b hb => row_below hB b hb
        clear hi
        go_simp
        exact hK _ _ ⟨(), by simp [upd, e5, e4], trivial, hB⟩
      · rintro S a' w' hi hp ⟨_u, rfl, hr, hB⟩ K hK
        change S 7 = false at hi
        have e4 := preds_conj hp (l := [4]) rfl
        change S 4 = true at e4
        clear hp
        have r := fun b hb => row_below hB b hb
        clear hi
        go_simp
        exact hK _ _ ⟨(), by simp [upd, e4], trivial, hB⟩
      · rintro S a' w' hi hp ⟨_u, rfl, hr, hB⟩ K hK
        change S 8 = false at hi
        obtain ⟨e6, e7, e4⟩ := preds_conj hp (l := [6, 7, 4]) rfl
        change S 4 = true at e4
        clear hp
        have r := fun b hb => row_below hB b hb
        clear hi
        go_simp
        exact hK _ _ ⟨(), by simp [upd, e6, e7, e4], trivial, hB⟩
      · rintro S a' w' hi hp ⟨_u, rfl, hr, hB⟩ K hK
        change S 9 = false at hi
        obtain ⟨e4, e8⟩ := preds_conj hp (l := [4, 8]) rfl
        change S 8 = true at e8
        clear hp
        have r := fun b hb => row_below hB b hb
        clear hi
        go_simp
        exact hK _ _ ⟨(), by simp [upd, e4, e8], trivial, hB⟩
      · rintro S a' w' hi hp ⟨_u, rfl, hr, hB⟩ K hK
        change S 10 = false at hi
        obtain ⟨e9, e4⟩ := preds_conj hp (l := [9, 4]) rfl
        change S 4 = true at e4
        clear hp
        have r := fun b hb => row_below hB b hb
        clear hi
        go_simp
        exact hK _ _ ⟨(), by simp [upd, e9, e4], trivial, hB⟩
      · rintro S a' w' hi hp ⟨_u, rfl, hr, hB⟩ K hK
        change S 11 = false at hi
        have e10 := preds_conj hp (l := [10]) rfl
        change S 10 = true at e10
        clear hp
        have r := fun b hb => row_below hB b hb
        clear hi
        go_simp
        exact hK _ _ ⟨(), by simp [upd, e10], trivial, hB⟩
      · rintro S a' w' hi hp ⟨_u, rfl, hr, hB⟩ K hK
        change S 12 = false at hi
        have e10 := preds_conj hp (l := [10]) rfl
        change S 10 = true at e10
        clear hp
        have r := fun b hb => row_below hB b hb
        clear hi
        go_simp
        exact hK _ _ ⟨(), by simp [upd, e10], trivial, hB⟩
      · rintro S a' w' hi hp ⟨_u, rfl, hr, hB⟩ K hK
        change S 13 = false at hi
        obtain ⟨e12, e10⟩ := preds_conj hp (l := [12, 10]) rfl
        change S 10 = true at e10
        clear hp
        clear hi
        go_simp
        refine (bnum_T _ (T_df _ _) _).mono ?_
        rintro e w1 ⟨rfl, hB1⟩
        refine hK _ _ ⟨_u, by simp [upd, Act.put, e12, e10], trivial, below_call hB (Nat.le_trans (by simp; try omega) hB.size) hB1⟩
      · rintro S a' w' hi hp ⟨_u, rfl, hr, hB⟩ K hK
        change S 14 = false at hi
        obtain ⟨e11, e13, e10⟩ := preds_conj hp (l := [11, 13, 10]) rfl
        change S 10 = true at e10
        clear hp
        have r := fun b hb => row_below hB b hb
        clear hi
        go_simp
        exact hK _ _ ⟨(), by simp [upd, e11, e13, e10], trivial, hB⟩
      · rintro S a' w' hi hp ⟨_u, rfl, hr, hB⟩ K hK
        change S 15 = false at hi
        obtain ⟨e10, e14⟩ := preds_conj hp (l := [10, 14]) rfl
        change S 14 = true at e14
        clear hp
        have r := fun b hb => row_below hB b hb
        clear hi
        go_simp
        exact hK _ _ ⟨(), by simp [upd, e10, e14], trivial, hB⟩
      · rintro S a' w' hi hp ⟨_u, rfl, hr, hB⟩ K hK
        change S 16 = false at hi
        obtain ⟨e15, e13⟩ := preds_conj hp (l := [15, 13]) rfl
        change S 13 = true at e13
        clear hp
        have r := fun b hb => row_below hB b hb
        clear hi
        go_simp
        exact hK _ _ ⟨(), by simp [upd, e15, e13], trivial, hB⟩
      · rintro S a' w' hi hp ⟨_u, rfl, hr, hB⟩ K hK
        change S 17 = false at hi
        have e16 := preds_conj hp (l := [16]) rfl
        change S 16 = true at e16
        clear hp
        have r := fun b hb => row_below hB b hb
        clear hi
        go_simp
        exact hK _ _ ⟨(), by simp [upd, e16], trivial, hB⟩
      · rintro S a' w' hi hp ⟨_u, rfl, hr, hB⟩ K hK
        change S 18 = false at hi
        obtain ⟨e17, e16⟩ := preds_conj hp (l := [17, 16]) rfl
        change S 16 = true at e16
        clear hp
        have r := fun b hb => row_below hB b hb
        clear hi
        go_simp
        exact hK _ _ ⟨(), by simp [upd, e17, e16], trivial, hB⟩
      · rintro S a' w' hi hp ⟨_u, rfl, hr, hB⟩ K hK
        change S 19 = false at hi
        have e16 := preds_conj hp (l := [16]) rfl
        change S 16 = true at e16
        clear hp
        have r := fun b hb => row_below hB b hb
        clear hi
        go_simp
        exact hK _ _ ⟨(), by simp [upd, e16], trivial, hB⟩
      · rintro S a' w' hi hp ⟨_u, rfl, hr, hB⟩ K hK
        change S 20 = false at hi
        obtain ⟨e18, e19, e16⟩ := preds_conj hp (l := [18, 19, 16]) rfl
        change S 16 = true at e16
        clear hp
        have r := fun b hb => row_below hB b hb
        clear hi
        go_simp
        exact hK _ _ ⟨(), by simp [upd, e18, e19, e16], trivial, hB⟩
      · rintro S a' w' hi hp ⟨_u, rfl, hr, hB⟩ K hK
        change S 21 = false at hi
        obtain ⟨e16, e20⟩ := preds_conj hp (l := [16, 20]) rfl
        change S 20 = true at e20
        clear hp
        have r := fun b hb => row_below hB b hb
        clear hi
        go_simp
        exact hK _ _ ⟨(), by simp [upd, e16, e20], trivial, hB⟩
      · rintro S a' w' hi hp ⟨_u, rfl, hr, hB⟩ K hK
        change S 22 = false at hi
        obtain ⟨e21, e16, e0, e1, e2, e3, e4, e5, e6, e7, e8, e9, e10, e11, e12, e13, e14, e15, e17, e18, e19, e20⟩ := preds_conj hp (l := [21, 16, 0, 1, 2, 3, 4, 5, 6, 7, 8, 9, 10, 11, 12, 13, 14, 15, 17, 18, 19, 20]) rfl
        change S 20 = true at e20
        clear hp
        have r := fun b hb => row_below hB b hb
        clear hi
        go_simp
        exact hK _ _ ⟨(), by simp [upd, e21, e16, e0, e1, e2, e3, e4, e5, e6, e7, e8, e9, e10, e11, e12, e13, e14, e15, e17, e18, e19, e20], trivial, hB⟩
    case he =>
      rintro a' wq ⟨_u, rfl, hr, hB⟩
      simp only [Nat.reduceLT, List.length_cons, List.length_nil, Nat.reduceAdd, decide_true, if_true]
      obtain ⟨hB1, hB0, hB2, hB3, hB4, hB5⟩ := HB.out
      go_wp2
      go_ret
      refine ⟨rfl, ?_⟩
      have h0 := ((Below.refl w.heap.size w).alloc (Nat.le_refl _) (.cells (num a) 24)).alloc (by simp) (.cells (num b) 24)
      have h1 := below_call h0 h0.size hB1
      have h1' := below_call h1 h1.size hB0
      have h2 := (below_call h1' h1'.size hB2).alloc (Nat.le_trans h1'.size hB2.size) (.cells (num (sm a b)) 24)
      have h3 := (below_call h2 h2.size hB3).alloc (Nat.le_trans h2.size hB3.size) (.cells (bts (sm a b)) 27)
      have h4 := (below_call h3 h3.size hB4).alloc (Nat.le_trans h3.size hB4.size) (.cells (num (df a b)) 24)
      have h5 := (below_call h4 h4.size hB5).alloc (Nat.le_trans h4.size hB5.size) (.cells (bts (df a b)) 27)
      exact h5.trans (hB.mono (Nat.le_trans h5.size (by simp)))
end Go.Proofs.L
