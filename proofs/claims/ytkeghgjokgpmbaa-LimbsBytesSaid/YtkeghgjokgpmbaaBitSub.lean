/- Proved here: lemmas and contracts (BitSub) for the laws of this seat, for all values of the stated types; no further condition. -/
import Derived.Test.YtkeghgjokgpmbaaBitArith
import Derived.Test.YtkeghgjokgpmbaaReg
import Derived.Deep.RegionWith
import Derived.Deep.RegionHeld3
open Go Go.RowKit
namespace Go.Proofs.L
attribute [local go_sem ↓] z23 z24 z27 ld23 st23 ld24 st24 ld27 st27
attribute [local go_sem] num_size num_all bts_size bts_all
theorem bd27 (a : Act) (d t p af g) (w : World) : Sem.run Try.prog (execOp (Act.eval a) { dst := d, op := .build 27 #[(0, .const (.int .i64 1))], type := t, pos := p, after := af, guard := g }) w = .ok (.value (.agg (bts 1))) w := by kernel_rfl
attribute [local go_sem ↓] bd27
set_option maxRecDepth 100000 in
set_option maxHeartbeats 1600000 in
theorem bsub_any (a b : Nat) (ha : a < 2^256) (hb : b < 2^256) (w : World) :
    Calls Try.prog 12 #[.agg (bts a), .agg (bts b)] w fun e w' => e = .returned (.tuple #[.agg (bts (a + (2^256 - 1 - b) + 1)), .int .i64 (1 - Bt.C a (2^256 - 1 - b) 256 - Bt.C (a + (2^256 - 1 - b)) 1 256)]) ∧ Below w.heap.size w w' := by
  have hn := fun w => bnot_any b hb w
  clear ha hb
  generalize 2^256-1-b = s at *
  go_enter Try.func12, Try.ntmps12
  go_wp2
  refine wp_region_steps (fun S a' w' => ∃ (p7 : Value) (b7 : Nat), a' = ⟨(.agg (bts a) :: .agg (bts b) :: .pointer (some ⟨w.heap.size, 0, none⟩) :: .pointer (some ⟨w.heap.size + 1, 0, none⟩) :: .pointer (some ⟨w.heap.size + 1 + 1, 0, none⟩) :: .int .i64 0 :: .pointer (some ⟨w.heap.size + 1 + 1 + 1, 0, none⟩) :: p7 :: (if S 9 = true then .int .i64 (Bt.C a s 256) else undef) :: undef :: undef :: .agg (bts 1) :: (if S 4 = true then .tuple #[.agg (bts (a + s)), .int .i64 (Bt.C a s 256)] else undef) :: (if S 0 = true then .agg (bts a) else undef) :: (if S 1 = true then .agg (bts b) else undef) :: (if S 2 = true then .agg (bts s) else undef) :: (if S 3 = true then .tuple #[.agg (bts (a + s)), .int .i64 (Bt.C a s 256)] else undef) :: (if S 5 = true then .agg (bts (a + s)) else undef) :: (if S 6 = true then .int .i64 (Bt.C a s 256) else undef) :: undef :: undef :: undef :: undef :: undef :: undef :: undef :: undef :: undef :: undef :: undef :: []).toArray, []⟩ ∧ Hid ((S 7 = true → p7 = .pointer (some ⟨b7, 0, none⟩) ∧ w.heap.size + 4 ≤ b7 ∧ b7 < w'.heap.size ∧ w'.row? b7 = some (if S 8 = true then bts (a + s) else (bts 0))) ∧ (S 7 = false → p7 = undef ∧ S 8 = false)) ∧ Below (w.heap.size + 4) ((((w.alloc (.cells (bts a) 27)).alloc (.cells (bts b) 27)).alloc (.cells (bts 0) 27)).alloc (.cells (bts 1) 27)) w') rfl (by kernel_rfl) ?h0 ?hs ?he
  case h0 =>
    refine ⟨_, 0, rfl, ⟨by simp, by simp⟩, (Below.refl _ _).drew⟩
  case hs =>
    refine ⟨?_, ?_, ?_, ?_, ?_, ?_, ?_, ?_, ?_, ?_, trivial⟩
    · rintro S a' w' hi hp ⟨p7, b7, rfl, hr, hB⟩ K hK
      change S 0 = false at hi
      clear hp
      have r := fun b hb => row_below hB b hb
      clear hi
      go_simp
      obtain ⟨h7, k7⟩ := hr.out
      exact hK _ _ ⟨p7, b7, by simp [upd], ⟨by simpa [upd] using h7, by simpa [upd] using k7⟩, hB⟩
    · rintro S a' w' hi hp ⟨p7, b7, rfl, hr, hB⟩ K hK
      change S 1 = false at hi
      clear hp
      have r := fun b hb => row_below hB b hb
      clear hi
      go_simp
      obtain ⟨h7, k7⟩ := hr.out
      exact hK _ _ ⟨p7, b7, by simp [upd], ⟨by simpa [upd] using h7, by simpa [upd] using k7⟩, hB⟩
    · rintro S a' w' hi hp ⟨p7, b7, rfl, hr, hB⟩ K hK
      change S 2 = false at hi
      have e1 := preds_conj hp (l := [1]) rfl
      change S 1 = true at e1
      clear hp
      clear hi
      go_simp
      obtain ⟨h7, k7⟩ := hr.out
      refine (hn _).mono ?_
      rintro e w1 ⟨rfl, hB1⟩
      refine hK _ _ ⟨p7, b7, by simp [upd, Act.put, e1], ⟨?_, by simpa [upd] using k7⟩, below_call hB (Nat.le_trans (by simp; try omega) hB.size) hB1⟩
      · intro h
        obtain ⟨q1, q2, q3, q4⟩ := h7 (by simpa [upd] using h)
        exact ⟨q1, q2, Nat.lt_of_lt_of_le q3 hB1.size, by rw [row_below hB1 _ q3, q4]; simp [upd]⟩
    · rintro S a' w' hi hp ⟨p7, b7, rfl, hr, hB⟩ K hK
      change S 3 = false at hi
      obtain ⟨e0, e2⟩ := preds_conj hp (l := [0, 2]) rfl
      change S 2 = true at e2
      clear hp
      clear hi
      go_simp
      obtain ⟨h7, k7⟩ := hr.out
      refine (badd_any _ _ _).mono ?_
      rintro e w1 ⟨rfl, hB1⟩
      refine hK _ _ ⟨p7, b7, by simp [upd, Act.put, e0, e2], ⟨?_, by simpa [upd] using k7⟩, below_call hB (Nat.le_trans (by simp; try omega) hB.size) hB1⟩
      · intro h
        obtain ⟨q1, q2, q3, q4⟩ := h7 (by simpa [upd] using h)
        exact ⟨q1, q2, Nat.lt_of_lt_of_le q3 hB1.size, by rw [row_below hB1 _ q3, q4]; simp [upd]⟩
    · rintro S a' w' hi hp ⟨p7, b7, rfl, hr, hB⟩ K hK
      change S 4 = false at hi
      have e3 := preds_conj hp (l := [3]) rfl
      change S 3 = true at e3
      clear hp
      have r := fun b hb => row_below hB b hb
      clear hi
      go_simp
      obtain ⟨h7, k7⟩ := hr.out
      exact hK _ _ ⟨p7, b7, by simp [upd, e3], ⟨by simpa [upd] using h7, by simpa [upd] using k7⟩, hB⟩
    · rintro S a' w' hi hp ⟨p7, b7, rfl, hr, hB⟩ K hK
      change S 5 = false at hi
      have e4 := preds_conj hp (l := [4]) rfl
      change S 4 = true at e4
      clear hp
      have r := fun b hb => row_below hB b hb
      clear hi
      go_simp
      obtain ⟨h7, k7⟩ := hr.out
      exact hK _ _ ⟨p7, b7, by simp [upd, e4], ⟨by simpa [upd] using h7, by simpa [upd] using k7⟩, hB⟩
    · rintro S a' w' hi hp ⟨p7, b7, rfl, hr, hB⟩ K hK
      change S 6 = false at hi
      have e4 := preds_conj hp (l := [4]) rfl
      change S 4 = true at e4
      clear hp
      have r := fun b hb => row_below hB b hb
      clear hi
      go_simp
      obtain ⟨h7, k7⟩ := hr.out
      exact hK _ _ ⟨p7, b7, by simp [upd, e4], ⟨by simpa [upd] using h7, by simpa [upd] using k7⟩, hB⟩
    · rintro S a' w' hi hp ⟨p7, b7, rfl, hr, hB⟩ K hK
      change S 7 = false at hi
      clear hp
      have hsz : w.heap.size + 4 ≤ w'.heap.size := Nat.le_trans (by simp; try omega) hB.size
      obtain ⟨h7, k7⟩ := hr.out
      obtain ⟨z1, z2⟩ := k7 hi
      clear hi
      go_simp
      refine hK _ _ ⟨(.pointer (some ⟨w'.heap.size, 0, none⟩)), w'.heap.size, by simp [upd], ⟨?_, by simp [upd]⟩, hB.alloc hsz _⟩
      · intro _; exact ⟨rfl, hsz, by simp, by rw [row_alloc_at _ _ _ _ rfl]; simp [upd, z2]⟩
    · rintro S a' w' hi hp ⟨p7, b7, rfl, hr, hB⟩ K hK
      change S 8 = false at hi
      obtain ⟨e7, e5, e3, e0, e1, e2, e4⟩ := preds_conj hp (l := [7, 5, 3, 0, 1, 2, 4]) rfl
      change S 4 = true at e4
      clear hp
      obtain ⟨y7, l7, m7, c7⟩ := by obtain ⟨h7, k7⟩ := hr.out; exact h7 e7
      rw [if_neg (by rw [hi]; decide)] at c7
      subst y7
      clear hi
      go_simp
      obtain ⟨h7, k7⟩ := hr.out
      refine hK _ _ ⟨(.pointer (some ⟨b7, 0, none⟩)), b7, by simp [upd, e5, e3, e0, e1, e2, e4], ⟨?_, ?_⟩, below_setRow' hB (by omega) _⟩
      · intro _; exact ⟨rfl, l7, by simp [World.setRow]; omega, by rw [row_setRow]; simp [upd, c7]⟩
      · intro h; simp [upd, e7] at h
    · rintro S a' w' hi hp ⟨p7, b7, rfl, hr, hB⟩ K hK
      change S 9 = false at hi
      obtain ⟨e6, e8, e0, e1, e2, e3, e4, e5, e7⟩ := preds_conj hp (l := [6, 8, 0, 1, 2, 3, 4, 5, 7]) rfl
      change S 7 = true at e7
      clear hp
      have r := fun b hb => row_below hB b hb
      clear hi
      go_simp
      obtain ⟨h7, k7⟩ := hr.out
      exact hK _ _ ⟨p7, b7, by simp [upd, e6, e0, e1, e2, e3, e4, e5], ⟨by simpa [upd] using h7, by simpa [upd] using k7⟩, hB⟩
  case he =>
    rintro a' wr ⟨p7, b7, rfl, hr, hB⟩
    obtain ⟨h7, k7⟩ := hr.out
    obtain ⟨rfl, l7, m7, c7⟩ := h7 (by simp)
    simp only [List.length_cons, List.length_nil, Nat.reduceAdd, Nat.reduceLT, decide_true, if_true] at c7
    clear hr h7 k7
    simp only [Nat.reduceLT, List.length_cons, List.length_nil, Nat.reduceAdd, decide_true, if_true]
    have r := fun b hb => row_below hB b hb
    have s7 : w.heap.size + 1 + 1 + 1 < w.heap.size + 4 := by omega
    have s8 : w.heap.size + 1 + 1 < w.heap.size + 4 := by omega
    have s9 : w.heap.size + 1 < w.heap.size + 4 := by omega
    have s10 : w.heap.size < w.heap.size + 4 := by omega
    clear l7
    go_simp
    go_wp2_with fail
    refine (badd_any _ _ _).mono ?_
    rintro e w2 ⟨rfl, hB2⟩
    have hz : w.heap.size + 4 ≤ wr.heap.size := Nat.le_trans (by simp) hB.size
    have r2 := ext_row hB2
    have l2 := ext_lt hB2
    have t2 : w.heap.size + 1 + 1 < wr.heap.size := by omega
    have t3 : w.heap.size + 1 < wr.heap.size := by omega
    have b1 := Bt.C_le a s 256
    have b2 := Bt.C_le (a + s) 1 256
    have HB := Lib.hid (And.intro hB hB2)
    clear hB hB2
    go_wp2
    refine bodyPost_ret (ret_cell2 rfl a27 rfl (by go_simp) (bts_size _) rfl) rfl ⟨rfl, ?_⟩
    obtain ⟨hB, hB2⟩ := HB.out
    have h0 : Below w.heap.size w wr := ((((Below.refl _ _).alloc (Nat.le_refl _) _).alloc (by simp) _).alloc (by simp; omega) _).alloc (by simp; omega) _ |>.trans (hB.mono (by omega))
    exact (below_setRow' (below_call h0 (by omega) hB2) (by omega) _).alloc (by simp [World.setRow]; have := hB2.size; omega) _
end Go.Proofs.L
