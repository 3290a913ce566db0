/- Proved here: lemmas and contracts (Pass) for the laws of this seat, for all values of the stated types; no further condition. -/
import Derived.Test.YtonddkmncfjhoaaRead
open Go Go.RowKit Go.Lib
namespace Go.Proofs.L
/-- whose turn is next -/
def NextT (f : Nat → Sta) (n t : Nat) (t' : Int) : Prop :=
  (∃ k, k < n ∧ (∀ j, j < k → (f ((t + j + 1) % n)).s ≠ 0) ∧ (f ((t + k + 1) % n)).s = 0 ∧ t' = (((t + k + 1) % n : Nat) : Int)) ∨ ((∀ j, j < n → (f ((t + j + 1) % n)).s ≠ 0) ∧ t' = -1)
theorem pass_off {w b n f t g o cap} (h : Wd w b n f t g o cap) (ht : t < 0) : Calls Try.prog 15 #[.pointer (some ⟨b, 0, none⟩)] w fun e w' => e = .returned (.tuple #[]) ∧ w' = w := by
  have c1 := h.c1
  have d : decide (t < 0) = true := by simpa using ht
  clear h
  go_enter Try.func15, Try.ntmps15
  go_wp2
  refine bodyPost_ret (results_none rfl _ _ _) rfl ?_
  exact ⟨rfl, rfl⟩
set_option maxHeartbeats 800000 in
theorem pass_in {w b n f g o cap} (t : Nat) (h : Wd w b n f (t : Int) g o cap) (ht : t < n) (hn : n ≤ 4) : Calls Try.prog 15 #[.pointer (some ⟨b, 0, none⟩)] w fun e w' => e = .returned (.tuple #[]) ∧ ∃ t', NextT f n t t' ∧ Wd w' b n f t' g o cap ∧ Chg [b] w w' := by
  have H := Lib.hid h
  have c1 := h.c1
  have d : decide ((t : Int) < 0) = false := by simp
  clear h
  go_enter Try.func15, Try.ntmps15
  go_wp2_with fail
  go_loopw [2] (fun i wr => ∃ k : Nat, k ≤ n ∧ i = .int .i64 ((k : Int) + 1) ∧ (∀ j, j < k → (f ((t + j + 1) % n)).s ≠ 0) ∧ Chg [] w wr) (fun i _ => 5 - (intOf i).toNat)
  case atStart => exact ⟨0, by omega, rfl, fun j hj => by omega, Chg.refl _ _⟩
  case round =>
    obtain ⟨k, hk, rfl, hno, hC⟩ := hrel
    have HC := Lib.hid hC
    have HN := Lib.hid hno
    have hW := H.out.keep hC (by simp) (by simp)
    have HW := Lib.hid hW
    have c0 := hW.c0
    have HC2 : Hid (Chg [] w wr.drew) := Lib.hid hC.drew
    have hW2 := H.out.keep HC2.out (by simp) (by simp)
    have s0 := hW2.c0
    have s1 := hW2.c1
    have f1 := hW2.fr 1
    have HW2 := Lib.hid hW2
    clear hC hno c1 hW hW2
    by_cases hk2 : k < n
    · have dk : decide ((k : Int) + 1 ≤ (n : Int)) = true := by simp; omega
      obtain ⟨i, hi⟩ : ∃ i, i = (t + k + 1) % n := ⟨_, rfl⟩
      have hin : i < n := by rw [hi]; exact Nat.mod_lt _ (by omega)
      have hinI : (i : Int) < (n : Int) := by omega
      have e1 : wrap64 ((t : Int) + ((k : Int) + 1)) = ((t + k + 1 : Nat) : Int) := by rw [IntWalk.wrap64_in _ ⟨by omega, by omega⟩]; omega
      have e1' : IntKind.i64.wrap ((t : Int) + ((k : Int) + 1)) = ((t + k + 1 : Nat) : Int) := by rw [i64w]; exact e1
      have e2 : ((t + k + 1 : Nat) : Int).tmod (n : Int) = (i : Int) := by rw [Int.tmod_eq_emod_of_nonneg (by omega), hi]; omega
      have e3 : ((t + k + 1 : Nat) : Int) % (n : Int) = (i : Int) := by rw [hi]; omega
      have e4 : ((t : Int) + (k : Int) + 1) % (n : Int) = (i : Int) := by rw [show (t : Int) + (k : Int) + 1 = ((t + k + 1 : Nat) : Int) by omega]; exact e3
      have z1 : ((n : Int) == 0) = false := by simp; omega
      have z2 : ((n : Int) = 0) = False := by simp; omega
      have z3 : (n = 0) = False := by simp; omega
      have ci := HW2.out.ce i hin 0 _ (stL_0 _)
      rw [Nat.add_zero] at ci
      have HI := Lib.hid hi
      have HT := Lib.hid ht
      obtain ⟨m, hm⟩ : ∃ m, m = t + k + 1 := ⟨_, rfl⟩
      rw [← hm] at e1 e1' e2 e3
      have HM := Lib.hid hm
      clear hi hm ht hin
      go_wp2_with fail
      refine wp_region_C (fun w' => w'.cell? ⟨b, 0, none⟩ = some (.slice (some ⟨g, o, none⟩) n cap) ∧ w'.cell? ⟨b, 1, none⟩ = some (.int .i64 (t : Int))) [(0, 0), (1, 0), (2, 0), (3, 1), (4, 0), (5, 0), (6, 0), (7, 0), (8, 0), (9, 1), (10, 0), (11, 0), (12, 0)] rfl (by kernel_rfl) ?hSA ?hTA
      case hSA => exact ⟨s0, s1⟩
      refine wpT_pureD (v := ?_) (some 22) rfl rfl (by rfl) (fun w' => ?_) ?_
      rotate_left
      · (go_simp; try with_reducible rfl)
      try simp only [Act.put, List.setIfInBounds_toArray, List.set_cons_zero, List.set_cons_succ]
      refine wpT_pureD (v := ?_) (some 23) rfl rfl (by rfl) (fun w' => ?_) ?_
      rotate_left
      · (go_simp; try with_reducible rfl)
      try simp only [Act.put, List.setIfInBounds_toArray, List.set_cons_zero, List.set_cons_succ]
      refine wpT_pureD (v := ?_) (some 24) rfl rfl (by rfl) (fun w' => ?_) ?_
      rotate_left
      · (go_simp; try with_reducible rfl)
      try simp only [Act.put, List.setIfInBounds_toArray, List.set_cons_zero, List.set_cons_succ]
      refine wpT_readD (v := ?_) (some 25) rfl rfl (by rfl) (fun w' hw => ?_) ?_
      rotate_left
      · (obtain ⟨q0, q1⟩ := hw; go_simp; try with_reducible rfl)
      try simp only [Act.put, List.setIfInBounds_toArray, List.set_cons_zero, List.set_cons_succ]
      refine wpT_pureD (v := ?_) (some 26) rfl rfl (by rfl) (fun w' => ?_) ?_
      rotate_left
      · (go_simp; try with_reducible rfl)
      try simp only [Act.put, List.setIfInBounds_toArray, List.set_cons_zero, List.set_cons_succ]
      refine wpT_pureD (v := ?_) (some 27) rfl rfl (by rfl) (fun w' => ?_) ?_
      rotate_left
      · (go_simp; try with_reducible rfl)
      try simp only [Act.put, List.setIfInBounds_toArray, List.set_cons_zero, List.set_cons_succ]
      refine wpT_pureD (v := ?_) (some 28) rfl rfl (by rfl) (fun w' => ?_) ?_
      rotate_left
      · (go_simp; try with_reducible rfl)
      try simp only [Act.put, List.setIfInBounds_toArray, List.set_cons_zero, List.set_cons_succ]
      refine wpT_pureD (v := ?_) (some 29) rfl rfl (by rfl) (fun w' => ?_) ?_
      rotate_left
      · (go_simp; try with_reducible rfl)
      try simp only [Act.put, List.setIfInBounds_toArray, List.set_cons_zero, List.set_cons_succ]
      refine wpT_pureD (v := ?_) (some 30) rfl rfl (by rfl) (fun w' => ?_) ?_
      rotate_left
      · (go_simp; try with_reducible rfl)
      try simp only [Act.put, List.setIfInBounds_toArray, List.set_cons_zero, List.set_cons_succ]
      refine wpT_readD (v := ?_) (some 31) rfl rfl (by rfl) (fun w' hw => ?_) ?_
      rotate_left
      · (obtain ⟨q0, q1⟩ := hw; go_simp; try with_reducible rfl)
      try simp only [Act.put, List.setIfInBounds_toArray, List.set_cons_zero, List.set_cons_succ]
      refine wpT_pureD (v := ?_) (some 32) rfl rfl (by rfl) (fun w' => ?_) ?_
      rotate_left
      · (go_simp; try with_reducible rfl)
      try simp only [Act.put, List.setIfInBounds_toArray, List.set_cons_zero, List.set_cons_succ]
      refine wpT_pureD (v := ?_) (some 33) rfl rfl (by rfl) (fun w' => ?_) ?_
      rotate_left
      · (go_simp; try with_reducible rfl)
      try simp only [Act.put, List.setIfInBounds_toArray, List.set_cons_zero, List.set_cons_succ]
      refine wpT_pureD (v := ?_) (some 3) rfl rfl (by rfl) (fun w' => ?_) ?_
      rotate_left
      · (go_simp; try with_reducible rfl)
      try simp only [Act.put, List.setIfInBounds_toArray, List.set_cons_zero, List.set_cons_succ]
      refine wpT_end ?_
      by_cases hz : (f i).s = 0
      · rw [hz] at ci
        have HZ := Lib.hid hz
        clear hz
        go_wp2
        refine bodyPost_ret (results_none rfl _ _ _) rfl ?_
        refine ⟨rfl, i, .inl ⟨k, hk2, HN.out, by rw [← HI.out]; exact HZ.out, by rw [← HI.out]⟩, HW2.out.turn i, ?_⟩
        exact (show Chg [b] w wr.drew from ⟨HC2.out.os, HC2.out.tape, HC2.out.output, HC2.out.size, fun x hx _ => HC2.out.block x hx (by simp)⟩).setCell (Or.inl (by simp)) _
      · have d1 : ((f i).s == 0) = false := by simpa using hz
        go_wp2
        refine ⟨⟨k + 1, by omega, by go_num, fun j hj => ?_, HC2.out⟩, by simp only [intOf]; omega⟩
        by_cases hjk : j < k
        · exact HN.out j hjk
        · obtain rfl : j = k := by omega
          rw [← HI.out]; exact hz
    · obtain rfl : k = n := by omega
      have dk : decide ((k : Int) + 1 ≤ (k : Int)) = false := decide_eq_false (by omega)
      have f1' := HW.out.fr 1
      have c1' := HW.out.c1
      go_wp2
      go_end0
      refine ⟨rfl, -1, .inr ⟨HN.out, rfl⟩, HW.out.turn (-1), ?_⟩
      exact (show Chg [b] w wr from ⟨HC.out.os, HC.out.tape, HC.out.output, HC.out.size, fun x hx _ => HC.out.block x hx (by simp)⟩).setCell (Or.inl (by simp)) _
end Go.Proofs.L
