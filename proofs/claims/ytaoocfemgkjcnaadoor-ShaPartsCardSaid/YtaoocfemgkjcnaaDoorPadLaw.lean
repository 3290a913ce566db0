/- Proved here: lemmas and contracts (PadLaw) for the laws of this seat, for all values of the stated types; no further condition. -/
import Derived.Test.YtaoocfemgkjcnaaDoorOf
import Derived.Test.YtaoocfemgkjcnaaDoorRootsDefs
open Go Go.RowKit Go.Lib
namespace Go.Proofs.L
def padL' (L : List Nat) : List Nat := L ++ [128] ++ List.replicate (padK (L.length + 1)) 0 ++ lenL L.length
def chunkN' (M : List Nat) (j : Nat) : List Nat := (M.drop (64 * j)).take 64
def hN' (M : List Nat) : Nat → List Nat
  | 0 => h0L
  | j + 1 => blockN (hN' M j) (chunkN' M j)
theorem endS_pad (L : List Nat) : endS (writeS s0 L) = writeS s0 (padL' L) := by
  unfold endS padS padL'
  rw [s0_n, writeS_app, writeS_app, writeS_app]
theorem writeS_part (h p c : List Nat) (n : Nat) (hn : n % 64 = 0) (hp : p.length = 64) (hc : c.length = 64) (r : Nat) (hr : r ≤ 64) :
    writeS ⟨h, p, n⟩ (c.take r) = ⟨if r = 64 then blockN h c else h, c.take r ++ p.drop r, n + r⟩ := by
  induction r with
  | zero => rfl
  | succ r ih =>
    have hrc : r < c.length := by omega
    rw [writeS_succ _ _ r c[r] (List.getElem?_eq_getElem hrc), ih (by omega)]
    unfold stepS
    simp only []
    have e1 : (n + r) % 64 = r := by omega
    rw [e1, if_neg (show ¬ r = 64 by omega)]
    have e2 : (c.take r ++ p.drop r).set r c[r] = c.take (r + 1) ++ p.drop (r + 1) := by
      rw [List.set_append_right _ _ (by simp; omega), List.length_take, Nat.min_eq_left (by omega), Nat.sub_self, List.drop_eq_getElem_cons (show r < p.length by omega), List.set_cons_zero, List.take_succ_eq_append_getElem hrc, List.append_assoc]
      rfl
    rw [e2]
    by_cases h64 : r + 1 = 64
    · rw [if_pos (show (n + r + 1) % 64 = 0 by omega), if_pos h64]
      have e3 : c.take (r + 1) ++ p.drop (r + 1) = c := by rw [List.take_of_length_le (by omega), List.drop_eq_nil_of_le (by omega), List.append_nil]
      rw [e3]
      rfl
    · rw [if_neg (show ¬ (n + r + 1) % 64 = 0 by omega), if_neg h64]
      rfl
theorem writeS_chunks (M : List Nat) (m : Nat) (hM : M.length = 64 * m) (j : Nat) (hj : j ≤ m) :
    (writeS s0 (M.take (64 * j))).h = hN' M j ∧ (writeS s0 (M.take (64 * j))).p.length = 64 ∧ (writeS s0 (M.take (64 * j))).n = 64 * j := by
  induction j with
  | zero => exact ⟨rfl, by show (List.replicate 64 0).length = 64; simp, rfl⟩
  | succ j ih =>
    obtain ⟨h1, h2, h3⟩ := ih (by omega)
    have hc : (chunkN' M j).length = 64 := by unfold chunkN'; rw [List.length_take, List.length_drop, hM]; omega
    have e : M.take (64 * (j + 1)) = M.take (64 * j) ++ (chunkN' M j).take 64 := by
      rw [List.take_of_length_le (show (chunkN' M j).length ≤ 64 by omega), Nat.mul_add, Nat.mul_one, List.take_add]
      rfl
    rw [e, writeS_app]
    obtain ⟨t, ht⟩ : ∃ t, t = writeS s0 (M.take (64 * j)) := ⟨_, rfl⟩
    rw [← ht] at h1 h2 h3 ⊢
    obtain ⟨h, p, n⟩ := t
    simp only [] at h1 h2 h3
    rw [writeS_part h p (chunkN' M j) n (by omega) h2 hc 64 (Nat.le_refl _)]
    refine ⟨?_, ?_, ?_⟩
    · show (if (64 : Nat) = 64 then blockN h (chunkN' M j) else h) = blockN (hN' M j) (chunkN' M j)
      rw [if_pos rfl, h1]
    · show ((chunkN' M j).take 64 ++ p.drop 64).length = 64
      rw [List.length_append, List.length_take, List.length_drop, hc, h2]; rfl
    · show n + 64 = _
      omega
theorem padL_mod (L : List Nat) : ∃ m, (padL' L).length = 64 * m := by
  refine ⟨(padL' L).length / 64, ?_⟩
  have h : (padL' L).length = L.length + 1 + padK (L.length + 1) + 8 := by
    unfold padL' lenL
    simp
    omega
  have h2 : (L.length + 1 + padK (L.length + 1) + 8) % 64 = 0 := by unfold padK; omega
  rw [h]; omega
theorem sum_ref (L : List Nat) : sumN (writeS s0 L) = outN (hN' (padL' L) ((padL' L).length / 64)) 32 := by
  unfold sumN
  rw [endS_pad]
  obtain ⟨m, hm⟩ := padL_mod L
  have h := (writeS_chunks (padL' L) m hm m (Nat.le_refl _)).1
  rw [← hm, List.take_of_length_le (Nat.le_refl _)] at h
  rw [h, hm, Nat.mul_div_cancel_left _ (by decide)]
end Go.Proofs.L
