/- Proved here: lemmas and contracts (Round) for the laws of this seat, for all values of the stated types; no further condition. -/
import Derived.Test.YtonddkmncfjhoaaRunsAll
open Go Go.RowKit Go.Lib
namespace Go.Proofs.L
/-! the plain law of a full round -/
def cntR (r : Nat → Bool) (k : Nat) : Nat := ((List.range k).filter r).length
theorem cntR_succ (r k) : cntR r (k + 1) = cntR r k + (if r k then 1 else 0) := by
  unfold cntR
  rw [List.range_succ, List.filter_append]
  by_cases h : r k = true <;> simp [h]
theorem cnt_tab : ∀ n, n < 5 → ∀ t, t < n → ∀ a b c d, (cntR (rOf a b c d) n == (rlN (rOf a b c d) n t).length) = true := by decide
theorem cntR_congr {r q : Nat → Bool} {n : Nat} (hn : n < 5) (h : ∀ i, i < 4 → r i = q i) : cntR r n = cntR q n := by
  unfold cntR
  congr 1
  apply List.filter_congr
  intro i hi
  exact h i (by have := List.mem_range.1 hi; omega)
theorem cnt_rl (r : Nat → Bool) {n t : Nat} (hn : n < 5) (ht : t < n) : cntR r n = (rlN r n t).length := by
  have h := cnt_tab n hn t ht (r 0) (r 1) (r 2) (r 3)
  have e := rOf_eq r
  rw [cntR_congr hn e, rlN_congr hn e t] at h
  simpa using h
theorem cnt_none (r : Nat → Bool) (n : Nat) (h : ∀ i, i < n → r i = false) : cntR r n = 0 := by
  unfold cntR
  rw [List.length_eq_zero_iff, List.filter_eq_nil_iff]
  intro i hi
  rw [h i (List.mem_range.1 hi)]; decide
/-- the k-th turn of a round -/
structure AtK (f : Nat → Sta) (n : Nat) (rl : List Nat) (k : Nat) (t : Int) : Prop where
  neg : t < 0 → t = -1 ∧ rl = [] ∧ ∀ i, i < n → (f i).s ≠ 0
  pos : ∀ τ : Nat, t = τ → τ < n ∧ (f τ).s = 0 ∧ rlN (rB f) n τ = rl.drop k ++ rl.take k
theorem AtK.next {f n rl k} {τ : Nat} {t' : Int} (h : AtK f n rl k τ) (h5 : n < 5) (hk : k < rl.length) (hN : NextT f n τ t') : rl[k]? = some τ ∧ AtK f n rl (k + 1) t' := by
  obtain ⟨ht, hz, hr⟩ := h.pos τ rfl
  obtain ⟨rest, t2, h2, h3, h4, h6, h7⟩ := pass_law (rB f) h5 ht (by simp [rB, hz])
  have hd : rl.drop k = rl[k] :: rl.drop (k + 1) := List.drop_eq_getElem_cons hk
  rw [hd] at hr
  rw [h2, List.cons_append] at hr
  injection hr with e1 e2
  refine ⟨by rw [List.getElem?_eq_getElem hk, e1], ?_⟩
  have htk : rl.take (k + 1) = rl.take k ++ [τ] := by rw [List.take_add_one, List.getElem?_eq_getElem hk, e1]; rfl
  rcases nextT_next hN with ⟨m, hm, rfl⟩ | ⟨hm, rfl⟩
  · rw [h3] at hm
    obtain rfl : t2 = m := by injection hm
    refine ⟨fun h => by omega, fun τ' ht' => ?_⟩
    obtain rfl : t2 = τ' := by omega
    exact ⟨h6, by simpa [rB] using h7, by rw [h4, e2, htk, List.append_assoc]⟩
  · rw [h3] at hm; cases hm
theorem AtK.last {f n rl} {t t0 : Int} (h0 : AtK f n rl 0 t0) (h : AtK f n rl rl.length t) (h5 : n < 5) (hr0 : t0 < 0 ∨ ∃ τ : Nat, t0 = τ) (hr : t < 0 ∨ ∃ τ : Nat, t = τ) : t = t0 := by
  rcases hr with hr | ⟨τ, rfl⟩
  · obtain ⟨rfl, rfl, hz⟩ := h.neg hr
    rcases hr0 with hr0 | ⟨τ, rfl⟩
    · exact (h0.neg hr0).1.symm
    · obtain ⟨h1, h2, -⟩ := h0.pos τ rfl
      exact absurd h2 (hz τ h1)
  · obtain ⟨h1, h2, h3⟩ := h.pos τ rfl
    rcases hr0 with hr0 | ⟨τ0, rfl⟩
    · obtain ⟨-, -, hz⟩ := h0.neg hr0
      exact absurd h2 (hz τ h1)
    · obtain ⟨g1, g2, g3⟩ := h0.pos τ0 rfl
      simp at h3 g3
      obtain ⟨r1, _, a1, -⟩ := pass_law (rB f) h5 h1 (by simp [rB, h2])
      obtain ⟨r2, _, a2, -⟩ := pass_law (rB f) h5 g1 (by simp [rB, g2])
      rw [h3, ← g3, a2] at a1
      injection a1 with e
      omega
/-- what was had till the k-th turn -/
def hadL (rl : List Nat) (k : Nat) : List Value := (List.range 4).map fun i => .int .i64 (if i ∈ rl.take k then 1 else 0)
theorem hadL_get (rl k i) (hi : i < 4) : (hadL rl k)[i]? = some (.int .i64 (if i ∈ rl.take k then 1 else 0)) := by simp [hadL, hi]
theorem hadL_succ {rl : List Nat} {k τ : Nat} (hk : rl[k]? = some τ) (h4 : τ < 4) : (hadL rl k).toArray.setIfInBounds τ (.int .i64 1) = (hadL rl (k + 1)).toArray := by
  have htk : rl.take (k + 1) = rl.take k ++ [τ] := by rw [List.take_add_one, hk]; rfl
  apply Array.ext'
  rw [Array.toList_setIfInBounds]
  apply List.ext_getElem?
  intro i
  rw [List.getElem?_set]
  by_cases hi : i < 4
  · rw [show ((hadL rl (k + 1)).toArray.toList : List Value) = hadL rl (k + 1) from rfl, show ((hadL rl k).toArray.toList : List Value) = hadL rl k from rfl, hadL_get _ _ _ hi, hadL_get _ _ _ hi]
    by_cases e : τ = i
    · subst e
      rw [if_pos rfl, if_pos (by simp [hadL]; exact h4)]
      rw [htk, if_pos (by simp)]
    · rw [if_neg e]
      congr 3
      rw [htk]
      simp only [List.mem_append, List.mem_singleton]
      have : (i = τ) = False := eq_false fun h => e h.symm
      simp [this]
  · rw [show ((hadL rl (k + 1)).toArray.toList : List Value) = hadL rl (k + 1) from rfl, show ((hadL rl k).toArray.toList : List Value) = hadL rl k from rfl]
    rw [if_neg (by omega), List.getElem?_eq_none (by simp [hadL]; omega), List.getElem?_eq_none (by simp [hadL]; omega)]
theorem hadL_new {rl : List Nat} {k τ : Nat} (hn : rl.Nodup) (hk : rl[k]? = some τ) : τ ∉ rl.take k := by
  intro hm
  obtain ⟨j, hj, he⟩ := List.getElem_of_mem hm
  have hjk : j < k := by simp at hj; omega
  rw [List.getElem_take] at he
  have hkl := (List.getElem?_eq_some_iff.1 hk)
  obtain ⟨hkl, hke⟩ := hkl
  have := List.getElem_inj hn (h₀ := by omega) (h₁ := hkl) |>.1 (he.trans hke.symm)
  omega
theorem rl_nodup (r : Nat → Bool) {n t : Nat} (h5 : n < 5) (ht : t < n) : (rlN r n t).Nodup := (cyc_nodup n h5 t ht).filter _
theorem Rel.atK {n f t rl gl} (h : Rel n f t rl gl) (h0 : 0 < n) (h5 : n < 5) : AtK f n rl 0 t ∧ rl.Nodup ∧ cntR (rB f) n = rl.length ∧ ∀ i, i ∈ rl ↔ i < n ∧ (f i).s = 0 := by
  refine ⟨?_, ?_, ?_, h.mem h0⟩
  · rcases h.turn with ⟨rfl, rfl, hz⟩ | ⟨τ, rfl, ht, hz, rfl⟩
    · exact ⟨fun _ => ⟨rfl, rfl, hz⟩, fun τ h => by omega⟩
    · refine ⟨fun h => by omega, fun τ' h => ?_⟩
      obtain rfl : τ = τ' := by omega
      exact ⟨ht, hz, by simp⟩
  · rcases h.turn with ⟨rfl, rfl, hz⟩ | ⟨τ, rfl, ht, hz, rfl⟩
    · exact List.nodup_nil
    · exact rl_nodup _ h5 ht
  · rcases h.turn with ⟨rfl, rfl, hz⟩ | ⟨τ, rfl, ht, hz, rfl⟩
    · exact cnt_none _ _ fun i hi => by simpa [rB] using hz i hi
    · exact cnt_rl _ h5 ht
end Go.Proofs.L
