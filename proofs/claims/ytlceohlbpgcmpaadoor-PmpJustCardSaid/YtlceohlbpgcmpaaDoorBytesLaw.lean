/- Proved here: lemmas and contracts (BytesLaw) for the laws of this seat, for all values of the stated types; no further condition. -/
import Derived.Test.YtlceohlbpgcmpaaDoorRefByte
open Go Go.RowKit Go.Lib
namespace Go.Proofs.L
/-! runs against the rights of each byte, and against grants (plain law) -/
theorem runs_get {X : List Rg3} {R : List Rn} {m : Nat} (h : RunsOk X R m) {i j : Nat} {x y : Rn} (hx : R[i]? = some x) (hy : R[j]? = some y) (hij : i < j) : farR x y := by
  have h1 := List.pairwise_iff_getElem.1 h.pw
  obtain ⟨hi, rfl⟩ := List.getElem?_eq_some_iff.1 hx
  obtain ⟨hj, rfl⟩ := List.getElem?_eq_some_iff.1 hy
  exact h1 i j hi hj hij
/-- the byte ahead of a run has other rights -/
theorem run_before {X : List Rg3} {R : List Rn} {m : Nat} (h : RunsOk X R m) {i : Nat} {x : Rn} (hx : R[i]? = some x) (h0 : 0 < x.f) : byteX X (x.f - 1) ≠ x.r := by
  intro he
  obtain ⟨e1, e2, e3, e4⟩ := h.each x (List.mem_of_getElem? hx)
  obtain ⟨y, hy, y1, y2⟩ := h.cov (x.f - 1) (by omega) (by rw [he]; exact e3)
  obtain ⟨j, hj⟩ := List.getElem?_of_mem hy
  obtain ⟨f1, f2, f3, f4⟩ := h.each y hy
  have hyr := f4 (x.f - 1) y1 y2
  rcases Nat.lt_trichotomy i j with hlt | rfl | hlt
  · have := (runs_get h hx hj hlt).1; omega
  · rw [hx] at hj; injection hj with hj; subst hj; omega
  · obtain ⟨k1, k2⟩ := runs_get h hj hx hlt
    exact k2 (by omega) (by rw [← hyr, he])
/-- and so has the byte behind it -/
theorem run_behind {X : List Rg3} {R : List Rn} {m : Nat} (h : RunsOk X R m) {i : Nat} {x : Rn} (hx : R[i]? = some x) (h0 : x.t < m) : byteX X x.t ≠ x.r := by
  intro he
  obtain ⟨e1, e2, e3, e4⟩ := h.each x (List.mem_of_getElem? hx)
  obtain ⟨y, hy, y1, y2⟩ := h.cov x.t h0 (by rw [he]; exact e3)
  obtain ⟨j, hj⟩ := List.getElem?_of_mem hy
  obtain ⟨f1, f2, f3, f4⟩ := h.each y hy
  have hyr := f4 x.t y1 y2
  rcases Nat.lt_trichotomy i j with hlt | rfl | hlt
  · obtain ⟨k1, k2⟩ := runs_get h hx hj hlt
    exact k2 (by omega) (by rw [← hyr, he])
  · rw [hx] at hj; injection hj with hj; subst hj; omega
  · have := (runs_get h hj hx hlt).1; omega
/-- the rights that a run says of a byte: the last one that has it -/
def hasR (R : List Rn) (q : Nat) : Int := R.foldl (fun r x => if x.f ≤ q ∧ q < x.t then x.r else r) 0
theorem hasR_succ (R : List Rn) (k : Nat) (x : Rn) (q : Nat) (h : R[k]? = some x) : hasR (R.take (k + 1)) q = if x.f ≤ q ∧ q < x.t then x.r else hasR (R.take k) q := by
  unfold hasR
  rw [take_succ' R k x h, List.foldl_append]
  rfl
theorem hasR_byte {X : List Rg3} {R : List Rn} {m : Nat} (h : RunsOk X R m) (q : Nat) (hq : q < m) : hasR R q = byteX X q := by
  have key : ∀ k, k ≤ R.length → (hasR (R.take k) q = 0 ∧ (∀ i x, i < k → R[i]? = some x → ¬ (x.f ≤ q ∧ q < x.t))) ∨ (hasR (R.take k) q = byteX X q ∧ ∃ i x, i < k ∧ R[i]? = some x ∧ x.f ≤ q ∧ q < x.t) := by
    intro k
    induction k with
    | zero => intro _; exact .inl ⟨rfl, fun i x hi => absurd hi (by omega)⟩
    | succ k ih =>
      intro hk
      obtain ⟨x, hx⟩ : ∃ x, R[k]? = some x := ⟨_, List.getElem?_eq_getElem (by omega)⟩
      rw [hasR_succ R k x q hx]
      by_cases c : x.f ≤ q ∧ q < x.t
      · rw [if_pos c]
        exact .inr ⟨((h.each x (List.mem_of_getElem? hx)).2.2.2 q c.1 c.2).symm, k, x, by omega, hx, c⟩
      · rw [if_neg c]
        rcases ih (by omega) with ⟨h1, h2⟩ | ⟨h1, i, y, h2, h3⟩
        · refine .inl ⟨h1, fun i y hi hy => ?_⟩
          rcases Nat.lt_or_ge i k with hlt | hge
          · exact h2 i y hlt hy
          · have : i = k := by omega
            subst this
            rw [hx] at hy; injection hy with hy; subst hy; exact c
        · exact .inr ⟨h1, i, y, by omega, h3⟩
  have hfull : R.take R.length = R := List.take_length
  rcases key R.length (Nat.le_refl _) with ⟨h1, h2⟩ | ⟨h1, _⟩
  · rw [hfull] at h1
    rw [h1]
    apply Classical.byContradiction
    intro hne
    obtain ⟨y, hy, y1, y2⟩ := h.cov q hq (fun e => hne e.symm)
    obtain ⟨j, hj⟩ := List.getElem?_of_mem hy
    exact h2 j y (by have := (List.getElem?_eq_some_iff.1 hj).1; omega) hj ⟨y1, y2⟩
  · rw [hfull] at h1; exact h1
end Go.Proofs.L
