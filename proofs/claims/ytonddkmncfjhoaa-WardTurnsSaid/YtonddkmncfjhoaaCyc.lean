/- Proved here: lemmas and contracts (Cyc) for the laws of this seat, for all values of the stated types; no further condition. -/
import Derived.KernelRfl
namespace Go.Proofs.L
/-- from t on, around -/
def cyc (t n : Nat) : List Nat := (List.range n).map fun k => (t + k) % n
def rlN (r : Nat → Bool) (n t : Nat) : List Nat := (cyc t n).filter r
def nextN (r : Nat → Bool) (n t : Nat) : Option Nat := ((List.range n).map fun k => (t + k + 1) % n).find? r
def rOf (a b c d : Bool) : Nat → Bool
  | 0 => a
  | 1 => b
  | 2 => c
  | _ => d
def passB (r : Nat → Bool) (n t : Nat) : Bool := !r t || ((rlN r n t).head? == some t && (match nextN r n t with
  | some t' => (rlN r n t' == (rlN r n t).tail ++ [t]) && decide (t' < n) && r t'
  | none => false))
def cut1 (r : Nat → Bool) (t : Nat) : Nat → Bool := fun i => r i && i != t
def endB (r : Nat → Bool) (n t : Nat) : Bool := !r t || (match nextN (cut1 r t) n t with
  | some t' => (rlN (cut1 r t) n t' == (rlN r n t).tail) && decide (t' < n) && cut1 r t t'
  | none => (rlN r n t).tail == [] && (List.range n).all fun i => !cut1 r t i)
theorem pass_tab : ∀ n, n < 5 → ∀ t, t < n → ∀ a b c d, passB (rOf a b c d) n t = true := by decide
theorem end_tab : ∀ n, n < 5 → ∀ t, t < n → ∀ a b c d, endB (rOf a b c d) n t = true := by decide
theorem rOf_eq (r : Nat → Bool) : ∀ i, i < 4 → rOf (r 0) (r 1) (r 2) (r 3) i = r i := by
  intro i hi
  have : i = 0 ∨ i = 1 ∨ i = 2 ∨ i = 3 := by omega
  rcases this with rfl | rfl | rfl | rfl <;> rfl
theorem mod_lt4 {n : Nat} (h : n < 5) (h0 : 0 < n) (x : Nat) : x % n < 4 := by have := Nat.mod_lt x h0; omega
theorem rlN_congr {r q : Nat → Bool} {n : Nat} (hn : n < 5) (h : ∀ i, i < 4 → r i = q i) (t : Nat) : rlN r n t = rlN q n t := by
  unfold rlN
  apply List.filter_congr
  intro i hi
  unfold cyc at hi
  obtain ⟨k, hk, rfl⟩ := List.mem_map.1 hi
  exact h _ (mod_lt4 hn (by have := List.mem_range.1 hk; omega) _)
theorem nextN_congr {r q : Nat → Bool} {n : Nat} (hn : n < 5) (h : ∀ i, i < 4 → r i = q i) (t : Nat) : nextN r n t = nextN q n t := by
  unfold nextN
  have : ∀ l : List Nat, (∀ i ∈ l, i < 4) → l.find? r = l.find? q := by
    intro l hl
    induction l with
    | nil => rfl
    | cons a l ih =>
      rw [List.find?_cons, List.find?_cons, h a (hl a (by simp)), ih fun i hi => hl i (by simp [hi])]
  apply this
  intro i hi
  obtain ⟨k, hk, rfl⟩ := List.mem_map.1 hi
  exact mod_lt4 hn (by have := List.mem_range.1 hk; omega) _
theorem pass_law (r : Nat → Bool) {n t : Nat} (hn : n < 5) (ht : t < n) (hr : r t = true) : ∃ rest t', rlN r n t = t :: rest ∧ nextN r n t = some t' ∧ rlN r n t' = rest ++ [t] ∧ t' < n ∧ r t' = true := by
  have h := pass_tab n hn t ht (r 0) (r 1) (r 2) (r 3)
  obtain ⟨q, hq⟩ : ∃ q, q = rOf (r 0) (r 1) (r 2) (r 3) := ⟨_, rfl⟩
  have e : ∀ i, i < 4 → q i = r i := by rw [hq]; exact rOf_eq r
  rw [← hq] at h
  unfold passB at h
  rw [e t (by omega), hr, rlN_congr hn e t, nextN_congr hn e t] at h
  simp only [Bool.not_true, Bool.false_or, Bool.and_eq_true, beq_iff_eq] at h
  obtain ⟨h1, h2⟩ := h
  cases hx : nextN r n t with
  | none => rw [hx] at h2; simp at h2
  | some t' =>
    rw [hx] at h2
    simp only [Bool.and_eq_true, beq_iff_eq, decide_eq_true_eq] at h2
    obtain ⟨⟨h3, h4⟩, h5⟩ := h2
    rw [rlN_congr hn e t'] at h3
    rw [e t' (by omega)] at h5
    cases hl : rlN r n t with
    | nil => rw [hl] at h1; simp at h1
    | cons x rest =>
      rw [hl] at h1 h3
      simp at h1
      subst h1
      exact ⟨rest, t', rfl, rfl, by simpa using h3, h4, h5⟩
theorem end_law (r : Nat → Bool) {n t : Nat} (hn : n < 5) (ht : t < n) (hr : r t = true) :
    (∃ t', nextN (cut1 r t) n t = some t' ∧ rlN (cut1 r t) n t' = (rlN r n t).tail ∧ t' < n ∧ cut1 r t t' = true) ∨ (nextN (cut1 r t) n t = none ∧ (rlN r n t).tail = [] ∧ ∀ i, i < n → cut1 r t i = false) := by
  have h := end_tab n hn t ht (r 0) (r 1) (r 2) (r 3)
  obtain ⟨q, hq⟩ : ∃ q, q = rOf (r 0) (r 1) (r 2) (r 3) := ⟨_, rfl⟩
  have e : ∀ i, i < 4 → q i = r i := by rw [hq]; exact rOf_eq r
  have e2 : ∀ i, i < 4 → cut1 q t i = cut1 r t i := fun i hi => by unfold cut1; rw [e i hi]
  rw [← hq] at h
  unfold endB at h
  rw [e t (by omega), hr, rlN_congr hn e t, nextN_congr hn e2 t] at h
  simp only [Bool.not_true, Bool.false_or] at h
  cases hx : nextN (cut1 r t) n t with
  | none =>
    rw [hx] at h
    simp only [Bool.and_eq_true, beq_iff_eq, List.all_eq_true, List.mem_range, Bool.not_eq_true'] at h
    exact .inr ⟨rfl, h.1, fun i hi => by rw [← e2 i (by omega)]; exact h.2 i hi⟩
  | some t' =>
    rw [hx] at h
    simp only [Bool.and_eq_true, beq_iff_eq, decide_eq_true_eq] at h
    obtain ⟨⟨h3, h4⟩, h5⟩ := h
    rw [rlN_congr hn e2 t'] at h3
    rw [e2 t' (by omega)] at h5
    exact .inl ⟨t', rfl, h3, h4, h5⟩
end Go.Proofs.L
