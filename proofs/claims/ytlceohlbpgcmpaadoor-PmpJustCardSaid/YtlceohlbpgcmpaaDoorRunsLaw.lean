/- Proved here: lemmas and contracts (RunsLaw) for the laws of this seat, for all values of the stated types; no further condition. -/
import Derived.Test.YtlceohlbpgcmpaaDoorSort
open Go Go.RowKit Go.Lib
namespace Go.Proofs.L
/-! runs of addresses with the same rights (plain law) -/
abbrev Rg3 := Nat × Nat × Int
def byteX : List Rg3 → Nat → Int
  | [], _ => 0
  | x :: l, at' => if x.1 ≤ at' ∧ at' < x.2.1 then x.2.2 else byteX l at'
def rgtX : List Rg3 → Nat → Nat → Int
  | [], _, _ => 0
  | x :: l, a, b => if x.1 ≤ a ∧ b ≤ x.2.1 then x.2.2 else rgtX l a b
theorem rgt_byte (X : List Rg3) (a b q : Nat) (hb : b ≤ 4294967296) (h : ∀ x ∈ X, ¬ (a < min x.1 4294967296 ∧ min x.1 4294967296 < b) ∧ ¬ (a < min x.2.1 4294967296 ∧ min x.2.1 4294967296 < b)) (h1 : a ≤ q) (h2 : q < b) : byteX X q = rgtX X a b := by
  induction X with
  | nil => rfl
  | cons x l ih =>
    obtain ⟨k1, k2⟩ := h x (by simp)
    have e : (x.1 ≤ q ∧ q < x.2.1) ↔ (x.1 ≤ a ∧ b ≤ x.2.1) := by
      constructor
      · rintro ⟨u, v⟩
        constructor <;> omega
      · rintro ⟨u, v⟩
        constructor <;> omega
    show (if x.1 ≤ q ∧ q < x.2.1 then x.2.2 else byteX l q) = if x.1 ≤ a ∧ b ≤ x.2.1 then x.2.2 else rgtX l a b
    rw [ih (fun y hy => h y (by simp [hy]))]
    by_cases c : x.1 ≤ a ∧ b ≤ x.2.1
    · rw [if_pos c, if_pos (e.2 c)]
    · rw [if_neg c, if_neg (fun hh => c (e.1 hh))]
structure Rn where
  f : Nat
  t : Nat
  r : Int
  deriving DecidableEq, Inhabited
def stepR (R : List Rn) (a b : Nat) (r : Int) : List Rn :=
  if a = b ∨ r = 0 then R
  else if ∃ x, R.getLast? = some x ∧ x.t = a ∧ x.r = r then R.dropLast ++ [⟨(R.getLast?.getD default).f, b, r⟩]
  else R ++ [⟨a, b, r⟩]
def farR (x y : Rn) : Prop := x.t ≤ y.f ∧ (x.t = y.f → x.r ≠ y.r)
structure RunsOk (X : List Rg3) (R : List Rn) (m : Nat) : Prop where
  each : ∀ x ∈ R, x.f < x.t ∧ x.t ≤ m ∧ x.r ≠ 0 ∧ ∀ q, x.f ≤ q → q < x.t → byteX X q = x.r
  pw : R.Pairwise farR
  cov : ∀ q, q < m → byteX X q ≠ 0 → ∃ x ∈ R, x.f ≤ q ∧ q < x.t
theorem RunsOk.nil (X : List Rg3) : RunsOk X [] 0 := ⟨by simp, List.Pairwise.nil, fun q h => absurd h (by omega)⟩
theorem RunsOk.step {X : List Rg3} {R : List Rn} {a b : Nat} {r : Int} (h : RunsOk X R a) (hab : a ≤ b) (hr : ∀ q, a ≤ q → q < b → byteX X q = r) : RunsOk X (stepR R a b r) b := by
  unfold stepR
  by_cases c1 : a = b ∨ r = 0
  · rw [if_pos c1]
    refine ⟨fun x hx => ?_, h.pw, fun q hq hne => ?_⟩
    · obtain ⟨e1, e2, e3, e4⟩ := h.each x hx
      exact ⟨e1, by omega, e3, e4⟩
    · by_cases hqa : q < a
      · exact h.cov q hqa hne
      · have := hr q (by omega) hq
        rcases c1 with rfl | rfl
        · omega
        · exact absurd this hne
  · rw [if_neg c1]
    have hab2 : a < b := by omega
    have hr0 : r ≠ 0 := fun e => c1 (.inr e)
    by_cases c2 : ∃ x, R.getLast? = some x ∧ x.t = a ∧ x.r = r
    · rw [if_pos c2]
      obtain ⟨l, hl, ht, hrr⟩ := c2
      obtain ⟨R', rfl⟩ : ∃ R', R = R' ++ [l] := by
        obtain ⟨R', hR⟩ := List.getLast?_eq_some_iff.1 hl
        exact ⟨R', hR⟩
      rw [hl, List.dropLast_concat]
      simp only [Option.getD_some]
      obtain ⟨e1, e2, e3, e4⟩ := h.each l (by simp)
      have hpw := h.pw
      rw [List.pairwise_append] at hpw
      refine ⟨fun x hx => ?_, ?_, fun q hq hne => ?_⟩
      · rw [List.mem_append, List.mem_singleton] at hx
        rcases hx with hx | rfl
        · obtain ⟨k1, k2, k3, k4⟩ := h.each x (by simp [hx])
          exact ⟨k1, by omega, k3, k4⟩
        · refine ⟨by show l.f < b; omega, Nat.le_refl _, hr0, fun q q1 q2 => ?_⟩
          by_cases hqa : q < a
          · show byteX X q = r
            rw [← hrr]; exact e4 q q1 (by omega)
          · exact hr q (by omega) q2
      · rw [List.pairwise_append]
        refine ⟨hpw.1, List.pairwise_singleton _ _, fun x hx y hy => ?_⟩
        simp only [List.mem_singleton] at hy
        subst hy
        have := hpw.2.2 x hx l (by simp)
        unfold farR at this ⊢
        simp only []
        rw [← hrr]; exact this
      · by_cases hqa : q < a
        · obtain ⟨x, hx, k1, k2⟩ := h.cov q hqa hne
          rw [List.mem_append, List.mem_singleton] at hx
          rcases hx with hx | rfl
          · exact ⟨x, by simp [hx], k1, k2⟩
          · exact ⟨⟨x.f, b, r⟩, by simp, k1, by show q < b; omega⟩
        · exact ⟨⟨l.f, b, r⟩, by simp, by show l.f ≤ q; omega, hq⟩
    · rw [if_neg c2]
      refine ⟨fun x hx => ?_, ?_, fun q hq hne => ?_⟩
      · rw [List.mem_append, List.mem_singleton] at hx
        rcases hx with hx | rfl
        · obtain ⟨k1, k2, k3, k4⟩ := h.each x hx
          exact ⟨k1, by omega, k3, k4⟩
        · exact ⟨hab2, Nat.le_refl _, hr0, hr⟩
      · rw [List.pairwise_append]
        refine ⟨h.pw, List.pairwise_singleton _ _, fun x hx y hy => ?_⟩
        simp only [List.mem_singleton] at hy
        subst hy
        obtain ⟨k1, k2, k3, k4⟩ := h.each x hx
        refine ⟨k2, fun e hrr => c2 ?_⟩
        rcases List.eq_nil_or_concat R with rfl | ⟨R', l, rfl⟩
        · simp at hx
        · have hpw := h.pw
          rw [List.concat_eq_append] at hpw hx ⊢
          rw [List.pairwise_append] at hpw
          simp only [List.mem_append, List.mem_singleton] at hx
          rcases hx with hx | rfl
          · have h1 := (hpw.2.2 x hx l (by simp)).1
            obtain ⟨l1, l2, -, -⟩ := h.each l (by simp)
            simp only [] at e
            omega
          · exact ⟨x, by simp, e, hrr⟩
      · by_cases hqa : q < a
        · obtain ⟨x, hx, k1, k2⟩ := h.cov q hqa hne
          exact ⟨x, by simp [hx], k1, k2⟩
        · exact ⟨⟨a, b, r⟩, by simp, by show a ≤ q; omega, hq⟩
/-- the runs after k marks -/
def runsTo (X : List Rg3) (M : List Nat) : Nat → List Rn
  | 0 => []
  | k + 1 => stepR (runsTo X M k) (M.getD k 0) (M.getD (k + 1) 0) (rgtX X (M.getD k 0) (M.getD (k + 1) 0))
def marksOk (X : List Rg3) (M : List Nat) : Prop := ∀ q, q ∈ M ↔ q = 0 ∨ q = 4294967296 ∨ ∃ x ∈ X, q = min x.1 4294967296 ∨ q = min x.2.1 4294967296
theorem runs_ok (X : List Rg3) (M : List Nat) (hs : SortTo M M.length) (hm : marksOk X M) (k : Nat) (hk : k < M.length) : RunsOk X (runsTo X M k) (M.getD k 0) := by
  induction k with
  | zero =>
    have h0 : M.getD 0 0 = 0 := by
      obtain ⟨j, hj, he⟩ := (mem_getD M 0).1 ((hm 0).2 (.inl rfl))
      rcases Nat.eq_zero_or_pos j with rfl | hp
      · exact he
      · have := hs 0 j hp hj; omega
    rw [h0]
    exact RunsOk.nil X
  | succ k ih =>
    have hle : ∀ q ∈ M, q ≤ 4294967296 := fun q hq => by
      rcases (hm q).1 hq with rfl | rfl | ⟨x, _, h | h⟩ <;> omega
    have hb : M.getD (k + 1) 0 ≤ 4294967296 := hle _ ((mem_getD M _).2 ⟨k + 1, hk, rfl⟩)
    refine (ih (by omega)).step (hs k (k + 1) (by omega) hk) (fun q h1 h2 => rgt_byte X _ _ q hb (fun x hx => ?_) h1 h2)
    have key : ∀ z, z ∈ M → ¬ (M.getD k 0 < z ∧ z < M.getD (k + 1) 0) := fun z hz ⟨z1, z2⟩ => by
      obtain ⟨j, hj, rfl⟩ := (mem_getD M z).1 hz
      rcases Nat.lt_or_ge k j with hlt | hge
      · rcases Nat.lt_or_ge (k + 1) j with h3 | h3
        · have := hs (k + 1) j h3 hj; omega
        · have : j = k + 1 := by omega
          subst this; omega
      · rcases Nat.lt_or_ge j k with h3 | h3
        · have := hs j k h3 (by omega); omega
        · have : j = k := by omega
          subst this; omega
    exact ⟨key _ ((hm _).2 (.inr (.inr ⟨x, hx, .inl rfl⟩))), key _ ((hm _).2 (.inr (.inr ⟨x, hx, .inr rfl⟩)))⟩
theorem runs_all (X : List Rg3) (M : List Nat) (n : Nat) (hn : M.length = n + 1) (hs : SortTo M (n + 1)) (hm : marksOk X M) : RunsOk X (runsTo X M n) 4294967296 := by
  have h := runs_ok X M (by rw [hn]; exact hs) hm n (by omega)
  have hlast : M.getD n 0 = 4294967296 := by
    obtain ⟨j, hj, he⟩ := (mem_getD M _).1 ((hm 4294967296).2 (.inr (.inl rfl)))
    have hle : M.getD n 0 ≤ 4294967296 := by
      rcases (hm _).1 ((mem_getD M _).2 ⟨n, by omega, rfl⟩) with h | h | ⟨x, _, h | h⟩ <;> omega
    rcases Nat.lt_or_ge j n with h3 | h3
    · have := hs j n h3 (by omega); omega
    · have : j = n := by omega
      subst this; omega
  rw [hlast] at h
  exact h
end Go.Proofs.L
