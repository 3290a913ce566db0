/- Proved here: lemmas and contracts (NextCyc) for the laws of this seat, for all values of the stated types; no further condition. -/
import Derived.Test.YtonddkmncfjhoaaCyc
import Derived.Test.YtonddkmncfjhoaaSet
open Go Go.RowKit Go.Lib
namespace Go.Proofs.L
def rB (f : Nat → Sta) : Nat → Bool := fun i => decide ((f i).s = 0)
theorem nextT_next {f n t t'} (h : NextT f n t t') : (∃ m : Nat, nextN (rB f) n t = some m ∧ t' = m) ∨ (nextN (rB f) n t = none ∧ t' = -1) := by
  have key : ∀ (g : Nat → Nat) (m : Nat) (k : Nat), k < m → (∀ j, j < k → rB f (g j) = false) → rB f (g k) = true → ((List.range m).map g).find? (rB f) = some (g k) := by
    intro g m
    induction m generalizing g with
    | zero => intro k hk; omega
    | succ m ih =>
      intro k hk hno hz
      rw [List.range_succ_eq_map, List.map_cons, List.find?_cons]
      cases k with
      | zero => rw [hz]
      | succ k =>
        rw [hno 0 (by omega), List.map_map]
        exact ih (g ∘ Nat.succ) k (by omega) (fun j hj => hno (j + 1) (by omega)) hz
  rcases h with ⟨k, hk, hno, hz, rfl⟩ | ⟨hno, rfl⟩
  · refine .inl ⟨(t + k + 1) % n, ?_, rfl⟩
    exact key (fun k => (t + k + 1) % n) n k hk (fun j hj => by simpa [rB] using hno j hj) (by simpa [rB] using hz)
  · refine .inr ⟨?_, rfl⟩
    unfold nextN
    rw [List.find?_eq_none]
    intro x hx
    obtain ⟨k, hk, rfl⟩ := List.mem_map.1 hx
    simpa [rB] using hno k (List.mem_range.1 hk)
end Go.Proofs.L
