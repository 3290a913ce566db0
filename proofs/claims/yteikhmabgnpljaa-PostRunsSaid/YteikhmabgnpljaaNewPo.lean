/- Proved here: lemmas and contracts (NewPo) for the laws of this seat, for all values of the stated types; no further condition. -/
import Derived.Test.YteikhmabgnpljaaNew
open Go Go.RowKit Go.Lib Go.Conc
namespace Go.Proofs.L
theorem NewInv.po {w w' : World} {n : Nat} {v : Value} {C : List Nat} (h : NewInv w w' n v C) (h1 : 1 ≤ n) (h4 : n ≤ 4) : ∃ g cap, Po w' w.heap.size g cap C (List.replicate n []) := by
  rcases h.own.2 with ⟨-, hn⟩ | ⟨g, cap, cur, hv, hb, hgg, -⟩
  · omega
  refine ⟨g, cap, ?_⟩
  have hl := h.len
  have hcell := h.own.cells (g := g) (by rw [hv]; rfl)
  subst hl
  have hg : g < w'.heap.size := (Array.getElem?_eq_some_iff.1 hgg).1
  refine ⟨by rw [h.row, hv], fun i hi => ?_, hg, by simp, fun i hi => ?_, h.nd, h1, h4, by omega, ⟨fun hm => ?_, fun hm => ?_⟩, fun L hL => ?_⟩
  · have := hcell i (.chan (some C[i])) (by simp [chansC, hi])
    rw [show ((⟨g, 0, none⟩ : Addr).add i) = ⟨g, i, none⟩ by cases i <;> simp [Addr.add]] at this
    exact this
  · have := (h.box _ (List.getElem_mem hi)).1
    simpa [hi] using this
  · have := (h.box _ hm).2; omega
  · obtain ⟨s, r, hh⟩ := (h.box _ hm).1
    rw [hh] at hgg; cases hgg
  · obtain ⟨_, rfl⟩ := List.mem_replicate.1 hL
    simp
end Go.Proofs.L
