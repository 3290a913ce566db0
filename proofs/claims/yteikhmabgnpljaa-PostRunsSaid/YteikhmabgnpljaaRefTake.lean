/- Proved here: lemmas and contracts (RefTake) for the laws of this seat, for all values of the stated types; no further condition. -/
import Derived.Test.YteikhmabgnpljaaRefSend
open Go Go.RowKit Go.Lib Go.Conc
namespace Go.Proofs.L
theorem rtake_out {w rb rg V B} (h : Rp w rb rg V B) (i : Int) (hi : ¬ (0 ≤ i ∧ i < V.length)) :
    Calls Try.prog 12 #[.pointer (some ⟨rb, 0, none⟩), .int .i64 i] w fun e w' => e = .returned (.tuple #[zV, .int .i64 1]) ∧ Chg [] w w' := by
  have c0 := h.c0
  have hlt := row_lt h.row
  obtain ⟨n, hn⟩ : ∃ n, n = V.length := ⟨_, rfl⟩
  rw [← hn] at c0 hi
  clear h hn
  by_cases h0 : i < 0
  · have d0 : decide (i < 0) = true := by simpa using h0
    go_enter Try.func12, Try.ntmps12
    go_wp2
    refine bodyPost_ret (v := .tuple #[zV, .int .i64 1]) (by rw [results_cell_tmp rfl]; unfold zV; go_simp; done) rfl ?_
    exact ⟨rfl, (Chg.refl _ _).alloc _⟩
  · have d0 : decide (i < 0) = false := by simpa using h0
    have d1 : decide ((n : Int) ≤ i) = true := by simp; omega
    have d2 : decide (i ≥ (n : Int)) = true := by simp; omega
    go_enter Try.func12, Try.ntmps12
    go_wp2
    refine bodyPost_ret (v := .tuple #[zV, .int .i64 1]) (by rw [results_cell_tmp rfl]; unfold zV; go_simp; done) rfl ?_
    exact ⟨rfl, (Chg.refl _ _).alloc _⟩
theorem rtake_em {w rb rg V B} (h : Rp w rb rg V B) (i : Nat) (hi : i < V.length) (hl : B.getD i [] = []) :
    Calls Try.prog 12 #[.pointer (some ⟨rb, 0, none⟩), .int .i64 i] w fun e w' => e = .returned (.tuple #[zV, .int .i64 17]) ∧ Chg [] w w' := by
  have c0 := h.c0
  have ci := h.ci i hi
  have hlt := row_lt h.row
  have hlt2 := row_lt h.inn
  obtain ⟨p, cap, hv, -⟩ := (h.win i hi).form
  rw [hv, hl] at ci
  obtain ⟨n, hn⟩ : ∃ n, n = V.length := ⟨_, rfl⟩
  rw [← hn] at c0 hi
  clear h hn hl hv
  simp only [List.length_nil] at ci
  have d0 : decide ((i : Int) < 0) = false := by simp
  have d1 : decide ((n : Int) ≤ i) = false := by simp; omega
  have d2 : decide ((i : Int) ≥ (n : Int)) = false := by simp; omega
  go_enter Try.func12, Try.ntmps12
  go_wp2
  refine bodyPost_ret (v := .tuple #[zV, .int .i64 17]) (by rw [results_cell_tmp rfl]; unfold zV; go_simp; done) rfl ?_
  exact ⟨rfl, (Chg.refl _ _).alloc _⟩
end Go.Proofs.L
