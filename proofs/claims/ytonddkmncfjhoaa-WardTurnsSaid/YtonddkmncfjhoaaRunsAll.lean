/- Proved here: lemmas and contracts (RunsAll) for the laws of this seat, for all values of the stated types; no further condition. -/
import Derived.Test.YtonddkmncfjhoaaRunsWalk
open Go Go.RowKit Go.Lib
namespace Go.Proofs.L
theorem runs_all (pe : Option Addr) (eb eo n ce : Nat) (E : Nat → Nat) (hpe : 0 < n → pe = some ⟨eb, eo, none⟩) (p : Option Addr) (b o m c : Nat) (w : World) (hcell : ∀ k, k < n → w.cell? ⟨eb, eo + k, none⟩ = some (.int .u32 (E k : Int)))
    (hp : 0 < m → p = some ⟨b, o, none⟩) (hcalls : CallsAt w b o m) : Calls Try.prog 3 #[.slice pe n ce, .slice p m c] w fun e w' => e = .returned (.bool true) ∧ Below w.heap.size w w' := by
  by_cases h : 200 < m ∨ 20 < n
  · exact runs_long pe n ce p m c h w
  · by_cases hn : n < 1 ∨ 4 < n
    · exact runs_bad pe n ce p m c (by omega) (by omega) hn w
    · exact runs_walk pe eb eo n ce E p b o m c (by omega) (by omega) (by omega) w (hpe (by omega)) hcell hp hcalls
end Go.Proofs.L
