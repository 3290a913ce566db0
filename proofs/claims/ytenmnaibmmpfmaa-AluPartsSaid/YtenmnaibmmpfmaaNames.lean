/- Proved here: lemmas and contracts (Names) for the laws of this seat, for all values of the stated types; no further condition. -/
import Derived.Test.YtenmnaibmmpfmaaLow
import Derived.OwnWalk
open Go Go.RowKit Go.Lib
namespace Go.Proofs.L
def strs : List ByteArray := [⟨#[]⟩, ⟨#[108, 117, 105]⟩, ⟨#[97, 117, 105, 112, 99]⟩, ⟨#[106, 97, 108]⟩, ⟨#[106, 97, 108, 114]⟩, ⟨#[98, 101, 113]⟩, ⟨#[98, 110, 101]⟩, ⟨#[98, 108, 116]⟩, ⟨#[98, 103, 101]⟩, ⟨#[98, 108, 116, 117]⟩, ⟨#[98, 103, 101, 117]⟩, ⟨#[108, 98]⟩, ⟨#[108, 104]⟩, ⟨#[108, 119]⟩, ⟨#[108, 98, 117]⟩, ⟨#[108, 104, 117]⟩, ⟨#[115, 98]⟩, ⟨#[115, 104]⟩, ⟨#[115, 119]⟩, ⟨#[97, 100, 100]⟩, ⟨#[115, 108, 116]⟩, ⟨#[115, 108, 116, 117]⟩, ⟨#[120, 111, 114]⟩, ⟨#[111, 114]⟩, ⟨#[97, 110, 100]⟩, ⟨#[115, 108, 108]⟩, ⟨#[115, 114, 108]⟩, ⟨#[115, 114, 97]⟩, ⟨#[97, 100, 100]⟩, ⟨#[115, 117, 98]⟩, ⟨#[115, 108, 108]⟩, ⟨#[115, 108, 116]⟩, ⟨#[115, 108, 116, 117]⟩, ⟨#[120, 111, 114]⟩, ⟨#[115, 114, 108]⟩, ⟨#[115, 114, 97]⟩, ⟨#[111, 114]⟩, ⟨#[97, 110, 100]⟩, ⟨#[109, 117, 108]⟩, ⟨#[109, 117, 108, 104]⟩, ⟨#[109, 117, 108, 104, 115, 117]⟩, ⟨#[109, 117, 108, 104, 117]⟩, ⟨#[100, 105, 118]⟩, ⟨#[100, 105, 118, 117]⟩, ⟨#[114, 101, 109]⟩, ⟨#[114, 101, 109, 117]⟩]
def namesC : Array Value := (strs.map Value.string).toArray
theorem names_any (w : World) : Calls Try.prog 29 #[] w fun e w' => e = .returned (.slice (some ⟨w.heap.size, 0, none⟩) 46 46) ∧ w' = w.alloc (.cells namesC 9) := by
  go_enter Try.func29, Try.ntmps29
  go_wp2
  go_ret
  exact ⟨rfl, rfl⟩
def nm (k : Nat) : ByteArray := strs.getD k ⟨#[]⟩
theorem name_in (k : Nat) (h1 : 1 ≤ k) (h2 : k < 46) (w : World) : Calls Try.prog 21 #[.int .i64 k] w fun e w' => e = .returned (.string (nm k)) ∧ Below w.heap.size w w' := by
  have hg : namesC[k]? = some (.string (nm k)) := by
    have : k < strs.length := h2
    simp [namesC, nm, this]
  have hd1 : decide ((k : Int) < 1) = false := by simp; omega
  have hd2 : decide ((k : Int) ≥ 46) = false := by simp; omega
  obtain ⟨W, hW⟩ : ∃ W, W = w.alloc (.cells namesC 9) := ⟨_, rfl⟩
  have c : W.cell? ⟨w.heap.size, k, none⟩ = some (.string (nm k)) := by rw [hW, row_cell (row_alloc_at w namesC 9 _ rfl), hg]
  have hB : Below w.heap.size w W := by rw [hW]; exact (Below.refl _ _).alloc (Nat.le_refl _) _
  go_enter Try.func21, Try.ntmps21
  go_wp2_with fail
  refine (names_any w).mono ?_
  rw [← hW]
  clear hW hg
  rintro e w1 ⟨rfl, rfl⟩
  go_wp2
  go_ret
  exact ⟨rfl, hB⟩
theorem name_out (k : Int) (h : k < 1 ∨ 46 ≤ k) (w : World) : Calls Try.prog 21 #[.int .i64 k] w fun e w' => e = .returned (.string ⟨#[]⟩) ∧ Below w.heap.size w w' := by
  obtain ⟨W, hW⟩ : ∃ W, W = w.alloc (.cells namesC 9) := ⟨_, rfl⟩
  have hB : Below w.heap.size w W := by rw [hW]; exact (Below.refl _ _).alloc (Nat.le_refl _) _
  by_cases hk : k < 1
  · have hd1 : decide (k < 1) = true := by simpa using hk
    go_enter Try.func21, Try.ntmps21
    go_wp2_with fail
    refine (names_any w).mono ?_
    rw [← hW]
    clear hW
    rintro e w1 ⟨rfl, rfl⟩
    go_wp2
    go_ret
    exact ⟨rfl, hB⟩
  · have hd1 : decide (k < 1) = false := by simpa using hk
    have hd2 : decide (k ≥ 46) = true := by simp; omega
    have hd3 : decide (46 ≤ k) = true := by simp; omega
    go_enter Try.func21, Try.ntmps21
    go_wp2_with fail
    refine (names_any w).mono ?_
    rw [← hW]
    clear hW
    rintro e w1 ⟨rfl, rfl⟩
    go_wp2
    go_ret
    exact ⟨rfl, hB⟩
end Go.Proofs.L
