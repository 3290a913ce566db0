/- Proved here: lemmas and contracts (Args) for the laws of this seat, for all values of the stated types; no further condition. -/
import Derived.Test.YtaoocfemgkjcnaaDoorTwoWalk
import Derived.Test.YtaoocfemgkjcnaaDoorOpen
import Derived.LaidMore
open Go Go.RowKit Go.Lib Go.ChangeShapes Go.WideShapes Go.ChangeAt
namespace Go.Proofs.L
theorem chg_belowD {w w' : World} (h : Chg [] w w') : Below w.heap.size w w' :=
  h.below (by simp) (Nat.le_refl _)
theorem bytes_nums {W : World} {b o n : Nat} {S : Nat → Int} (hc : ∀ j, j < n → W.cell? ⟨b, o + j, none⟩ = some (.int .u8 (S j))) (hs : ∀ j, j < n → (Lit.int .u8 (S j)).wf = true) :
    BytesAt W b o ((List.range n).map fun j => (S j).toNat) := by
  intro j c hj
  rw [List.getElem?_map] at hj
  by_cases hn : j < n
  · rw [List.getElem?_range hn] at hj
    obtain rfl := Option.some.inj hj
    have h2 := wf_u8 (hs j hn)
    show W.cell? ⟨b, o + j, none⟩ = some (.int .u8 ((S j).toNat : Int)) ∧ (S j).toNat < 256
    refine ⟨?_, by omega⟩
    rw [hc j hn, Int.toNat_of_nonneg h2.1]
  · rw [List.getElem?_eq_none (by simp; omega)] at hj
    cases hj
theorem bytes_len (n : Nat) (S : Nat → Int) : ((List.range n).map fun j => (S j).toNat).length = n := by simp
theorem laid_size {W : World} (h : LaidOk W) : 0 < W.heap.size := World.block_lt_of_cell? W _ (h 0 _ rfl)
theorem cap_le {P : Program} {w : World} {r : Reach} {base : Nat} {t e : TypeId} {p : Option Addr} {n c : Nat} (ht : P.underlying t = some (.slice e)) (h : Value.okWide P w r base t (.slice p n c)) : n ≤ c := by
  unfold Value.okWide at h
  rw [ht] at h
  simp only [] at h
  unfold Cell.okWide at h
  rw [ht] at h
  simp only [] at h
  unfold Cell.ok at h
  rw [ht] at h
  match p, n, c, h with
  | none, 0, 0, _ => exact Nat.le_refl _
  | some a, _, _, h => exact h.1
end Go.Proofs.L
