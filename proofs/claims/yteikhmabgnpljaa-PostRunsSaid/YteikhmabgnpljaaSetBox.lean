/- Proved here: lemmas and contracts (SetBox) for the laws of this seat, for all values of the stated types; no further condition. -/
import Derived.Test.YteikhmabgnpljaaNewPo
open Go Go.RowKit Go.Lib Go.Conc
namespace Go.Proofs.L
theorem Po.setBox {w w' : World} {pb g cap : Nat} {C : List Nat} {B : List (List (Int × ByteArray))} (h : Po w pb g cap C B) (i : Nat) (hi : i < C.length) {L : List (Int × ByteArray)} (hb : BoxAt w' C[i] L) (hc : Chg [C[i]] w w') (hL : L.length ≤ 4) :
    Po w' pb g cap C (B.set i L) := by
  have hpb : pb ∉ [C[i]] := fun hm => h.apart.1 (by simp at hm; rw [hm]; exact List.getElem_mem hi)
  have hg : g ∉ [C[i]] := fun hm => h.apart.2 (by simp at hm; rw [hm]; exact List.getElem_mem hi)
  refine { h with row := ?_, inn := fun j hj => ?_, glt := Nat.lt_of_lt_of_le h.glt hc.size, len := by simp [h.len], box := fun j hj => ?_, small := fun M hM => ?_ }
  · rw [hc.row (row_lt h.row) hpb]; exact h.row
  · rw [cell_of_block (hc.block g h.glt hg)]; exact h.inn j hj
  · by_cases e : i = j
    · subst e
      have : i < B.length := by rw [h.len]; exact hi
      simpa [List.getD_eq_getElem?_getD, this] using hb
    · have hb' := h.box j hj
      rw [List.getD_eq_getElem?_getD] at hb' ⊢
      rw [List.getElem?_set_ne e]
      refine hb'.keep hc (fun hm => e ?_)
      simp at hm
      exact ((List.getElem_inj h.nd).1 hm).symm
  · rcases List.mem_or_eq_of_mem_set hM with hM | rfl
    · exact h.small M hM
    · exact hL
theorem Po.fp_set {C : List Nat} {i : Nat} (hi : i < C.length) (pb g : Nat) : C[i] ∈ fpP pb g C := by simp [fpP]
end Go.Proofs.L
