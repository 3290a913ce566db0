/- Proved here: lemmas and contracts (Lk19) for the laws of this seat, for all values of the stated types; no further condition. -/
import Derived.Test.YtjbplncpcgfaoaaLk18
open Go Go.RowKit Go.Lib Go.Maps
namespace Go.Proofs.L
/-! where a section's bytes stand in a linked file (plain) -/
def secB (s : Ob) (z : Nat) : List Nat := if z = 0 then s.C else if z = 1 then s.D else List.replicate s.z 0
theorem split_at {α : Type} {L : List α} {q : Nat} {s : α} (h : L[q]? = some s) : L = L.take q ++ s :: L.drop (q + 1) := by
  have hq := (List.getElem?_eq_some_iff.1 h).1
  have hs : L[q] = s := (List.getElem?_eq_some_iff.1 h).2
  rw [← hs, ← List.drop_eq_getElem_cons hq, List.take_append_drop]
theorem codeB_app (A B : List Ob) : codeB (A ++ B) = codeB A ++ codeB B := by unfold codeB; rw [List.flatMap_append]
theorem dataB_app (A B : List Ob) : dataB (A ++ B) = dataB A ++ dataB B := by unfold dataB; rw [List.flatMap_append]
theorem codeB_cons (s : Ob) (B : List Ob) : codeB (s :: B) = s.C ++ codeB B := by unfold codeB; rw [List.flatMap_cons]
theorem dataB_cons (s : Ob) (B : List Ob) : dataB (s :: B) = s.D ++ dataB B := by unfold dataB; rw [List.flatMap_cons]
theorem code_at {w : World} {L : List Ob} (hA : ∀ s ∈ L, ObOk w s) {q : Nat} {s : Ob} (hs : L[q]? = some s) {j c : Nat} (hj : s.C[j]? = some c) : (codeB L)[sumO L 0 q + j]? = some c := by
  have hl := code_len hA q
  have e := congrArg codeB (split_at hs)
  rw [codeB_app, codeB_cons] at e
  rw [e, List.getElem?_append_right (by rw [hl]; omega), hl, Nat.add_sub_cancel_left, List.getElem?_append_left (List.getElem?_eq_some_iff.1 hj).1]
  exact hj
theorem data_at {w : World} {L : List Ob} (hA : ∀ s ∈ L, ObOk w s) {q : Nat} {s : Ob} (hs : L[q]? = some s) {j c : Nat} (hj : s.D[j]? = some c) : (dataB L)[sumO L 1 q + j]? = some c := by
  have hl := data_len hA q
  have e := congrArg dataB (split_at hs)
  rw [dataB_app, dataB_cons] at e
  rw [e, List.getElem?_append_right (by rw [hl]; omega), hl, Nat.add_sub_cancel_left, List.getElem?_append_left (List.getElem?_eq_some_iff.1 hj).1]
  exact hj
theorem sumO_mono (L : List Ob) (k : Int) {i j : Nat} (h : i ≤ j) : sumO L k i ≤ sumO L k j := by
  obtain ⟨d, rfl⟩ : ∃ d, j = i + d := ⟨j - i, by omega⟩
  induction d with
  | zero => exact Nat.le_refl _
  | succ d ih =>
    refine Nat.le_trans (ih (by omega)) ?_
    cases hs : L[i + d]? with
    | some s => rw [← Nat.add_assoc, sumO_succ hs]; exact Nat.le_add_right _ _
    | none =>
      have e : L.take (i + d + 1) = L.take (i + d) := by rw [List.take_add_one, hs]; simp
      unfold sumO
      rw [← Nat.add_assoc, e]
      exact Nat.le_refl _
theorem up_ge (n : Nat) : n ≤ upN n := by unfold upN; omega
theorem byte_sec {w : World} {L : List Ob} (hA : ∀ s ∈ L, ObOk w s) {q : Nat} {s : Ob} (hs : L[q]? = some s) (z : Nat) (hz : z ≤ 2) {j c : Nat} (hj : (secB s z)[j]? = some c) :
    byteN (codeB L) (dataB L) (bsF L 1) (sumO L 1 L.length + sumO L 2 L.length) (bsF L z + sumO L (z : Int) q + j) = c := by
  have hq := (List.getElem?_eq_some_iff.1 hs).1
  have hok := hA s (List.mem_of_getElem? hs)
  have hcl := code_len hA L.length
  have hdl := data_len hA L.length
  rw [List.take_of_length_le (Nat.le_refl _)] at hcl hdl
  have hu := up_ge (256 + sumO L 0 L.length)
  unfold byteN
  match z, hz with
  | 0, _ =>
    have hj : s.C[j]? = some c := hj
    have h1 := code_at hA hs hj
    have h2 := (List.getElem?_eq_some_iff.1 h1).1
    show (if 256 ≤ 256 + sumO L 0 q + j ∧ 256 + sumO L 0 q + j - 256 < (codeB L).length then (codeB L).getD (256 + sumO L 0 q + j - 256) 0 else _) = c
    rw [if_pos (by omega), show 256 + sumO L 0 q + j - 256 = sumO L 0 q + j by omega, List.getD_eq_getElem?_getD, h1]
    rfl
  | 1, _ =>
    have hj : s.D[j]? = some c := hj
    have h1 := data_at hA hs hj
    have h2 := (List.getElem?_eq_some_iff.1 h1).1
    have hb : bsF L 1 = upN (256 + sumO L 0 L.length) := rfl
    show (if 256 ≤ bsF L 1 + sumO L 1 q + j ∧ bsF L 1 + sumO L 1 q + j - 256 < (codeB L).length then _ else if _ ∧ bsF L 1 ≤ bsF L 1 + sumO L 1 q + j ∧ bsF L 1 + sumO L 1 q + j - bsF L 1 < (dataB L).length then (dataB L).getD (bsF L 1 + sumO L 1 q + j - bsF L 1) 0 else 0) = c
    rw [if_neg (by omega), if_pos (by omega), show bsF L 1 + sumO L 1 q + j - bsF L 1 = sumO L 1 q + j by omega, List.getD_eq_getElem?_getD, h1]
    rfl
  | 2, _ =>
    have hj : (List.replicate s.z 0)[j]? = some c := hj
    have h3 : c = 0 := (List.mem_replicate.1 (List.mem_of_getElem? hj)).2
    have hb : bsF L 1 = upN (256 + sumO L 0 L.length) := rfl
    have hb2 : bsF L 2 = bsF L 1 + sumO L 1 L.length := rfl
    show (if 256 ≤ bsF L 2 + sumO L 2 q + j ∧ bsF L 2 + sumO L 2 q + j - 256 < (codeB L).length then _ else if _ ∧ bsF L 1 ≤ bsF L 2 + sumO L 2 q + j ∧ bsF L 2 + sumO L 2 q + j - bsF L 1 < (dataB L).length then _ else 0) = c
    rw [if_neg (by omega), if_neg (by omega), h3]
end Go.Proofs.L
