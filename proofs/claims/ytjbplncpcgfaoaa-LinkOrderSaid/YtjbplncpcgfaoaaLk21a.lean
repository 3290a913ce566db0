/- Proved here: lemmas and contracts (Lk21a) for the laws of this seat, for all values of the stated types; no further condition. -/
import Derived.Test.YtjbplncpcgfaoaaLk17a
open Go Go.RowKit Go.Lib Go.Maps
namespace Go.Proofs.L
/-! a link's answer does not hang on the order of the objects (plain) -/
def namesO (L : List Ob) : List ByteArray := (L.map fun s => s.F.map (·.name)).flatten
theorem zip_fst {α β : Type} (f : α → List β) : ∀ (L : List α) (k : Nat), ((L.zipIdx k).map fun p => f p.1).flatten = (L.map f).flatten
  | [], k => rfl
  | a :: L, k => by
    rw [List.zipIdx_cons, List.map_cons, List.flatten_cons, zip_fst f L (k + 1)]
    rfl
theorem names_eq (L : List Ob) : (defsL L).map (·.1) = namesO L := by
  unfold defsL defsP namesO
  rw [List.take_of_length_le (Nat.le_refl _), List.map_flatten, List.map_map]
  have : (List.map (fun x : ByteArray × Nat => x.1) ∘ fun p : Ob × Nat => defsI L p.2 p.1 p.1.F.length) = fun p : Ob × Nat => p.1.F.map (·.name) := by
    funext p
    unfold defsI
    simp
  rw [show (List.map (List.map (fun x : ByteArray × Nat => x.1) ∘ fun p : Ob × Nat => defsI L p.2 p.1 p.1.F.length) L.zipIdx) = L.zipIdx.map (fun p : Ob × Nat => p.1.F.map (·.name)) by rw [this]]
  exact zip_fst (fun s : Ob => s.F.map (·.name)) L 0
def nrefsO (L : List Ob) : Nat := ((L.map fun s => s.R).flatten).length
theorem nrefs_eq (L : List Ob) : (refsL L).length = nrefsO L := by
  unfold refsL refsP nrefsO
  rw [List.take_of_length_le (Nat.le_refl _), ← zip_fst (fun s : Ob => s.R) L 0]
  rw [List.length_flatten, List.length_flatten, List.map_map, List.map_map]
  congr 1
  refine List.map_congr_left fun p _ => ?_
  show (refsI L (defsL L) p.2 p.1 p.1.R.length).length = p.1.R.length
  unfold refsI
  simp
theorem sumO_all (L : List Ob) (k : Int) : sumO L k L.length = (L.map (sizeO · k)).sum := by
  unfold sumO
  rw [List.take_of_length_le (Nat.le_refl _)]
theorem err_zero {L : List Ob} (h1 : 1 ≤ L.length ∧ L.length ≤ 16) (h2 : ∀ s ∈ L, rightB s = true) (h3 : sumO L 0 L.length + sumO L 1 L.length + sumO L 2 L.length ≤ 16384 ∧ 0 < sumO L 0 L.length) (h4 : nodupB (defsL L) = true)
    (h5 : ∀ s ∈ L, ∀ r ∈ s.R, numP (defsL L) r.name ≠ 0) (h6 : numP (defsL L) startB ≠ 0) (h7 : (defsL L).length ≤ 63 ∧ (refsL L).length ≤ 64) : errL L = 0 := by
  have a1 : e1 L = false := by unfold e1; exact decide_eq_false (by omega)
  have a2 : e2 L = false := by unfold e2; rw [Bool.not_eq_false']; exact List.all_eq_true.2 h2
  have a3 : e3 L = false := by unfold e3; exact decide_eq_false (by omega)
  have a4 : e4 L = false := by unfold e4; rw [h4]; rfl
  have a5 : e5 L = false := by
    unfold e5
    rw [Bool.not_eq_false']
    exact List.all_eq_true.2 fun s hs => List.all_eq_true.2 fun r hr => decide_eq_true (h5 s hs r hr)
  have a6 : e6 L = false := by unfold e6; exact decide_eq_false h6
  have a7 : e7 L = false := by unfold e7; exact decide_eq_false (by omega)
  unfold errL
  rw [a1, a2, a3, a4, a5, a6, a7]
  rfl
theorem perm_flatten {α : Type} {A B : List (List α)} (h : A.Perm B) : A.flatten.Perm B.flatten := by
  induction h with
  | nil => exact List.Perm.refl _
  | cons x _ ih => rw [List.flatten_cons, List.flatten_cons]; exact List.Perm.append_left _ ih
  | swap x y l =>
    rw [List.flatten_cons, List.flatten_cons, List.flatten_cons, List.flatten_cons, ← List.append_assoc, ← List.append_assoc]
    exact List.Perm.append_right _ List.perm_append_comm
  | trans _ _ h1 h2 => exact h1.trans h2
theorem perm_sum {A B : List Nat} (h : A.Perm B) : A.sum = B.sum := by
  induction h with
  | nil => rfl
  | cons x _ ih => rw [List.sum_cons, List.sum_cons, ih]
  | swap x y l => rw [List.sum_cons, List.sum_cons, List.sum_cons, List.sum_cons]; omega
  | trans _ _ h1 h2 => exact h1.trans h2
theorem err_perm {L L2 : List Ob} (hp : L.Perm L2) : (defsL L2).length = (defsL L).length ∧ (refsL L2).length = (refsL L).length ∧ (errL L = 0 → errL L2 = 0) := by
  have hn : (namesO L).Perm (namesO L2) := perm_flatten (hp.map _)
  have hd : (defsL L2).length = (defsL L).length := by
    have e : ∀ M : List Ob, (defsL M).length = (namesO M).length := fun M => by rw [← names_eq, List.length_map]
    rw [e, e, hn.length_eq]
  have hr : (refsL L2).length = (refsL L).length := by
    rw [nrefs_eq, nrefs_eq]
    exact (perm_flatten (hp.map fun s : Ob => s.R)).symm.length_eq
  have hs : ∀ k : Int, sumO L2 k L2.length = sumO L k L.length := fun k => by
    rw [sumO_all, sumO_all]
    exact (perm_sum (hp.map fun s : Ob => sizeO s k)).symm
  have hm : ∀ s, numP (defsL L2) s ≠ 0 ↔ numP (defsL L) s ≠ 0 := fun s => by
    rw [numP_mem, numP_mem, names_eq, names_eq]
    exact hn.symm.mem_iff
  refine ⟨hd, hr, fun h => ?_⟩
  obtain ⟨b1, b2, b3, b4, b5, b6, b7, b8, b9, b10⟩ := err_bounds h
  refine err_zero ?_ (fun s hs => b3 s (hp.mem_iff.2 hs)) ?_ ?_ (fun s hs r hr => (hm _).2 (b7 s (hp.mem_iff.2 hs) r hr)) ((hm _).2 b8) (by rw [hd, hr]; exact ⟨b9, b10⟩)
  · rw [← hp.length_eq]; omega
  · rw [hs, hs, hs]; exact ⟨b4, b5⟩
  · unfold nodupB at b6 ⊢
    rw [decide_eq_true_eq] at b6 ⊢
    rw [names_eq] at b6 ⊢
    exact hn.nodup_iff.1 b6
theorem turn_perm (L : List Ob) (k : Nat) : L.Perm (L.drop k ++ L.take k) := by
  have h := List.take_append_drop k L
  conv => lhs; rw [← h]
  exact List.perm_append_comm
end Go.Proofs.L
