/- Proved here: lemmas and contracts (Lc1) for the laws of this seat, for all values of the stated types; no further condition. -/
import Derived.Test.YtjbplncpcgfaoaaLk5c
import Derived.Laws.BytesArg
open Go Go.RowKit Go.Lib Go.Maps
namespace Go.Proofs.L
attribute [local irreducible] wpT
/-! LinkCalls, the plain law: the objects of the law are linked without an error; which symbol is which -/
def nmC (i : Nat) : ByteArray := strOfNums [(97 + i : Nat)]
def stC : Df := ⟨startB, 0, 0⟩
def dfsC (i : Nat) : List Df := ⟨nmC i, 0, 4⟩ :: if i = 0 then [stC] else []
def rfsC (n i : Nat) : List Rf := [⟨0, 0, 1, nmC ((i + 1) % n), i⟩]
structure ShC (n : Nat) (C D : List (List Nat)) (i : Nat) (s : Ob) : Prop where
  nc : s.nc = 4 + (C.getD i []).length
  Ce : s.C = [0, 0, 0, 0] ++ C.getD i []
  nd : s.nd = (D.getD i []).length
  De : s.D = D.getD i []
  z : s.z = 0
  F : s.F = dfsC i
  nf : s.nf = (dfsC i).length
  R : s.R = rfsC n i
  nr : s.nr = 1
/-- how far the code of the first i objects goes -/
def atC (C : List (List Nat)) (i : Nat) : Nat := ((List.range i).map fun j => 4 + (C.getD j []).length).sum
theorem atC_succ (C : List (List Nat)) (i : Nat) : atC C (i + 1) = atC C i + (4 + (C.getD i []).length) := by
  unfold atC; rw [List.range_succ, List.map_append, List.sum_append]; simp
def dtC (D : List (List Nat)) (i : Nat) : Nat := ((List.range i).map fun j => (D.getD j []).length).sum
theorem dtC_succ (D : List (List Nat)) (i : Nat) : dtC D (i + 1) = dtC D i + (D.getD i []).length := by
  unfold dtC; rw [List.range_succ, List.map_append, List.sum_append]; simp
theorem atC_mono (C : List (List Nat)) {i j : Nat} (h : i ≤ j) : atC C i + 4 * (j - i) ≤ atC C j := by
  obtain ⟨k, rfl⟩ : ∃ k, j = i + k := ⟨j - i, by omega⟩
  induction k with
  | zero => simp
  | succ k ih => rw [← Nat.add_assoc, atC_succ]; have := ih (by omega); omega
structure LsC (n : Nat) (C D : List (List Nat)) (L : List Ob) : Prop where
  len : L.length = n
  sh : ∀ i s, L[i]? = some s → ShC n C D i s
  n1 : 1 ≤ n
  n8 : n ≤ 8
  tot : atC C n + dtC D n ≤ 3000
  m4 : ∀ i, (C.getD i []).length % 4 = 0 ∧ (D.getD i []).length % 4 = 0
theorem sum0 {n : Nat} {C D : List (List Nat)} {L : List Ob} (h : LsC n C D L) : ∀ i, i ≤ n → sumO L 0 i = atC C i
  | 0, _ => by rw [sumO_zero]; rfl
  | i + 1, hi => by
    obtain ⟨s, hs⟩ : ∃ s, L[i]? = some s := ⟨_, List.getElem?_eq_getElem (by have := h.len; omega)⟩
    rw [sumO_succ hs, sum0 h i (by omega), atC_succ]
    have := (h.sh i s hs).nc
    simp [sizeO, this]
theorem sum1 {n : Nat} {C D : List (List Nat)} {L : List Ob} (h : LsC n C D L) : ∀ i, i ≤ n → sumO L 1 i = dtC D i
  | 0, _ => by rw [sumO_zero]; rfl
  | i + 1, hi => by
    obtain ⟨s, hs⟩ : ∃ s, L[i]? = some s := ⟨_, List.getElem?_eq_getElem (by have := h.len; omega)⟩
    rw [sumO_succ hs, sum1 h i (by omega), dtC_succ]
    have := (h.sh i s hs).nd
    simp [sizeO, this]
theorem sum2 {n : Nat} {C D : List (List Nat)} {L : List Ob} (h : LsC n C D L) : ∀ i, i ≤ n → sumO L 2 i = 0
  | 0, _ => by rw [sumO_zero]
  | i + 1, hi => by
    obtain ⟨s, hs⟩ : ∃ s, L[i]? = some s := ⟨_, List.getElem?_eq_getElem (by have := h.len; omega)⟩
    rw [sumO_succ hs, sum2 h i (by omega)]
    have := (h.sh i s hs).z
    simp [sizeO, this]
/-- names and values -/
def defsG (g : Nat → Nat) (n : Nat) : List (ByteArray × Nat) := (List.range n).flatMap fun j => (nmC j, g j + 4) :: if j = 0 then [(startB, g 0)] else []
def namesG (n : Nat) : List ByteArray := (List.range n).flatMap fun j => nmC j :: if j = 0 then [startB] else []
def numK : List ByteArray → ByteArray → Nat
  | [], _ => 0
  | t :: r, s => if t = s then 1 else if numK r s = 0 then 0 else numK r s + 1
theorem numP_K (s : ByteArray) : ∀ P : List (ByteArray × Nat), numP P s = numK (P.map (·.1)) s
  | [] => rfl
  | (t, x) :: P => by simp only [numP, List.map_cons, numK, numP_K s P]
theorem defsG_names (g : Nat → Nat) (n : Nat) : (defsG g n).map (·.1) = namesG n := by
  unfold defsG namesG
  rw [List.map_flatMap]
  congr 1
  funext j
  by_cases h : j = 0 <;> simp [h]
theorem defsP_G {n : Nat} {C D : List (List Nat)} {L : List Ob} (h : LsC n C D L) : ∀ i, i ≤ n → defsP L i = defsG (fun j => 256 + atC C j) i
  | 0, _ => by rw [defsP_zero]; rfl
  | i + 1, hi => by
    obtain ⟨s, hs⟩ : ∃ s, L[i]? = some s := ⟨_, List.getElem?_eq_getElem (by have := h.len; omega)⟩
    have e : defsG (fun j => 256 + atC C j) (i + 1) = defsG (fun j => 256 + atC C j) i ++ ((nmC i, 256 + atC C i + 4) :: if i = 0 then [(startB, 256 + atC C 0)] else []) := by
      unfold defsG
      rw [List.range_succ, List.flatMap_append]; simp
    rw [defsP_succ hs, defsP_G h i (by omega), e]
    congr 1
    unfold defsI
    rw [List.take_of_length_le (Nat.le_refl _), (h.sh i s hs).F]
    have h0 := sum0 h i (by omega)
    by_cases hz : i = 0
    · subst hz
      simp [dfsC, stC, bsF, h0]
    · simp [dfsC, hz, bsF, h0]
theorem refsP_G {n : Nat} {C D : List (List Nat)} {L : List Ob} (P : List (ByteArray × Nat)) (h : LsC n C D L) : ∀ i, i ≤ n → refsP L P i = (List.range i).map fun j => ⟨256 + atC C j, 1, numP P (nmC ((j + 1) % n)), j⟩
  | 0, _ => by rw [refsP_zero]; rfl
  | i + 1, hi => by
    obtain ⟨s, hs⟩ : ∃ s, L[i]? = some s := ⟨_, List.getElem?_eq_getElem (by have := h.len; omega)⟩
    rw [refsP_succ hs, refsP_G P h i (by omega), List.range_succ, List.map_append]
    congr 1
    unfold refsI
    rw [List.take_of_length_le (Nat.le_refl _), (h.sh i s hs).R]
    have h0 := sum0 h i (by omega)
    simp [rfsC, bsF, h0]
def numG (i : Nat) : Nat := if i = 0 then 1 else i + 2
theorem names_num : ∀ n, n < 9 → ∀ i, i < n → numK (namesG n) (nmC i) = numG i := by decide +kernel
theorem names_start : ∀ n, n < 9 → 1 ≤ n → numK (namesG n) startB = 2 := by decide +kernel
theorem names_nodup : ∀ n, n < 9 → (namesG n).Nodup := by decide +kernel
theorem names_len : ∀ n, n < 9 → 1 ≤ n → (namesG n).length = n + 1 := by decide +kernel
theorem nmC_ne : ∀ i, i < 8 → nmC i ≠ ⟨#[]⟩ ∧ (nmC i).size ≤ 32 := by decide +kernel
theorem nmC_inj : ∀ i, i < 8 → ∀ j, j < 8 → nmC i = nmC j → i = j := by decide +kernel
theorem nmC_st : ∀ i, i < 8 → nmC i ≠ startB := by decide +kernel
theorem defsC {n : Nat} {C D : List (List Nat)} {L : List Ob} (h : LsC n C D L) : defsL L = defsG (fun j => 256 + atC C j) n := by
  unfold defsL; rw [h.len]; exact defsP_G h n (Nat.le_refl _)
theorem numC {n : Nat} {C D : List (List Nat)} {L : List Ob} (h : LsC n C D L) (s : ByteArray) : numP (defsL L) s = numK (namesG n) s := by
  rw [defsC h, numP_K, defsG_names]
theorem refsC {n : Nat} {C D : List (List Nat)} {L : List Ob} (h : LsC n C D L) : refsL L = (List.range n).map fun j => ⟨256 + atC C j, 1, numG ((j + 1) % n), j⟩ := by
  unfold refsL; rw [h.len, refsP_G _ h n (Nat.le_refl _)]
  apply List.map_congr_left
  intro j hj
  have := h.n1
  rw [numC h, names_num n (by have := h.n8; omega) _ (Nat.mod_lt _ (by omega))]
theorem err_C {n : Nat} {C D : List (List Nat)} {L : List Ob} (h : LsC n C D L) : errL L = 0 := by
  have hn1 := h.n1
  have hn8 := h.n8
  have hc := atC_mono C (Nat.zero_le n)
  have a0 : atC C 0 = 0 := rfl
  have hs0 := sum0 h n (Nat.le_refl _)
  have hs1 := sum1 h n (Nat.le_refl _)
  have hs2 := sum2 h n (Nat.le_refl _)
  have ht := h.tot
  have hcb : ∀ i, i < n → (C.getD i []).length + 4 ≤ atC C n := fun i hi => by
    have := atC_mono C (show i + 1 ≤ n by omega)
    rw [atC_succ] at this; omega
  have hdb : ∀ i, i < n → (D.getD i []).length ≤ dtC D n := fun i hi => by
    have key : ∀ k, i + 1 + k ≤ n → dtC D (i + 1) ≤ dtC D (i + 1 + k) := by
      intro k
      induction k with
      | zero => intro _; exact Nat.le_refl _
      | succ k ih => intro hk; rw [← Nat.add_assoc, dtC_succ D (i + 1 + k)]; have := ih (by omega); omega
    have := key (n - (i + 1)) (by omega)
    rw [show i + 1 + (n - (i + 1)) = n by omega, dtC_succ D i] at this
    omega
  have E1 : e1 L = false := by unfold e1; rw [decide_eq_false_iff_not, h.len]; omega
  have E2 : e2 L = false := by
    unfold e2
    rw [Bool.not_eq_false', List.all_eq_true]
    intro s hs
    obtain ⟨i, hi⟩ := List.mem_iff_getElem?.1 hs
    have hin : i < n := by rw [← h.len]; exact (List.getElem?_eq_some_iff.1 hi).1
    have q := h.sh i s hi
    have hcn := hcb i hin
    have hdn := hdb i hin
    obtain ⟨m1, m2⟩ := h.m4 i
    have hz0 : sizeO s 0 = 4 + (C.getD i []).length := by simp [sizeO, q.nc]
    have hnf : (dfsC i).length ≤ 2 := by unfold dfsC; split <;> simp
    unfold rightB
    rw [Bool.and_eq_true, Bool.and_eq_true]
    refine ⟨⟨?_, ?_⟩, ?_⟩
    · unfold baseB
      rw [decide_eq_true_eq, q.nc, q.nd, q.z, q.nf, q.nr]
      refine ⟨by omega, by omega, by omega, by omega, by omega, by omega, by omega, by omega⟩
    · rw [q.F, List.all_eq_true]
      intro d hd
      unfold dfsC at hd
      unfold dfB
      rw [decide_eq_true_eq]
      rcases List.mem_cons.1 hd with rfl | hd
      · exact ⟨(nmC_ne i (by omega)).1, (nmC_ne i (by omega)).2, by show (0:Int) ≤ 0; decide, by show (0:Int) ≤ 2; decide, by show 4 ≤ sizeO s 0; rw [hz0]; omega⟩
      · by_cases hz : i = 0
        · rw [if_pos hz, List.mem_singleton] at hd
          subst hd
          exact ⟨by decide +kernel, by decide +kernel, by decide, by decide, Nat.zero_le _⟩
        · rw [if_neg hz] at hd; cases hd
    · rw [q.R, List.all_eq_true]
      intro r hr
      unfold rfsC at hr
      rw [List.mem_singleton] at hr
      subst hr
      unfold rfB
      rw [decide_eq_true_eq]
      exact ⟨by show (0:Int) ≤ 0; decide, by show (0:Int) ≤ 1; decide, by show (1:Int) ≤ 1; decide, by show (1:Int) ≤ 255; decide, by show (1:Int) ≠ 3; decide, by show 0 + 4 ≤ sizeO s 0; rw [hz0]; omega⟩
  have E3 : e3 L = false := by unfold e3; rw [decide_eq_false_iff_not, h.len, hs0, hs1, hs2]; omega
  have E4 : e4 L = false := by
    unfold e4 nodupB
    rw [Bool.not_eq_false', decide_eq_true_eq, defsC h, defsG_names]
    exact names_nodup n (by omega)
  have E5 : e5 L = false := by
    unfold e5
    rw [Bool.not_eq_false', List.all_eq_true]
    intro s hs
    obtain ⟨i, hi⟩ := List.mem_iff_getElem?.1 hs
    rw [List.all_eq_true, (h.sh i s hi).R]
    intro r hr
    unfold rfsC at hr
    rw [List.mem_singleton] at hr
    subst hr
    rw [decide_eq_true_eq, numC h, names_num n (by omega) _ (Nat.mod_lt _ (by omega))]
    unfold numG; split <;> omega
  have E6 : e6 L = false := by unfold e6; rw [decide_eq_false_iff_not, numC h, names_start n (by omega) hn1]; decide
  have E7 : e7 L = false := by
    unfold e7
    rw [decide_eq_false_iff_not, refsC h]
    have : (defsL L).length = n + 1 := by
      rw [defsC h]
      have := congrArg List.length (defsG_names (fun j => 256 + atC C j) n)
      rw [List.length_map] at this
      rw [this, names_len n (by omega) hn1]
    rw [this, List.length_map, List.length_range]
    omega
  unfold errL
  rw [E1, E2, E3, E4, E5, E6, E7]
  rfl
/-- the value of a name's symbol -/
theorem sym_C {n : Nat} {C D : List (List Nat)} {L : List Ob} (h : LsC n C D L) {i : Nat} (hi : i < n) : (0 :: (defsL L).map (·.2))[numG i]? = some (256 + atC C i + 4) := by
  have hn8 := h.n8
  have h1 : numP (defsL L) (nmC i) = (numG i - 1) + 1 := by
    rw [numC h, names_num n (by omega) i hi]; unfold numG; split <;> omega
  obtain ⟨x, hx⟩ := numP_get h1
  have e : numG i = (numG i - 1) + 1 := by unfold numG; split <;> omega
  rw [e, List.getElem?_cons_succ, List.getElem?_map, hx]
  have hm := List.mem_of_getElem? hx
  rw [defsC h] at hm
  unfold defsG at hm
  rw [List.mem_flatMap] at hm
  obtain ⟨j, hj, hm⟩ := hm
  rw [List.mem_range] at hj
  rcases List.mem_cons.1 hm with hm | hm
  · obtain ⟨e1, e2⟩ := Prod.mk.inj hm
    obtain rfl := nmC_inj i (by omega) j (by omega) e1
    rw [e2]; rfl
  · by_cases hz : j = 0
    · rw [if_pos hz, List.mem_singleton] at hm
      exact absurd (Prod.mk.inj hm).1 (nmC_st i (by omega))
    · rw [if_neg hz] at hm; cases hm
end Go.Proofs.L
