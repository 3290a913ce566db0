/- Proved here: lemmas and contracts (Letters) for the laws of this seat, for all values of the stated types; no further condition. -/
import Derived.Test.YtdccfeideihmiaaDoorWordLaw
open Go Go.RowKit Go.Lib
namespace Go.Proofs.L
theorem letK : ∀ k, k < 57 → 1 ≤ k → codesL[k]? = some (wrdC k) ∧ wrdC k < 4294967296 ∧ wrdC k &&& maskN (frmL k) = wrdC k := by decide
theorem sx_sx (n y : Nat) (hn : n = 12 ∨ n = 13 ∨ n = 21) : sx n (sx n y) = sx n y := by
  have h : sx n y % 2 ^ n = y % 2 ^ n := by
    rcases hn with rfl | rfl | rfl <;> (unfold sx; simp only [Nat.reducePow, Nat.reduceSub]; split <;> omega)
  exact sx_mod n _ _ h
theorem form_I : ∀ k, k < 57 → frmL k = 73 → formN (k : Int) = 2 := by decide
theorem ent_I (k x : Nat) (i : I5) (hx : x < 4294967296) (hl : frmL k = 73) (h : entI k x i) : i = ⟨k, rdN x, rs1N x, 0, immI x⟩ := by
  obtain ⟨a, b, c, d, e⟩ := i
  obtain ⟨h1, h2, h3, h4, h5⟩ := h
  rw [hl] at h2 h3 h4 h5
  simp only [] at h1 h2 h3 h4 h5
  obtain rfl : a = k := h1
  obtain rfl : b = _ := h2
  obtain rfl : c = _ := h3
  obtain rfl : d = _ := h4
  obtain rfl : e = immI x := Int.ofNat_inj.1 (h5.trans (immI_law x hx).symm)
  rfl
theorem form_S : ∀ k, k < 57 → frmL k = 83 → formN (k : Int) = 4 := by decide
theorem ent_S (k x : Nat) (i : I5) (hx : x < 4294967296) (hl : frmL k = 83) (h : entI k x i) : i = ⟨k, 0, rs1N x, rs2N x, immS x⟩ := by
  obtain ⟨a, b, c, d, e⟩ := i
  obtain ⟨h1, h2, h3, h4, h5⟩ := h
  rw [hl] at h2 h3 h4 h5
  simp only [] at h1 h2 h3 h4 h5
  obtain rfl : a = k := h1
  obtain rfl : b = _ := h2
  obtain rfl : c = _ := h3
  obtain rfl : d = _ := h4
  obtain rfl : e = immS x := Int.ofNat_inj.1 (h5.trans (immS_law x hx).symm)
  rfl
theorem form_B : ∀ k, k < 57 → frmL k = 66 → formN (k : Int) = 3 := by decide
theorem ent_B (k x : Nat) (i : I5) (hx : x < 4294967296) (hl : frmL k = 66) (h : entI k x i) : i = ⟨k, 0, rs1N x, rs2N x, immB x⟩ := by
  obtain ⟨a, b, c, d, e⟩ := i
  obtain ⟨h1, h2, h3, h4, h5⟩ := h
  rw [hl] at h2 h3 h4 h5
  simp only [] at h1 h2 h3 h4 h5
  obtain rfl : a = k := h1
  obtain rfl : b = _ := h2
  obtain rfl : c = _ := h3
  obtain rfl : d = _ := h4
  obtain rfl : e = immB x := Int.ofNat_inj.1 (h5.trans (immB_law x hx).symm)
  rfl
theorem form_J : ∀ k, k < 57 → frmL k = 74 → formN (k : Int) = 1 := by decide
theorem ent_J (k x : Nat) (i : I5) (hx : x < 4294967296) (hl : frmL k = 74) (h : entI k x i) : i = ⟨k, rdN x, 0, 0, immJ x⟩ := by
  obtain ⟨a, b, c, d, e⟩ := i
  obtain ⟨h1, h2, h3, h4, h5⟩ := h
  rw [hl] at h2 h3 h4 h5
  simp only [] at h1 h2 h3 h4 h5
  obtain rfl : a = k := h1
  obtain rfl : b = _ := h2
  obtain rfl : c = _ := h3
  obtain rfl : d = _ := h4
  obtain rfl : e = immJ x := Int.ofNat_inj.1 (h5.trans (immJ_law x hx).symm)
  rfl
theorem form_U : ∀ k, k < 57 → frmL k = 85 → formN (k : Int) = 0 := by decide
theorem ent_U (k x : Nat) (i : I5) (hx : x < 4294967296) (hl : frmL k = 85) (h : entI k x i) : i = ⟨k, rdN x, 0, 0, immU x⟩ := by
  obtain ⟨a, b, c, d, e⟩ := i
  obtain ⟨h1, h2, h3, h4, h5⟩ := h
  rw [hl] at h2 h3 h4 h5
  simp only [] at h1 h2 h3 h4 h5
  obtain rfl : a = k := h1
  obtain rfl : b = _ := h2
  obtain rfl : c = _ := h3
  obtain rfl : d = _ := h4
  obtain rfl : e = immU x := Int.ofNat_inj.1 (h5.trans (immU_law x hx).symm)
  rfl
theorem form_R : ∀ k, k < 57 → frmL k = 82 → formN (k : Int) = 5 := by decide
theorem ent_R (k x : Nat) (i : I5) (hx : x < 4294967296) (hl : frmL k = 82) (h : entI k x i) : i = ⟨k, rdN x, rs1N x, rs2N x, 0⟩ := by
  obtain ⟨a, b, c, d, e⟩ := i
  obtain ⟨h1, h2, h3, h4, h5⟩ := h
  rw [hl] at h2 h3 h4 h5
  simp only [] at h1 h2 h3 h4 h5
  obtain rfl : a = k := h1
  obtain rfl : b = _ := h2
  obtain rfl : c = _ := h3
  obtain rfl : d = _ := h4
  obtain rfl : e = 0 := Int.ofNat_inj.1 (h5.trans (show immL 82 x % 4294967296 = ((0 : Nat) : Int) from rfl))
  rfl
theorem form_T : ∀ k, k < 57 → frmL k = 84 → formN (k : Int) = 6 := by decide
theorem ent_T (k x : Nat) (i : I5) (hx : x < 4294967296) (hl : frmL k = 84) (h : entI k x i) : i = ⟨k, rdN x, rs1N x, 0, x / 1048576 % 32⟩ := by
  obtain ⟨a, b, c, d, e⟩ := i
  obtain ⟨h1, h2, h3, h4, h5⟩ := h
  rw [hl] at h2 h3 h4 h5
  simp only [] at h1 h2 h3 h4 h5
  obtain rfl : a = k := h1
  obtain rfl : b = _ := h2
  obtain rfl : c = _ := h3
  obtain rfl : d = _ := h4
  obtain rfl : e = x / 1048576 % 32 := Int.ofNat_inj.1 (h5.trans (by show ((x / 1048576 % 32 : Nat) : Int) % 4294967296 = _; omega))
  rfl
theorem form_C : ∀ k, k < 57 → frmL k = 67 → formN (k : Int) = 8 := by decide
theorem ent_C (k x : Nat) (i : I5) (hx : x < 4294967296) (hl : frmL k = 67) (h : entI k x i) : i = ⟨k, rdN x, rs1N x, 0, x / 1048576 % 4096⟩ := by
  obtain ⟨a, b, c, d, e⟩ := i
  obtain ⟨h1, h2, h3, h4, h5⟩ := h
  rw [hl] at h2 h3 h4 h5
  simp only [] at h1 h2 h3 h4 h5
  obtain rfl : a = k := h1
  obtain rfl : b = _ := h2
  obtain rfl : c = _ := h3
  obtain rfl : d = _ := h4
  obtain rfl : e = x / 1048576 % 4096 := Int.ofNat_inj.1 (h5.trans (by show ((x / 1048576 % 4096 : Nat) : Int) % 4294967296 = _; omega))
  rfl
theorem form_Z : ∀ k, k < 57 → frmL k = 90 → formN (k : Int) = 9 := by decide
theorem ent_Z (k x : Nat) (i : I5) (hx : x < 4294967296) (hl : frmL k = 90) (h : entI k x i) : i = ⟨k, rdN x, rs1N x, 0, x / 1048576 % 4096⟩ := by
  obtain ⟨a, b, c, d, e⟩ := i
  obtain ⟨h1, h2, h3, h4, h5⟩ := h
  rw [hl] at h2 h3 h4 h5
  simp only [] at h1 h2 h3 h4 h5
  obtain rfl : a = k := h1
  obtain rfl : b = _ := h2
  obtain rfl : c = _ := h3
  obtain rfl : d = _ := h4
  obtain rfl : e = x / 1048576 % 4096 := Int.ofNat_inj.1 (h5.trans (by show ((x / 1048576 % 4096 : Nat) : Int) % 4294967296 = _; omega))
  rfl
theorem form_N : ∀ k, k < 57 → frmL k = 78 → formN (k : Int) = 7 := by decide
theorem ent_N (k x : Nat) (i : I5) (hx : x < 4294967296) (hl : frmL k = 78) (h : entI k x i) : i = ⟨k, 0, 0, 0, 0⟩ := by
  obtain ⟨a, b, c, d, e⟩ := i
  obtain ⟨h1, h2, h3, h4, h5⟩ := h
  rw [hl] at h2 h3 h4 h5
  simp only [] at h1 h2 h3 h4 h5
  obtain rfl : a = k := h1
  obtain rfl : b = _ := h2
  obtain rfl : c = _ := h3
  obtain rfl : d = _ := h4
  obtain rfl : e = 0 := Int.ofNat_inj.1 (h5.trans (show immL 78 x % 4294967296 = ((0 : Nat) : Int) from rfl))
  rfl
theorem form_F : ∀ k, k < 57 → frmL k = 70 → formN (k : Int) = 7 := by decide
theorem ent_F (k x : Nat) (i : I5) (hx : x < 4294967296) (hl : frmL k = 70) (h : entI k x i) : i = ⟨k, 0, 0, 0, 0⟩ := by
  obtain ⟨a, b, c, d, e⟩ := i
  obtain ⟨h1, h2, h3, h4, h5⟩ := h
  rw [hl] at h2 h3 h4 h5
  simp only [] at h1 h2 h3 h4 h5
  obtain rfl : a = k := h1
  obtain rfl : b = _ := h2
  obtain rfl : c = _ := h3
  obtain rfl : d = _ := h4
  obtain rfl : e = 0 := Int.ofNat_inj.1 (h5.trans (show immL 70 x % 4294967296 = ((0 : Nat) : Int) from rfl))
  rfl
theorem rdN_lt (x : Nat) : rdN x < 32 := Nat.mod_lt _ (by decide)
theorem rs1N_lt (x : Nat) : rs1N x < 32 := Nat.mod_lt _ (by decide)
theorem rs2N_lt (x : Nat) : rs2N x < 32 := Nat.mod_lt _ (by decide)
theorem sx_even (n y : Nat) (hn : n = 13 ∨ n = 21) (h : y % 2 = 0) : sx n y % 2 = 0 := by
  rcases hn with rfl | rfl <;> (unfold sx; simp only [Nat.reducePow, Nat.reduceSub]; split <;> omega)
theorem sx_lt (n y : Nat) (hn : n = 12 ∨ n = 13 ∨ n = 21) : sx n y < 4294967296 := by
  rcases hn with rfl | rfl | rfl <;> (unfold sx; simp only [Nat.reducePow, Nat.reduceSub]; split <;> omega)
end Go.Proofs.L
