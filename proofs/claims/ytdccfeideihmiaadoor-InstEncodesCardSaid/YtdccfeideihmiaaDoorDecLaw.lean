/- Proved here: lemmas and contracts (DecLaw) for the laws of this seat, for all values of the stated types; no further condition. -/
import Derived.Test.YtdccfeideihmiaaDoorListNums
import Derived.Test.YtdccfeideihmiaaDoorDecode
open Go Go.RowKit Go.Lib
namespace Go.Proofs.L
/-! what the document's list says of a word, against what Decode gives -/
def frmL (k : Nat) : Nat := (opsL.getD k (0, 0)).1
def maskN (c : Nat) : Nat := if c = 85 ∨ c = 74 then 127 else if c = 82 ∨ c = 84 then 4261441663 else if c = 78 then 4294967295 else 28799
def hasRd (c : Nat) : Bool := c == 85 || c == 74 || c == 73 || c == 82 || c == 84 || c == 67 || c == 90
def hasRs1 (c : Nat) : Bool := c == 73 || c == 66 || c == 83 || c == 82 || c == 84 || c == 67 || c == 90
def hasRs2 (c : Nat) : Bool := c == 66 || c == 83 || c == 82
def immL (c x : Nat) : Int :=
  if c = 73 then sgn 12 (x / 1048576 % 4096)
  else if c = 83 then sgn 12 ((x / 33554432 % 128) * 32 + (x / 128 % 32))
  else if c = 66 then sgn 13 ((x / 2147483648 % 2) * 4096 + (x / 128 % 2) * 2048 + (x / 33554432 % 64) * 32 + (x / 256 % 16) * 2)
  else if c = 74 then sgn 21 ((x / 2147483648 % 2) * 1048576 + (x / 4096 % 256) * 4096 + (x / 1048576 % 2) * 2048 + (x / 2097152 % 1024) * 2)
  else if c = 84 then ((x / 1048576 % 32 : Nat) : Int)
  else if c = 67 ∨ c = 90 then ((x / 1048576 % 4096 : Nat) : Int)
  else if c = 85 then sgn 32 (x / 4096 * 4096)
  else 0
def fitsK (x k : Nat) : Prop := x &&& maskN (frmL k) = wrdC k
theorem immI_law (x : Nat) (hx : x < 4294967296) : ((immI x : Nat) : Int) = sgn 12 (x / 1048576 % 4096) % 4294967296 := by
  unfold immI sx sgn
  rw [show x / 1048576 % 2 ^ 12 = x / 1048576 % 4096 from rfl]
  have hy : x / 1048576 % 4096 < 4096 := by omega
  generalize x / 1048576 % 4096 = y at *
  split <;> split <;> omega
theorem immS_law (x : Nat) (hx : x < 4294967296) : ((immS x : Nat) : Int) = sgn 12 ((x / 33554432 % 128) * 32 + (x / 128 % 32)) % 4294967296 := by
  have e : (x / 33554432 * 32 + x / 128 % 32) % 2 ^ 12 = (x / 33554432 % 128) * 32 + (x / 128 % 32) := by omega
  unfold immS sx sgn
  rw [e]
  have hy : (x / 33554432 % 128) * 32 + (x / 128 % 32) < 4096 := by omega
  generalize (x / 33554432 % 128) * 32 + (x / 128 % 32) = y at *
  split <;> split <;> omega
theorem sx13n (z : Nat) : sx 13 z = if z % 8192 < 4096 then z % 8192 else z % 8192 + 4294959104 := rfl
theorem sx21n (z : Nat) : sx 21 z = if z % 2097152 < 1048576 then z % 2097152 else z % 2097152 + 4292870144 := rfl
theorem sgn13n (y : Nat) : sgn 13 y = if y / 4096 = 1 then (y : Int) - 8192 else y := rfl
theorem sgn21n (y : Nat) : sgn 21 y = if y / 1048576 = 1 then (y : Int) - 2097152 else y := rfl
theorem sx_sgn13 (z y : Nat) (h : z % 8192 = y) : ((sx 13 z : Nat) : Int) = sgn 13 y % 4294967296 := by
  rw [sx13n, sgn13n, h]
  have : y < 8192 := by omega
  split <;> split <;> omega
theorem sx_sgn21 (z y : Nat) (h : z % 2097152 = y) : ((sx 21 z : Nat) : Int) = sgn 21 y % 4294967296 := by
  rw [sx21n, sgn21n, h]
  have : y < 2097152 := by omega
  split <;> split <;> omega
theorem immB_law (x : Nat) (hx : x < 4294967296) : ((immB x : Nat) : Int) = sgn 13 ((x / 2147483648 % 2) * 4096 + (x / 128 % 2) * 2048 + (x / 33554432 % 64) * 32 + (x / 256 % 16) * 2) % 4294967296 :=
  sx_sgn13 _ _ (by omega)
theorem immJ_law (x : Nat) (hx : x < 4294967296) : ((immJ x : Nat) : Int) = sgn 21 ((x / 2147483648 % 2) * 1048576 + (x / 4096 % 256) * 4096 + (x / 1048576 % 2) * 2048 + (x / 2097152 % 1024) * 2) % 4294967296 :=
  sx_sgn21 _ _ (by omega)
theorem immU_law (x : Nat) (hx : x < 4294967296) : ((immU x : Nat) : Int) = sgn 32 (x / 4096 * 4096) % 4294967296 := by
  unfold immU sgn
  have hy : x / 4096 * 4096 < 4294967296 := by omega
  generalize x / 4096 * 4096 = y at *
  split <;> omega
/-- what entry k of the list makes of x -/
def entI (k x : Nat) (i : I5) : Prop := i.op = k ∧ i.rd = (if hasRd (frmL k) then rdN x else 0) ∧ i.rs1 = (if hasRs1 (frmL k) then rs1N x else 0) ∧ i.rs2 = (if hasRs2 (frmL k) then rs2N x else 0) ∧ (i.imm : Int) = immL (frmL k) x % 4294967296
theorem dl_1 (x : Nat) (hx : x < 4294967296) (h : x &&& 127 = 55) : entI 1 x (decN x) := by
  rw [show (127 : Nat) = 2 ^ 7 - 1 from rfl, and_low] at h
  have hlo : x % 128 = 55 := h
  have e : decN x = ⟨1, rdN x, 0, 0, immU x⟩ := by
    unfold decN
    simp [hlo, ofI]
  rw [e]
  exact ⟨rfl, rfl, rfl, rfl, immU_law x hx⟩
theorem dl_2 (x : Nat) (hx : x < 4294967296) (h : x &&& 127 = 23) : entI 2 x (decN x) := by
  rw [show (127 : Nat) = 2 ^ 7 - 1 from rfl, and_low] at h
  have hlo : x % 128 = 23 := h
  have e : decN x = ⟨2, rdN x, 0, 0, immU x⟩ := by
    unfold decN
    simp [hlo, ofI]
  rw [e]
  exact ⟨rfl, rfl, rfl, rfl, immU_law x hx⟩
theorem dl_3 (x : Nat) (hx : x < 4294967296) (h : x &&& 127 = 111) : entI 3 x (decN x) := by
  rw [show (127 : Nat) = 2 ^ 7 - 1 from rfl, and_low] at h
  have hlo : x % 128 = 111 := h
  have e : decN x = ⟨3, rdN x, 0, 0, immJ x⟩ := by
    unfold decN
    simp [hlo, ofI]
  rw [e]
  exact ⟨rfl, rfl, rfl, rfl, immJ_law x hx⟩
theorem dl_4 (x : Nat) (hx : x < 4294967296) (h : x &&& 28799 = 103) : entI 4 x (decN x) := by
  rw [and_707F] at h
  have hlo : x % 128 = 103 := by omega
  have hf : f3N x = 0 := by unfold f3N; omega
  have e : decN x = ⟨4, rdN x, rs1N x, 0, immI x⟩ := by
    unfold decN
    simp [hlo, hf, ofI]
  rw [e]
  exact ⟨rfl, rfl, rfl, rfl, immI_law x hx⟩
theorem dl_5 (x : Nat) (hx : x < 4294967296) (h : x &&& 28799 = 99) : entI 5 x (decN x) := by
  rw [and_707F] at h
  have hlo : x % 128 = 99 := by omega
  have hf : f3N x = 0 := by unfold f3N; omega
  have e : decN x = ⟨5, 0, rs1N x, rs2N x, immB x⟩ := by
    unfold decN
    simp [hlo, hf, ofI]
  rw [e]
  exact ⟨rfl, rfl, rfl, rfl, immB_law x hx⟩
theorem dl_6 (x : Nat) (hx : x < 4294967296) (h : x &&& 28799 = 4195) : entI 6 x (decN x) := by
  rw [and_707F] at h
  have hlo : x % 128 = 99 := by omega
  have hf : f3N x = 1 := by unfold f3N; omega
  have e : decN x = ⟨6, 0, rs1N x, rs2N x, immB x⟩ := by
    unfold decN
    simp [hlo, hf, ofI]
  rw [e]
  exact ⟨rfl, rfl, rfl, rfl, immB_law x hx⟩
theorem dl_7 (x : Nat) (hx : x < 4294967296) (h : x &&& 28799 = 16483) : entI 7 x (decN x) := by
  rw [and_707F] at h
  have hlo : x % 128 = 99 := by omega
  have hf : f3N x = 4 := by unfold f3N; omega
  have e : decN x = ⟨7, 0, rs1N x, rs2N x, immB x⟩ := by
    unfold decN
    simp [hlo, hf, ofI]
  rw [e]
  exact ⟨rfl, rfl, rfl, rfl, immB_law x hx⟩
theorem dl_8 (x : Nat) (hx : x < 4294967296) (h : x &&& 28799 = 20579) : entI 8 x (decN x) := by
  rw [and_707F] at h
  have hlo : x % 128 = 99 := by omega
  have hf : f3N x = 5 := by unfold f3N; omega
  have e : decN x = ⟨8, 0, rs1N x, rs2N x, immB x⟩ := by
    unfold decN
    simp [hlo, hf, ofI]
  rw [e]
  exact ⟨rfl, rfl, rfl, rfl, immB_law x hx⟩
theorem dl_9 (x : Nat) (hx : x < 4294967296) (h : x &&& 28799 = 24675) : entI 9 x (decN x) := by
  rw [and_707F] at h
  have hlo : x % 128 = 99 := by omega
  have hf : f3N x = 6 := by unfold f3N; omega
  have e : decN x = ⟨9, 0, rs1N x, rs2N x, immB x⟩ := by
    unfold decN
    simp [hlo, hf, ofI]
  rw [e]
  exact ⟨rfl, rfl, rfl, rfl, immB_law x hx⟩
theorem dl_10 (x : Nat) (hx : x < 4294967296) (h : x &&& 28799 = 28771) : entI 10 x (decN x) := by
  rw [and_707F] at h
  have hlo : x % 128 = 99 := by omega
  have hf : f3N x = 7 := by unfold f3N; omega
  have e : decN x = ⟨10, 0, rs1N x, rs2N x, immB x⟩ := by
    unfold decN
    simp [hlo, hf, ofI]
  rw [e]
  exact ⟨rfl, rfl, rfl, rfl, immB_law x hx⟩
theorem dl_11 (x : Nat) (hx : x < 4294967296) (h : x &&& 28799 = 3) : entI 11 x (decN x) := by
  rw [and_707F] at h
  have hlo : x % 128 = 3 := by omega
  have hf : f3N x = 0 := by unfold f3N; omega
  have e : decN x = ⟨11, rdN x, rs1N x, 0, immI x⟩ := by
    unfold decN moreN
    simp [hlo, hf, ofI]
  rw [e]
  exact ⟨rfl, rfl, rfl, rfl, immI_law x hx⟩
theorem dl_12 (x : Nat) (hx : x < 4294967296) (h : x &&& 28799 = 4099) : entI 12 x (decN x) := by
  rw [and_707F] at h
  have hlo : x % 128 = 3 := by omega
  have hf : f3N x = 1 := by unfold f3N; omega
  have e : decN x = ⟨12, rdN x, rs1N x, 0, immI x⟩ := by
    unfold decN moreN
    simp [hlo, hf, ofI]
  rw [e]
  exact ⟨rfl, rfl, rfl, rfl, immI_law x hx⟩
theorem dl_13 (x : Nat) (hx : x < 4294967296) (h : x &&& 28799 = 8195) : entI 13 x (decN x) := by
  rw [and_707F] at h
  have hlo : x % 128 = 3 := by omega
  have hf : f3N x = 2 := by unfold f3N; omega
  have e : decN x = ⟨13, rdN x, rs1N x, 0, immI x⟩ := by
    unfold decN moreN
    simp [hlo, hf, ofI]
  rw [e]
  exact ⟨rfl, rfl, rfl, rfl, immI_law x hx⟩
theorem dl_14 (x : Nat) (hx : x < 4294967296) (h : x &&& 28799 = 16387) : entI 14 x (decN x) := by
  rw [and_707F] at h
  have hlo : x % 128 = 3 := by omega
  have hf : f3N x = 4 := by unfold f3N; omega
  have e : decN x = ⟨14, rdN x, rs1N x, 0, immI x⟩ := by
    unfold decN moreN
    simp [hlo, hf, ofI]
  rw [e]
  exact ⟨rfl, rfl, rfl, rfl, immI_law x hx⟩
theorem dl_15 (x : Nat) (hx : x < 4294967296) (h : x &&& 28799 = 20483) : entI 15 x (decN x) := by
  rw [and_707F] at h
  have hlo : x % 128 = 3 := by omega
  have hf : f3N x = 5 := by unfold f3N; omega
  have e : decN x = ⟨15, rdN x, rs1N x, 0, immI x⟩ := by
    unfold decN moreN
    simp [hlo, hf, ofI]
  rw [e]
  exact ⟨rfl, rfl, rfl, rfl, immI_law x hx⟩
theorem dl_16 (x : Nat) (hx : x < 4294967296) (h : x &&& 28799 = 35) : entI 16 x (decN x) := by
  rw [and_707F] at h
  have hlo : x % 128 = 35 := by omega
  have hf : f3N x = 0 := by unfold f3N; omega
  have e : decN x = ⟨16, 0, rs1N x, rs2N x, immS x⟩ := by
    unfold decN moreN
    simp [hlo, hf, ofI]
  rw [e]
  exact ⟨rfl, rfl, rfl, rfl, immS_law x hx⟩
theorem dl_17 (x : Nat) (hx : x < 4294967296) (h : x &&& 28799 = 4131) : entI 17 x (decN x) := by
  rw [and_707F] at h
  have hlo : x % 128 = 35 := by omega
  have hf : f3N x = 1 := by unfold f3N; omega
  have e : decN x = ⟨17, 0, rs1N x, rs2N x, immS x⟩ := by
    unfold decN moreN
    simp [hlo, hf, ofI]
  rw [e]
  exact ⟨rfl, rfl, rfl, rfl, immS_law x hx⟩
theorem dl_18 (x : Nat) (hx : x < 4294967296) (h : x &&& 28799 = 8227) : entI 18 x (decN x) := by
  rw [and_707F] at h
  have hlo : x % 128 = 35 := by omega
  have hf : f3N x = 2 := by unfold f3N; omega
  have e : decN x = ⟨18, 0, rs1N x, rs2N x, immS x⟩ := by
    unfold decN moreN
    simp [hlo, hf, ofI]
  rw [e]
  exact ⟨rfl, rfl, rfl, rfl, immS_law x hx⟩
theorem dl_19 (x : Nat) (hx : x < 4294967296) (h : x &&& 28799 = 19) : entI 19 x (decN x) := by
  rw [and_707F] at h
  have hlo : x % 128 = 19 := by omega
  have hf : f3N x = 0 := by unfold f3N; omega
  have e : decN x = ⟨19, rdN x, rs1N x, 0, immI x⟩ := by
    unfold decN moreN
    simp [hlo, hf, ofI]
  rw [e]
  exact ⟨rfl, rfl, rfl, rfl, immI_law x hx⟩
theorem dl_20 (x : Nat) (hx : x < 4294967296) (h : x &&& 28799 = 8211) : entI 20 x (decN x) := by
  rw [and_707F] at h
  have hlo : x % 128 = 19 := by omega
  have hf : f3N x = 2 := by unfold f3N; omega
  have e : decN x = ⟨20, rdN x, rs1N x, 0, immI x⟩ := by
    unfold decN moreN
    simp [hlo, hf, ofI]
  rw [e]
  exact ⟨rfl, rfl, rfl, rfl, immI_law x hx⟩
theorem dl_21 (x : Nat) (hx : x < 4294967296) (h : x &&& 28799 = 12307) : entI 21 x (decN x) := by
  rw [and_707F] at h
  have hlo : x % 128 = 19 := by omega
  have hf : f3N x = 3 := by unfold f3N; omega
  have e : decN x = ⟨21, rdN x, rs1N x, 0, immI x⟩ := by
    unfold decN moreN
    simp [hlo, hf, ofI]
  rw [e]
  exact ⟨rfl, rfl, rfl, rfl, immI_law x hx⟩
theorem dl_22 (x : Nat) (hx : x < 4294967296) (h : x &&& 28799 = 16403) : entI 22 x (decN x) := by
  rw [and_707F] at h
  have hlo : x % 128 = 19 := by omega
  have hf : f3N x = 4 := by unfold f3N; omega
  have e : decN x = ⟨22, rdN x, rs1N x, 0, immI x⟩ := by
    unfold decN moreN
    simp [hlo, hf, ofI]
  rw [e]
  exact ⟨rfl, rfl, rfl, rfl, immI_law x hx⟩
theorem dl_23 (x : Nat) (hx : x < 4294967296) (h : x &&& 28799 = 24595) : entI 23 x (decN x) := by
  rw [and_707F] at h
  have hlo : x % 128 = 19 := by omega
  have hf : f3N x = 6 := by unfold f3N; omega
  have e : decN x = ⟨23, rdN x, rs1N x, 0, immI x⟩ := by
    unfold decN moreN
    simp [hlo, hf, ofI]
  rw [e]
  exact ⟨rfl, rfl, rfl, rfl, immI_law x hx⟩
theorem dl_24 (x : Nat) (hx : x < 4294967296) (h : x &&& 28799 = 28691) : entI 24 x (decN x) := by
  rw [and_707F] at h
  have hlo : x % 128 = 19 := by omega
  have hf : f3N x = 7 := by unfold f3N; omega
  have e : decN x = ⟨24, rdN x, rs1N x, 0, immI x⟩ := by
    unfold decN moreN
    simp [hlo, hf, ofI]
  rw [e]
  exact ⟨rfl, rfl, rfl, rfl, immI_law x hx⟩
theorem dl_25 (x : Nat) (hx : x < 4294967296) (h : x &&& 4261441663 = 4115) : entI 25 x (decN x) := by
  rw [and_FE00707F x hx] at h
  have hlo : x % 128 = 19 := by omega
  have hf : f3N x = 1 := by unfold f3N; omega
  have ht : topN x = 0 := by unfold topN; omega
  have e : decN x = ⟨25, rdN x, rs1N x, 0, rs2N x⟩ := by
    unfold decN moreN
    simp [hlo, hf, ht, ofI]
  rw [e]
  exact ⟨rfl, rfl, rfl, rfl, by show ((rs2N x : Nat) : Int) = ((x / 1048576 % 32 : Nat) : Int) % 4294967296; unfold rs2N; omega⟩
theorem dl_26 (x : Nat) (hx : x < 4294967296) (h : x &&& 4261441663 = 20499) : entI 26 x (decN x) := by
  rw [and_FE00707F x hx] at h
  have hlo : x % 128 = 19 := by omega
  have hf : f3N x = 5 := by unfold f3N; omega
  have ht : topN x = 0 := by unfold topN; omega
  have e : decN x = ⟨26, rdN x, rs1N x, 0, rs2N x⟩ := by
    unfold decN moreN
    simp [hlo, hf, ht, ofI]
  rw [e]
  exact ⟨rfl, rfl, rfl, rfl, by show ((rs2N x : Nat) : Int) = ((x / 1048576 % 32 : Nat) : Int) % 4294967296; unfold rs2N; omega⟩
theorem dl_27 (x : Nat) (hx : x < 4294967296) (h : x &&& 4261441663 = 1073762323) : entI 27 x (decN x) := by
  rw [and_FE00707F x hx] at h
  have hlo : x % 128 = 19 := by omega
  have hf : f3N x = 5 := by unfold f3N; omega
  have ht : topN x = 32 := by unfold topN; omega
  have e : decN x = ⟨27, rdN x, rs1N x, 0, rs2N x⟩ := by
    unfold decN moreN
    simp [hlo, hf, ht, ofI]
  rw [e]
  exact ⟨rfl, rfl, rfl, rfl, by show ((rs2N x : Nat) : Int) = ((x / 1048576 % 32 : Nat) : Int) % 4294967296; unfold rs2N; omega⟩
theorem dl_28 (x : Nat) (hx : x < 4294967296) (h : x &&& 4261441663 = 51) : entI 28 x (decN x) := by
  rw [and_FE00707F x hx] at h
  have hlo : x % 128 = 51 := by omega
  have hf : f3N x = 0 := by unfold f3N; omega
  have ht : topN x = 0 := by unfold topN; omega
  have e : decN x = ⟨28, rdN x, rs1N x, rs2N x, 0⟩ := by
    unfold decN moreN
    simp [hlo, hf, ht, ofI]
  rw [e]
  exact ⟨rfl, rfl, rfl, rfl, rfl⟩
theorem dl_29 (x : Nat) (hx : x < 4294967296) (h : x &&& 4261441663 = 1073741875) : entI 29 x (decN x) := by
  rw [and_FE00707F x hx] at h
  have hlo : x % 128 = 51 := by omega
  have hf : f3N x = 0 := by unfold f3N; omega
  have ht : topN x = 32 := by unfold topN; omega
  have e : decN x = ⟨29, rdN x, rs1N x, rs2N x, 0⟩ := by
    unfold decN moreN
    simp [hlo, hf, ht, ofI]
  rw [e]
  exact ⟨rfl, rfl, rfl, rfl, rfl⟩
theorem dl_30 (x : Nat) (hx : x < 4294967296) (h : x &&& 4261441663 = 4147) : entI 30 x (decN x) := by
  rw [and_FE00707F x hx] at h
  have hlo : x % 128 = 51 := by omega
  have hf : f3N x = 1 := by unfold f3N; omega
  have ht : topN x = 0 := by unfold topN; omega
  have e : decN x = ⟨30, rdN x, rs1N x, rs2N x, 0⟩ := by
    unfold decN moreN
    simp [hlo, hf, ht, ofI]
  rw [e]
  exact ⟨rfl, rfl, rfl, rfl, rfl⟩
theorem dl_31 (x : Nat) (hx : x < 4294967296) (h : x &&& 4261441663 = 8243) : entI 31 x (decN x) := by
  rw [and_FE00707F x hx] at h
  have hlo : x % 128 = 51 := by omega
  have hf : f3N x = 2 := by unfold f3N; omega
  have ht : topN x = 0 := by unfold topN; omega
  have e : decN x = ⟨31, rdN x, rs1N x, rs2N x, 0⟩ := by
    unfold decN moreN
    simp [hlo, hf, ht, ofI]
  rw [e]
  exact ⟨rfl, rfl, rfl, rfl, rfl⟩
theorem dl_32 (x : Nat) (hx : x < 4294967296) (h : x &&& 4261441663 = 12339) : entI 32 x (decN x) := by
  rw [and_FE00707F x hx] at h
  have hlo : x % 128 = 51 := by omega
  have hf : f3N x = 3 := by unfold f3N; omega
  have ht : topN x = 0 := by unfold topN; omega
  have e : decN x = ⟨32, rdN x, rs1N x, rs2N x, 0⟩ := by
    unfold decN moreN
    simp [hlo, hf, ht, ofI]
  rw [e]
  exact ⟨rfl, rfl, rfl, rfl, rfl⟩
theorem dl_33 (x : Nat) (hx : x < 4294967296) (h : x &&& 4261441663 = 16435) : entI 33 x (decN x) := by
  rw [and_FE00707F x hx] at h
  have hlo : x % 128 = 51 := by omega
  have hf : f3N x = 4 := by unfold f3N; omega
  have ht : topN x = 0 := by unfold topN; omega
  have e : decN x = ⟨33, rdN x, rs1N x, rs2N x, 0⟩ := by
    unfold decN moreN
    simp [hlo, hf, ht, ofI]
  rw [e]
  exact ⟨rfl, rfl, rfl, rfl, rfl⟩
theorem dl_34 (x : Nat) (hx : x < 4294967296) (h : x &&& 4261441663 = 20531) : entI 34 x (decN x) := by
  rw [and_FE00707F x hx] at h
  have hlo : x % 128 = 51 := by omega
  have hf : f3N x = 5 := by unfold f3N; omega
  have ht : topN x = 0 := by unfold topN; omega
  have e : decN x = ⟨34, rdN x, rs1N x, rs2N x, 0⟩ := by
    unfold decN moreN
    simp [hlo, hf, ht, ofI]
  rw [e]
  exact ⟨rfl, rfl, rfl, rfl, rfl⟩
theorem dl_35 (x : Nat) (hx : x < 4294967296) (h : x &&& 4261441663 = 1073762355) : entI 35 x (decN x) := by
  rw [and_FE00707F x hx] at h
  have hlo : x % 128 = 51 := by omega
  have hf : f3N x = 5 := by unfold f3N; omega
  have ht : topN x = 32 := by unfold topN; omega
  have e : decN x = ⟨35, rdN x, rs1N x, rs2N x, 0⟩ := by
    unfold decN moreN
    simp [hlo, hf, ht, ofI]
  rw [e]
  exact ⟨rfl, rfl, rfl, rfl, rfl⟩
theorem dl_36 (x : Nat) (hx : x < 4294967296) (h : x &&& 4261441663 = 24627) : entI 36 x (decN x) := by
  rw [and_FE00707F x hx] at h
  have hlo : x % 128 = 51 := by omega
  have hf : f3N x = 6 := by unfold f3N; omega
  have ht : topN x = 0 := by unfold topN; omega
  have e : decN x = ⟨36, rdN x, rs1N x, rs2N x, 0⟩ := by
    unfold decN moreN
    simp [hlo, hf, ht, ofI]
  rw [e]
  exact ⟨rfl, rfl, rfl, rfl, rfl⟩
theorem dl_37 (x : Nat) (hx : x < 4294967296) (h : x &&& 4261441663 = 28723) : entI 37 x (decN x) := by
  rw [and_FE00707F x hx] at h
  have hlo : x % 128 = 51 := by omega
  have hf : f3N x = 7 := by unfold f3N; omega
  have ht : topN x = 0 := by unfold topN; omega
  have e : decN x = ⟨37, rdN x, rs1N x, rs2N x, 0⟩ := by
    unfold decN moreN
    simp [hlo, hf, ht, ofI]
  rw [e]
  exact ⟨rfl, rfl, rfl, rfl, rfl⟩
theorem dl_38 (x : Nat) (hx : x < 4294967296) (h : x &&& 4261441663 = 33554483) : entI 38 x (decN x) := by
  rw [and_FE00707F x hx] at h
  have hlo : x % 128 = 51 := by omega
  have hf : f3N x = 0 := by unfold f3N; omega
  have ht : topN x = 1 := by unfold topN; omega
  have e : decN x = ⟨38, rdN x, rs1N x, rs2N x, 0⟩ := by
    unfold decN moreN
    simp [hlo, hf, ht, ofI]
  rw [e]
  exact ⟨rfl, rfl, rfl, rfl, rfl⟩
theorem dl_39 (x : Nat) (hx : x < 4294967296) (h : x &&& 4261441663 = 33558579) : entI 39 x (decN x) := by
  rw [and_FE00707F x hx] at h
  have hlo : x % 128 = 51 := by omega
  have hf : f3N x = 1 := by unfold f3N; omega
  have ht : topN x = 1 := by unfold topN; omega
  have e : decN x = ⟨39, rdN x, rs1N x, rs2N x, 0⟩ := by
    unfold decN moreN
    simp [hlo, hf, ht, ofI]
  rw [e]
  exact ⟨rfl, rfl, rfl, rfl, rfl⟩
theorem dl_40 (x : Nat) (hx : x < 4294967296) (h : x &&& 4261441663 = 33562675) : entI 40 x (decN x) := by
  rw [and_FE00707F x hx] at h
  have hlo : x % 128 = 51 := by omega
  have hf : f3N x = 2 := by unfold f3N; omega
  have ht : topN x = 1 := by unfold topN; omega
  have e : decN x = ⟨40, rdN x, rs1N x, rs2N x, 0⟩ := by
    unfold decN moreN
    simp [hlo, hf, ht, ofI]
  rw [e]
  exact ⟨rfl, rfl, rfl, rfl, rfl⟩
theorem dl_41 (x : Nat) (hx : x < 4294967296) (h : x &&& 4261441663 = 33566771) : entI 41 x (decN x) := by
  rw [and_FE00707F x hx] at h
  have hlo : x % 128 = 51 := by omega
  have hf : f3N x = 3 := by unfold f3N; omega
  have ht : topN x = 1 := by unfold topN; omega
  have e : decN x = ⟨41, rdN x, rs1N x, rs2N x, 0⟩ := by
    unfold decN moreN
    simp [hlo, hf, ht, ofI]
  rw [e]
  exact ⟨rfl, rfl, rfl, rfl, rfl⟩
theorem dl_42 (x : Nat) (hx : x < 4294967296) (h : x &&& 4261441663 = 33570867) : entI 42 x (decN x) := by
  rw [and_FE00707F x hx] at h
  have hlo : x % 128 = 51 := by omega
  have hf : f3N x = 4 := by unfold f3N; omega
  have ht : topN x = 1 := by unfold topN; omega
  have e : decN x = ⟨42, rdN x, rs1N x, rs2N x, 0⟩ := by
    unfold decN moreN
    simp [hlo, hf, ht, ofI]
  rw [e]
  exact ⟨rfl, rfl, rfl, rfl, rfl⟩
theorem dl_43 (x : Nat) (hx : x < 4294967296) (h : x &&& 4261441663 = 33574963) : entI 43 x (decN x) := by
  rw [and_FE00707F x hx] at h
  have hlo : x % 128 = 51 := by omega
  have hf : f3N x = 5 := by unfold f3N; omega
  have ht : topN x = 1 := by unfold topN; omega
  have e : decN x = ⟨43, rdN x, rs1N x, rs2N x, 0⟩ := by
    unfold decN moreN
    simp [hlo, hf, ht, ofI]
  rw [e]
  exact ⟨rfl, rfl, rfl, rfl, rfl⟩
theorem dl_44 (x : Nat) (hx : x < 4294967296) (h : x &&& 4261441663 = 33579059) : entI 44 x (decN x) := by
  rw [and_FE00707F x hx] at h
  have hlo : x % 128 = 51 := by omega
  have hf : f3N x = 6 := by unfold f3N; omega
  have ht : topN x = 1 := by unfold topN; omega
  have e : decN x = ⟨44, rdN x, rs1N x, rs2N x, 0⟩ := by
    unfold decN moreN
    simp [hlo, hf, ht, ofI]
  rw [e]
  exact ⟨rfl, rfl, rfl, rfl, rfl⟩
theorem dl_45 (x : Nat) (hx : x < 4294967296) (h : x &&& 4261441663 = 33583155) : entI 45 x (decN x) := by
  rw [and_FE00707F x hx] at h
  have hlo : x % 128 = 51 := by omega
  have hf : f3N x = 7 := by unfold f3N; omega
  have ht : topN x = 1 := by unfold topN; omega
  have e : decN x = ⟨45, rdN x, rs1N x, rs2N x, 0⟩ := by
    unfold decN moreN
    simp [hlo, hf, ht, ofI]
  rw [e]
  exact ⟨rfl, rfl, rfl, rfl, rfl⟩
theorem dl_46 (x : Nat) (hx : x < 4294967296) (h : x &&& 28799 = 15) : entI 46 x (decN x) := by
  rw [and_707F] at h
  have hlo : x % 128 = 15 := by omega
  have hf : f3N x = 0 := by unfold f3N; omega
  have e : decN x = ⟨46, 0, 0, 0, 0⟩ := by
    unfold decN moreN
    simp [hlo, hf, ofI]
  rw [e]
  exact ⟨rfl, rfl, rfl, rfl, rfl⟩
theorem dl_47 (x : Nat) (hx : x < 4294967296) (h : x &&& 4294967295 = 115) : entI 47 x (decN x) := by
  rw [show (4294967295 : Nat) = 2 ^ 32 - 1 from rfl, and_low, Nat.mod_eq_of_lt hx] at h
  subst h
  refine ⟨rfl, rfl, rfl, rfl, rfl⟩
theorem dl_48 (x : Nat) (hx : x < 4294967296) (h : x &&& 4294967295 = 1048691) : entI 48 x (decN x) := by
  rw [show (4294967295 : Nat) = 2 ^ 32 - 1 from rfl, and_low, Nat.mod_eq_of_lt hx] at h
  subst h
  refine ⟨rfl, rfl, rfl, rfl, rfl⟩
theorem dl_49 (x : Nat) (hx : x < 4294967296) (h : x &&& 4294967295 = 807403635) : entI 49 x (decN x) := by
  rw [show (4294967295 : Nat) = 2 ^ 32 - 1 from rfl, and_low, Nat.mod_eq_of_lt hx] at h
  subst h
  refine ⟨rfl, rfl, rfl, rfl, rfl⟩
theorem dl_50 (x : Nat) (hx : x < 4294967296) (h : x &&& 4294967295 = 273678451) : entI 50 x (decN x) := by
  rw [show (4294967295 : Nat) = 2 ^ 32 - 1 from rfl, and_low, Nat.mod_eq_of_lt hx] at h
  subst h
  refine ⟨rfl, rfl, rfl, rfl, rfl⟩
theorem dl_51 (x : Nat) (hx : x < 4294967296) (h : x &&& 28799 = 4211) : entI 51 x (decN x) := by
  rw [and_707F] at h
  have hlo : x % 128 = 115 := by omega
  have hf : f3N x = 1 := by unfold f3N; omega
  have n115 : x ≠ 115 := by rintro rfl; revert hf; decide
  have n1048691 : x ≠ 1048691 := by rintro rfl; revert hf; decide
  have n807403635 : x ≠ 807403635 := by rintro rfl; revert hf; decide
  have n273678451 : x ≠ 273678451 := by rintro rfl; revert hf; decide
  have e : decN x = ⟨51, rdN x, rs1N x, 0, x / 1048576⟩ := by
    unfold decN moreN sysN
    simp [hlo, hf, n115, n1048691, n807403635, n273678451, ofI]
  rw [e]
  exact ⟨rfl, rfl, rfl, rfl, by show ((x / 1048576 : Nat) : Int) = ((x / 1048576 % 4096 : Nat) : Int) % 4294967296; omega⟩
theorem dl_52 (x : Nat) (hx : x < 4294967296) (h : x &&& 28799 = 8307) : entI 52 x (decN x) := by
  rw [and_707F] at h
  have hlo : x % 128 = 115 := by omega
  have hf : f3N x = 2 := by unfold f3N; omega
  have n115 : x ≠ 115 := by rintro rfl; revert hf; decide
  have n1048691 : x ≠ 1048691 := by rintro rfl; revert hf; decide
  have n807403635 : x ≠ 807403635 := by rintro rfl; revert hf; decide
  have n273678451 : x ≠ 273678451 := by rintro rfl; revert hf; decide
  have e : decN x = ⟨52, rdN x, rs1N x, 0, x / 1048576⟩ := by
    unfold decN moreN sysN
    simp [hlo, hf, n115, n1048691, n807403635, n273678451, ofI]
  rw [e]
  exact ⟨rfl, rfl, rfl, rfl, by show ((x / 1048576 : Nat) : Int) = ((x / 1048576 % 4096 : Nat) : Int) % 4294967296; omega⟩
theorem dl_53 (x : Nat) (hx : x < 4294967296) (h : x &&& 28799 = 12403) : entI 53 x (decN x) := by
  rw [and_707F] at h
  have hlo : x % 128 = 115 := by omega
  have hf : f3N x = 3 := by unfold f3N; omega
  have n115 : x ≠ 115 := by rintro rfl; revert hf; decide
  have n1048691 : x ≠ 1048691 := by rintro rfl; revert hf; decide
  have n807403635 : x ≠ 807403635 := by rintro rfl; revert hf; decide
  have n273678451 : x ≠ 273678451 := by rintro rfl; revert hf; decide
  have e : decN x = ⟨53, rdN x, rs1N x, 0, x / 1048576⟩ := by
    unfold decN moreN sysN
    simp [hlo, hf, n115, n1048691, n807403635, n273678451, ofI]
  rw [e]
  exact ⟨rfl, rfl, rfl, rfl, by show ((x / 1048576 : Nat) : Int) = ((x / 1048576 % 4096 : Nat) : Int) % 4294967296; omega⟩
theorem dl_54 (x : Nat) (hx : x < 4294967296) (h : x &&& 28799 = 20595) : entI 54 x (decN x) := by
  rw [and_707F] at h
  have hlo : x % 128 = 115 := by omega
  have hf : f3N x = 5 := by unfold f3N; omega
  have n115 : x ≠ 115 := by rintro rfl; revert hf; decide
  have n1048691 : x ≠ 1048691 := by rintro rfl; revert hf; decide
  have n807403635 : x ≠ 807403635 := by rintro rfl; revert hf; decide
  have n273678451 : x ≠ 273678451 := by rintro rfl; revert hf; decide
  have e : decN x = ⟨54, rdN x, rs1N x, 0, x / 1048576⟩ := by
    unfold decN moreN sysN
    simp [hlo, hf, n115, n1048691, n807403635, n273678451, ofI]
  rw [e]
  exact ⟨rfl, rfl, rfl, rfl, by show ((x / 1048576 : Nat) : Int) = ((x / 1048576 % 4096 : Nat) : Int) % 4294967296; omega⟩
theorem dl_55 (x : Nat) (hx : x < 4294967296) (h : x &&& 28799 = 24691) : entI 55 x (decN x) := by
  rw [and_707F] at h
  have hlo : x % 128 = 115 := by omega
  have hf : f3N x = 6 := by unfold f3N; omega
  have n115 : x ≠ 115 := by rintro rfl; revert hf; decide
  have n1048691 : x ≠ 1048691 := by rintro rfl; revert hf; decide
  have n807403635 : x ≠ 807403635 := by rintro rfl; revert hf; decide
  have n273678451 : x ≠ 273678451 := by rintro rfl; revert hf; decide
  have e : decN x = ⟨55, rdN x, rs1N x, 0, x / 1048576⟩ := by
    unfold decN moreN sysN
    simp [hlo, hf, n115, n1048691, n807403635, n273678451, ofI]
  rw [e]
  exact ⟨rfl, rfl, rfl, rfl, by show ((x / 1048576 : Nat) : Int) = ((x / 1048576 % 4096 : Nat) : Int) % 4294967296; omega⟩
theorem dl_56 (x : Nat) (hx : x < 4294967296) (h : x &&& 28799 = 28787) : entI 56 x (decN x) := by
  rw [and_707F] at h
  have hlo : x % 128 = 115 := by omega
  have hf : f3N x = 7 := by unfold f3N; omega
  have n115 : x ≠ 115 := by rintro rfl; revert hf; decide
  have n1048691 : x ≠ 1048691 := by rintro rfl; revert hf; decide
  have n807403635 : x ≠ 807403635 := by rintro rfl; revert hf; decide
  have n273678451 : x ≠ 273678451 := by rintro rfl; revert hf; decide
  have e : decN x = ⟨56, rdN x, rs1N x, 0, x / 1048576⟩ := by
    unfold decN moreN sysN
    simp [hlo, hf, n115, n1048691, n807403635, n273678451, ofI]
  rw [e]
  exact ⟨rfl, rfl, rfl, rfl, by show ((x / 1048576 : Nat) : Int) = ((x / 1048576 % 4096 : Nat) : Int) % 4294967296; omega⟩
theorem dl_any (x k : Nat) (hx : x < 4294967296) (h1 : 1 ≤ k) (h2 : k < 57) (h : fitsK x k) : entI k x (decN x) := by
  unfold fitsK at h
  match k, h1, h2, h with
  | 1, _, _, h => exact dl_1 x hx h
  | 2, _, _, h => exact dl_2 x hx h
  | 3, _, _, h => exact dl_3 x hx h
  | 4, _, _, h => exact dl_4 x hx h
  | 5, _, _, h => exact dl_5 x hx h
  | 6, _, _, h => exact dl_6 x hx h
  | 7, _, _, h => exact dl_7 x hx h
  | 8, _, _, h => exact dl_8 x hx h
  | 9, _, _, h => exact dl_9 x hx h
  | 10, _, _, h => exact dl_10 x hx h
  | 11, _, _, h => exact dl_11 x hx h
  | 12, _, _, h => exact dl_12 x hx h
  | 13, _, _, h => exact dl_13 x hx h
  | 14, _, _, h => exact dl_14 x hx h
  | 15, _, _, h => exact dl_15 x hx h
  | 16, _, _, h => exact dl_16 x hx h
  | 17, _, _, h => exact dl_17 x hx h
  | 18, _, _, h => exact dl_18 x hx h
  | 19, _, _, h => exact dl_19 x hx h
  | 20, _, _, h => exact dl_20 x hx h
  | 21, _, _, h => exact dl_21 x hx h
  | 22, _, _, h => exact dl_22 x hx h
  | 23, _, _, h => exact dl_23 x hx h
  | 24, _, _, h => exact dl_24 x hx h
  | 25, _, _, h => exact dl_25 x hx h
  | 26, _, _, h => exact dl_26 x hx h
  | 27, _, _, h => exact dl_27 x hx h
  | 28, _, _, h => exact dl_28 x hx h
  | 29, _, _, h => exact dl_29 x hx h
  | 30, _, _, h => exact dl_30 x hx h
  | 31, _, _, h => exact dl_31 x hx h
  | 32, _, _, h => exact dl_32 x hx h
  | 33, _, _, h => exact dl_33 x hx h
  | 34, _, _, h => exact dl_34 x hx h
  | 35, _, _, h => exact dl_35 x hx h
  | 36, _, _, h => exact dl_36 x hx h
  | 37, _, _, h => exact dl_37 x hx h
  | 38, _, _, h => exact dl_38 x hx h
  | 39, _, _, h => exact dl_39 x hx h
  | 40, _, _, h => exact dl_40 x hx h
  | 41, _, _, h => exact dl_41 x hx h
  | 42, _, _, h => exact dl_42 x hx h
  | 43, _, _, h => exact dl_43 x hx h
  | 44, _, _, h => exact dl_44 x hx h
  | 45, _, _, h => exact dl_45 x hx h
  | 46, _, _, h => exact dl_46 x hx h
  | 47, _, _, h => exact dl_47 x hx h
  | 48, _, _, h => exact dl_48 x hx h
  | 49, _, _, h => exact dl_49 x hx h
  | 50, _, _, h => exact dl_50 x hx h
  | 51, _, _, h => exact dl_51 x hx h
  | 52, _, _, h => exact dl_52 x hx h
  | 53, _, _, h => exact dl_53 x hx h
  | 54, _, _, h => exact dl_54 x hx h
  | 55, _, _, h => exact dl_55 x hx h
  | 56, _, _, h => exact dl_56 x hx h
  | k + 57, _, h2, _ => exact absurd h2 (by omega)
theorem f3_cases (x : Nat) : f3N x = 0 ∨ f3N x = 1 ∨ f3N x = 2 ∨ f3N x = 3 ∨ f3N x = 4 ∨ f3N x = 5 ∨ f3N x = 6 ∨ f3N x = 7 := by unfold f3N; omega
theorem fit127 {x k : Nat} (hm : maskN (frmL k) = 127) (hw : x % 128 = wrdC k) : fitsK x k := by
  unfold fitsK
  rw [hm, show (127 : Nat) = 2 ^ 7 - 1 from rfl, and_low]; exact hw
theorem fit707F {x k : Nat} (hm : maskN (frmL k) = 28799) (hw : x % 128 + f3N x * 4096 = wrdC k) : fitsK x k := by
  unfold fitsK
  rw [hm, and_707F]; exact hw
theorem fitFE {x k : Nat} (hx : x < 4294967296) (hm : maskN (frmL k) = 4261441663) (hw : x % 128 + f3N x * 4096 + topN x * 33554432 = wrdC k) : fitsK x k := by
  unfold fitsK
  rw [hm, and_FE00707F x hx]; exact hw
theorem fitN {x k : Nat} (hx : x < 4294967296) (hm : maskN (frmL k) = 4294967295) (hw : x = wrdC k) : fitsK x k := by
  unfold fitsK
  rw [hm, show (4294967295 : Nat) = 2 ^ 32 - 1 from rfl, and_low, Nat.mod_eq_of_lt hx]; exact hw
theorem nl_55 (x : Nat) (hx : x < 4294967296) (h : ∀ k, 1 ≤ k → k < 57 → ¬ fitsK x k) (hlo : x % 128 = 55) : decN x = noI := by
  exact absurd (fit127 rfl hlo) (h 1 (by decide) (by decide))
theorem nl_23 (x : Nat) (hx : x < 4294967296) (h : ∀ k, 1 ≤ k → k < 57 → ¬ fitsK x k) (hlo : x % 128 = 23) : decN x = noI := by
  exact absurd (fit127 rfl hlo) (h 2 (by decide) (by decide))
theorem nl_111 (x : Nat) (hx : x < 4294967296) (h : ∀ k, 1 ≤ k → k < 57 → ¬ fitsK x k) (hlo : x % 128 = 111) : decN x = noI := by
  exact absurd (fit127 rfl hlo) (h 3 (by decide) (by decide))
theorem nl_103 (x : Nat) (hx : x < 4294967296) (h : ∀ k, 1 ≤ k → k < 57 → ¬ fitsK x k) (hlo : x % 128 = 103) : decN x = noI := by
  rcases f3_cases x with hf | hf | hf | hf | hf | hf | hf | hf
  · exact absurd (fit707F rfl (by rw [hlo, hf]; rfl)) (h 4 (by decide) (by decide))
  · unfold decN
    simp [hlo, hf, ofI, noI]
  · unfold decN
    simp [hlo, hf, ofI, noI]
  · unfold decN
    simp [hlo, hf, ofI, noI]
  · unfold decN
    simp [hlo, hf, ofI, noI]
  · unfold decN
    simp [hlo, hf, ofI, noI]
  · unfold decN
    simp [hlo, hf, ofI, noI]
  · unfold decN
    simp [hlo, hf, ofI, noI]
theorem nl_99 (x : Nat) (hx : x < 4294967296) (h : ∀ k, 1 ≤ k → k < 57 → ¬ fitsK x k) (hlo : x % 128 = 99) : decN x = noI := by
  rcases f3_cases x with hf | hf | hf | hf | hf | hf | hf | hf
  · exact absurd (fit707F rfl (by rw [hlo, hf]; rfl)) (h 5 (by decide) (by decide))
  · exact absurd (fit707F rfl (by rw [hlo, hf]; rfl)) (h 6 (by decide) (by decide))
  · unfold decN
    simp [hlo, hf, ofI, noI]
  · unfold decN
    simp [hlo, hf, ofI, noI]
  · exact absurd (fit707F rfl (by rw [hlo, hf]; rfl)) (h 7 (by decide) (by decide))
  · exact absurd (fit707F rfl (by rw [hlo, hf]; rfl)) (h 8 (by decide) (by decide))
  · exact absurd (fit707F rfl (by rw [hlo, hf]; rfl)) (h 9 (by decide) (by decide))
  · exact absurd (fit707F rfl (by rw [hlo, hf]; rfl)) (h 10 (by decide) (by decide))
theorem nl_3 (x : Nat) (hx : x < 4294967296) (h : ∀ k, 1 ≤ k → k < 57 → ¬ fitsK x k) (hlo : x % 128 = 3) : decN x = noI := by
  rcases f3_cases x with hf | hf | hf | hf | hf | hf | hf | hf
  · exact absurd (fit707F rfl (by rw [hlo, hf]; rfl)) (h 11 (by decide) (by decide))
  · exact absurd (fit707F rfl (by rw [hlo, hf]; rfl)) (h 12 (by decide) (by decide))
  · exact absurd (fit707F rfl (by rw [hlo, hf]; rfl)) (h 13 (by decide) (by decide))
  · unfold decN moreN
    simp [hlo, hf, ofI, noI]
  · exact absurd (fit707F rfl (by rw [hlo, hf]; rfl)) (h 14 (by decide) (by decide))
  · exact absurd (fit707F rfl (by rw [hlo, hf]; rfl)) (h 15 (by decide) (by decide))
  · unfold decN moreN
    simp [hlo, hf, ofI, noI]
  · unfold decN moreN
    simp [hlo, hf, ofI, noI]
theorem nl_35 (x : Nat) (hx : x < 4294967296) (h : ∀ k, 1 ≤ k → k < 57 → ¬ fitsK x k) (hlo : x % 128 = 35) : decN x = noI := by
  rcases f3_cases x with hf | hf | hf | hf | hf | hf | hf | hf
  · exact absurd (fit707F rfl (by rw [hlo, hf]; rfl)) (h 16 (by decide) (by decide))
  · exact absurd (fit707F rfl (by rw [hlo, hf]; rfl)) (h 17 (by decide) (by decide))
  · exact absurd (fit707F rfl (by rw [hlo, hf]; rfl)) (h 18 (by decide) (by decide))
  · unfold decN moreN
    simp [hlo, hf, ofI, noI]
  · unfold decN moreN
    simp [hlo, hf, ofI, noI]
  · unfold decN moreN
    simp [hlo, hf, ofI, noI]
  · unfold decN moreN
    simp [hlo, hf, ofI, noI]
  · unfold decN moreN
    simp [hlo, hf, ofI, noI]
theorem nl_19 (x : Nat) (hx : x < 4294967296) (h : ∀ k, 1 ≤ k → k < 57 → ¬ fitsK x k) (hlo : x % 128 = 19) : decN x = noI := by
  rcases f3_cases x with hf | hf | hf | hf | hf | hf | hf | hf
  · exact absurd (fit707F rfl (by rw [hlo, hf]; rfl)) (h 19 (by decide) (by decide))
  · have t0 : topN x ≠ 0 := fun e => h 25 (by decide) (by decide) (fitFE hx rfl (by rw [hlo, hf, e]; rfl))
    unfold decN moreN
    simp [hlo, hf, ofI, noI, t0]
  · exact absurd (fit707F rfl (by rw [hlo, hf]; rfl)) (h 20 (by decide) (by decide))
  · exact absurd (fit707F rfl (by rw [hlo, hf]; rfl)) (h 21 (by decide) (by decide))
  · exact absurd (fit707F rfl (by rw [hlo, hf]; rfl)) (h 22 (by decide) (by decide))
  · have t0 : topN x ≠ 0 := fun e => h 26 (by decide) (by decide) (fitFE hx rfl (by rw [hlo, hf, e]; rfl))
    have t32 : topN x ≠ 32 := fun e => h 27 (by decide) (by decide) (fitFE hx rfl (by rw [hlo, hf, e]; rfl))
    unfold decN moreN
    simp [hlo, hf, ofI, noI, t0, t32]
  · exact absurd (fit707F rfl (by rw [hlo, hf]; rfl)) (h 23 (by decide) (by decide))
  · exact absurd (fit707F rfl (by rw [hlo, hf]; rfl)) (h 24 (by decide) (by decide))
theorem nl_51 (x : Nat) (hx : x < 4294967296) (h : ∀ k, 1 ≤ k → k < 57 → ¬ fitsK x k) (hlo : x % 128 = 51) : decN x = noI := by
  rcases f3_cases x with hf | hf | hf | hf | hf | hf | hf | hf
  · have t0 : topN x ≠ 0 := fun e => h 28 (by decide) (by decide) (fitFE hx rfl (by rw [hlo, hf, e]; rfl))
    have t32 : topN x ≠ 32 := fun e => h 29 (by decide) (by decide) (fitFE hx rfl (by rw [hlo, hf, e]; rfl))
    have t1 : topN x ≠ 1 := fun e => h 38 (by decide) (by decide) (fitFE hx rfl (by rw [hlo, hf, e]; rfl))
    unfold decN moreN
    simp [hlo, hf, ofI, noI, t0, t32, t1]
  · have t0 : topN x ≠ 0 := fun e => h 30 (by decide) (by decide) (fitFE hx rfl (by rw [hlo, hf, e]; rfl))
    have t1 : topN x ≠ 1 := fun e => h 39 (by decide) (by decide) (fitFE hx rfl (by rw [hlo, hf, e]; rfl))
    unfold decN moreN
    simp [hlo, hf, ofI, noI, t0, t1]
  · have t0 : topN x ≠ 0 := fun e => h 31 (by decide) (by decide) (fitFE hx rfl (by rw [hlo, hf, e]; rfl))
    have t1 : topN x ≠ 1 := fun e => h 40 (by decide) (by decide) (fitFE hx rfl (by rw [hlo, hf, e]; rfl))
    unfold decN moreN
    simp [hlo, hf, ofI, noI, t0, t1]
  · have t0 : topN x ≠ 0 := fun e => h 32 (by decide) (by decide) (fitFE hx rfl (by rw [hlo, hf, e]; rfl))
    have t1 : topN x ≠ 1 := fun e => h 41 (by decide) (by decide) (fitFE hx rfl (by rw [hlo, hf, e]; rfl))
    unfold decN moreN
    simp [hlo, hf, ofI, noI, t0, t1]
  · have t0 : topN x ≠ 0 := fun e => h 33 (by decide) (by decide) (fitFE hx rfl (by rw [hlo, hf, e]; rfl))
    have t1 : topN x ≠ 1 := fun e => h 42 (by decide) (by decide) (fitFE hx rfl (by rw [hlo, hf, e]; rfl))
    unfold decN moreN
    simp [hlo, hf, ofI, noI, t0, t1]
  · have t0 : topN x ≠ 0 := fun e => h 34 (by decide) (by decide) (fitFE hx rfl (by rw [hlo, hf, e]; rfl))
    have t32 : topN x ≠ 32 := fun e => h 35 (by decide) (by decide) (fitFE hx rfl (by rw [hlo, hf, e]; rfl))
    have t1 : topN x ≠ 1 := fun e => h 43 (by decide) (by decide) (fitFE hx rfl (by rw [hlo, hf, e]; rfl))
    unfold decN moreN
    simp [hlo, hf, ofI, noI, t0, t32, t1]
  · have t0 : topN x ≠ 0 := fun e => h 36 (by decide) (by decide) (fitFE hx rfl (by rw [hlo, hf, e]; rfl))
    have t1 : topN x ≠ 1 := fun e => h 44 (by decide) (by decide) (fitFE hx rfl (by rw [hlo, hf, e]; rfl))
    unfold decN moreN
    simp [hlo, hf, ofI, noI, t0, t1]
  · have t0 : topN x ≠ 0 := fun e => h 37 (by decide) (by decide) (fitFE hx rfl (by rw [hlo, hf, e]; rfl))
    have t1 : topN x ≠ 1 := fun e => h 45 (by decide) (by decide) (fitFE hx rfl (by rw [hlo, hf, e]; rfl))
    unfold decN moreN
    simp [hlo, hf, ofI, noI, t0, t1]
theorem nl_15 (x : Nat) (hx : x < 4294967296) (h : ∀ k, 1 ≤ k → k < 57 → ¬ fitsK x k) (hlo : x % 128 = 15) : decN x = noI := by
  rcases f3_cases x with hf | hf | hf | hf | hf | hf | hf | hf
  · exact absurd (fit707F rfl (by rw [hlo, hf]; rfl)) (h 46 (by decide) (by decide))
  · unfold decN moreN
    simp [hlo, hf, ofI, noI]
  · unfold decN moreN
    simp [hlo, hf, ofI, noI]
  · unfold decN moreN
    simp [hlo, hf, ofI, noI]
  · unfold decN moreN
    simp [hlo, hf, ofI, noI]
  · unfold decN moreN
    simp [hlo, hf, ofI, noI]
  · unfold decN moreN
    simp [hlo, hf, ofI, noI]
  · unfold decN moreN
    simp [hlo, hf, ofI, noI]
theorem nl_115 (x : Nat) (hx : x < 4294967296) (h : ∀ k, 1 ≤ k → k < 57 → ¬ fitsK x k) (hlo : x % 128 = 115) : decN x = noI := by
  have n115 : x ≠ 115 := fun e => h 47 (by decide) (by decide) (fitN hx rfl e)
  have n1048691 : x ≠ 1048691 := fun e => h 48 (by decide) (by decide) (fitN hx rfl e)
  have n807403635 : x ≠ 807403635 := fun e => h 49 (by decide) (by decide) (fitN hx rfl e)
  have n273678451 : x ≠ 273678451 := fun e => h 50 (by decide) (by decide) (fitN hx rfl e)
  rcases f3_cases x with hf | hf | hf | hf | hf | hf | hf | hf
  · unfold decN moreN sysN
    simp [hlo, hf, ofI, noI, n115, n1048691, n807403635, n273678451]
  · exact absurd (fit707F rfl (by rw [hlo, hf]; rfl)) (h 51 (by decide) (by decide))
  · exact absurd (fit707F rfl (by rw [hlo, hf]; rfl)) (h 52 (by decide) (by decide))
  · exact absurd (fit707F rfl (by rw [hlo, hf]; rfl)) (h 53 (by decide) (by decide))
  · unfold decN moreN sysN
    simp [hlo, hf, ofI, noI, n115, n1048691, n807403635, n273678451]
  · exact absurd (fit707F rfl (by rw [hlo, hf]; rfl)) (h 54 (by decide) (by decide))
  · exact absurd (fit707F rfl (by rw [hlo, hf]; rfl)) (h 55 (by decide) (by decide))
  · exact absurd (fit707F rfl (by rw [hlo, hf]; rfl)) (h 56 (by decide) (by decide))
theorem dl_none (x : Nat) (hx : x < 4294967296) (h : ∀ k, 1 ≤ k → k < 57 → ¬ fitsK x k) : decN x = noI := by
  by_cases l55 : x % 128 = 55
  · exact nl_55 x hx h l55
  by_cases l23 : x % 128 = 23
  · exact nl_23 x hx h l23
  by_cases l111 : x % 128 = 111
  · exact nl_111 x hx h l111
  by_cases l103 : x % 128 = 103
  · exact nl_103 x hx h l103
  by_cases l99 : x % 128 = 99
  · exact nl_99 x hx h l99
  by_cases l3 : x % 128 = 3
  · exact nl_3 x hx h l3
  by_cases l35 : x % 128 = 35
  · exact nl_35 x hx h l35
  by_cases l19 : x % 128 = 19
  · exact nl_19 x hx h l19
  by_cases l51 : x % 128 = 51
  · exact nl_51 x hx h l51
  by_cases l15 : x % 128 = 15
  · exact nl_15 x hx h l15
  by_cases l115 : x % 128 = 115
  · exact nl_115 x hx h l115
  unfold decN moreN
  simp [l55, l23, l111, l103, l99, l3, l35, l19, l51, l15, l115]
end Go.Proofs.L
