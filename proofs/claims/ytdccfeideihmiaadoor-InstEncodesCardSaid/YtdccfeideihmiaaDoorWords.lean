/- Proved here: lemmas and contracts (Words) for the laws of this seat, for all values of the stated types; no further condition. -/
import Derived.Test.YtdccfeideihmiaaDoorLetters
open Go Go.RowKit Go.Lib
namespace Go.Proofs.L
def encP (c cw rd rs1 rs2 imm : Nat) : Nat :=
  if c = 73 then setI (cw ||| rd * 128 ||| rs1 * 32768) imm
  else if c = 83 then setS (cw ||| rs1 * 32768 ||| rs2 * 1048576) imm
  else if c = 66 then setB (cw ||| rs1 * 32768 ||| rs2 * 1048576) imm
  else if c = 74 then setJ (cw ||| rd * 128) imm
  else if c = 85 then cw ||| rd * 128 ||| imm
  else if c = 82 then cw ||| rd * 128 ||| rs1 * 32768 ||| rs2 * 1048576
  else if c = 84 then cw ||| rd * 128 ||| rs1 * 32768 ||| (imm * 1048576 % 4294967296)
  else if c = 67 ∨ c = 90 then cw ||| rd * 128 ||| rs1 * 32768 ||| (imm * 1048576 % 4294967296)
  else cw
def encR (c cw rd rs1 rs2 imm : Nat) : Nat :=
  if c = 73 then setI (cw ||| rd * 128 ||| rs1 * 32768) imm
  else if c = 83 then setS (cw ||| rs1 * 32768 ||| rs2 * 1048576) imm
  else if c = 66 then setB (cw ||| rs1 * 32768 ||| rs2 * 1048576) imm
  else if c = 74 then setJ (cw ||| rd * 128) imm
  else if c = 85 then setU (cw ||| rd * 128) imm
  else if c = 82 then cw ||| rd * 128 ||| rs1 * 32768 ||| rs2 * 1048576
  else if c = 84 then cw ||| rd * 128 ||| rs1 * 32768 ||| (imm % 32) * 1048576
  else if c = 67 ∨ c = 90 then cw ||| rd * 128 ||| rs1 * 32768 ||| (imm % 4096) * 1048576
  else cw
def okP (c rd rs1 rs2 imm : Nat) : Bool :=
  if c = 73 then decide (sx 12 imm = imm) && decide (rs2 = 0)
  else if c = 83 then decide (sx 12 imm = imm) && decide (rd = 0)
  else if c = 66 then decide (sx 13 imm = imm) && decide (imm % 2 = 0) && decide (rd = 0)
  else if c = 74 then decide (sx 21 imm = imm) && decide (imm % 2 = 0) && decide (rs1 ||| rs2 = 0)
  else if c = 85 then decide (imm &&& 4095 = 0) && decide (rs1 ||| rs2 = 0)
  else if c = 82 then decide (imm = 0)
  else if c = 84 then decide (imm < 32) && decide (rs2 = 0)
  else if c = 67 ∨ c = 90 then decide (imm < 4096) && decide (rs2 = 0)
  else decide (rd = 0) && decide (rs1 = 0) && decide (rs2 = 0) && decide (imm = 0)
theorem tbmN12 : ∀ i, i < 32 → Nat.testBit 4294963200 i = decide (12 ≤ i) := by decide
theorem setU_or (cw rd : Nat) {imm : Nat} (hm : cw &&& 127 = cw) (hr : rd < 32) : setU (cw ||| rd * 128) imm = cw ||| rd * 128 ||| (imm >>> 12) <<< 12 := by
  unfold setU
  have h : (cw ||| rd * 128) < 4096 := Nat.or_lt_two_pow (n := 12) (by rw [← hm]; have : cw &&& 127 ≤ 127 := Nat.and_le_right; omega) (by omega)
  rw [show (4095 : Nat) = 2 ^ 12 - 1 from rfl, and_low, Nat.mod_eq_of_lt h]
theorem de_I (k rd rs1 rs2 imm w : Nat) (h1 : 1 ≤ k) (h2 : k < 57) (hl : frmL k = 73) (hrd : rd < 32) (hrs1 : rs1 < 32) (hrs2 : rs2 < 32) (hi : imm < 4294967296) (hw : w = encR 73 (wrdC k) rd rs1 rs2 imm) : w < 4294967296 ∧ fitsK w k ∧ decN w = (⟨k, rd, rs1, 0, sx 12 imm⟩ : I5) := by
  obtain ⟨_, hc32, hm⟩ := letK k h2 h1
  rw [hl] at hm
  replace hm : wrdC k &&& 28799 = wrdC k := hm
  replace hw : w = setI (wrdC k ||| rd * 128 ||| rs1 * 32768) imm := hw
  have e : w = setI (((wrdC k &&& 28799) ||| (rd &&& 31) <<< 7) ||| (rs1 &&& 31) <<< 15) imm := by rw [hw, hm, low31 _ hrd, low31 _ hrs1, ← s7, ← s15]
  have hw32 : w < 4294967296 := by rw [e]; exact lt_I _ _ _ _ 
  have hfit : fitsK w k := by unfold fitsK; rw [hl]; show w &&& 28799 = _; rw [msk_I _ _ _ _ w e, hm]
  have ei : immI w = sx 12 imm := by unfold immI; refine sx_mod _ _ _ ?_; rw [and_mod _ 12 4095 rfl, and_mod _ 12 4095 rfl, ← Nat.shiftRight_eq_div_pow w 20]; exact im_I _ _ _ _ w e
  exact ⟨hw32, hfit, by rw [ent_I k w _ hw32 hl (dl_any w k hw32 h1 h2 hfit), rdN_b w, rdN_I _ _ _ _ w e, low31 _ hrd, rs1N_b w, rs1N_I _ _ _ _ w e, low31 _ hrs1, ei]⟩
theorem de_S (k rd rs1 rs2 imm w : Nat) (h1 : 1 ≤ k) (h2 : k < 57) (hl : frmL k = 83) (hrd : rd < 32) (hrs1 : rs1 < 32) (hrs2 : rs2 < 32) (hi : imm < 4294967296) (hw : w = encR 83 (wrdC k) rd rs1 rs2 imm) : w < 4294967296 ∧ fitsK w k ∧ decN w = (⟨k, 0, rs1, rs2, sx 12 imm⟩ : I5) := by
  obtain ⟨_, hc32, hm⟩ := letK k h2 h1
  rw [hl] at hm
  replace hm : wrdC k &&& 28799 = wrdC k := hm
  replace hw : w = setS (wrdC k ||| rs1 * 32768 ||| rs2 * 1048576) imm := hw
  have e : w = setS (((wrdC k &&& 28799) ||| (rs1 &&& 31) <<< 15) ||| (rs2 &&& 31) <<< 20) imm := by rw [hw, hm, low31 _ hrs1, low31 _ hrs2, ← s15, ← s20]
  have hw32 : w < 4294967296 := by rw [e]; exact lt_S _ _ _ _ 
  have hfit : fitsK w k := by unfold fitsK; rw [hl]; show w &&& 28799 = _; rw [msk_S _ _ _ _ w e, hm]
  have ei : immS w = sx 12 imm := by unfold immS; refine sx_mod _ _ _ ?_; rw [and_mod _ 12 4095 rfl, and_mod _ 12 4095 rfl, immS_or]; exact im_S _ _ _ _ w e
  exact ⟨hw32, hfit, by rw [ent_S k w _ hw32 hl (dl_any w k hw32 h1 h2 hfit), rs1N_b w, rs1N_S _ _ _ _ w e, low31 _ hrs1, rs2N_b w, rs2N_S _ _ _ _ w e, low31 _ hrs2, ei]⟩
theorem de_B (k rd rs1 rs2 imm w : Nat) (h1 : 1 ≤ k) (h2 : k < 57) (hl : frmL k = 66) (hrd : rd < 32) (hrs1 : rs1 < 32) (hrs2 : rs2 < 32) (hi : imm < 4294967296) (hw : w = encR 66 (wrdC k) rd rs1 rs2 imm) : w < 4294967296 ∧ fitsK w k ∧ decN w = (⟨k, 0, rs1, rs2, sx 13 ((imm >>> 1) <<< 1)⟩ : I5) := by
  obtain ⟨_, hc32, hm⟩ := letK k h2 h1
  rw [hl] at hm
  replace hm : wrdC k &&& 28799 = wrdC k := hm
  replace hw : w = setB (wrdC k ||| rs1 * 32768 ||| rs2 * 1048576) imm := hw
  have e : w = setB (((wrdC k &&& 28799) ||| (rs1 &&& 31) <<< 15) ||| (rs2 &&& 31) <<< 20) imm := by rw [hw, hm, low31 _ hrs1, low31 _ hrs2, ← s15, ← s20]
  have hw32 : w < 4294967296 := by rw [e]; exact lt_B _ _ _ _ 
  have hfit : fitsK w k := by unfold fitsK; rw [hl]; show w &&& 28799 = _; rw [msk_B _ _ _ _ w e, hm]
  have ei : immB w = sx 13 ((imm >>> 1) <<< 1) := by unfold immB; refine sx_mod _ _ _ ?_; rw [and_mod _ 13 8191 rfl, and_mod _ 13 8191 rfl, immB_or]; exact im_B _ _ _ _ w e
  exact ⟨hw32, hfit, by rw [ent_B k w _ hw32 hl (dl_any w k hw32 h1 h2 hfit), rs1N_b w, rs1N_B _ _ _ _ w e, low31 _ hrs1, rs2N_b w, rs2N_B _ _ _ _ w e, low31 _ hrs2, ei]⟩
theorem de_J (k rd rs1 rs2 imm w : Nat) (h1 : 1 ≤ k) (h2 : k < 57) (hl : frmL k = 74) (hrd : rd < 32) (hrs1 : rs1 < 32) (hrs2 : rs2 < 32) (hi : imm < 4294967296) (hw : w = encR 74 (wrdC k) rd rs1 rs2 imm) : w < 4294967296 ∧ fitsK w k ∧ decN w = (⟨k, rd, 0, 0, sx 21 ((imm >>> 1) <<< 1)⟩ : I5) := by
  obtain ⟨_, hc32, hm⟩ := letK k h2 h1
  rw [hl] at hm
  replace hm : wrdC k &&& 127 = wrdC k := hm
  replace hw : w = setJ (wrdC k ||| rd * 128) imm := hw
  have e : w = setJ ((wrdC k &&& 127) ||| (rd &&& 31) <<< 7) imm := by rw [hw, hm, low31 _ hrd, ← s7]
  have hw32 : w < 4294967296 := by rw [e]; exact lt_J _ _ _ 
  have hfit : fitsK w k := by unfold fitsK; rw [hl]; show w &&& 127 = _; rw [msk_J _ _ _ w e, hm]
  have ei : immJ w = sx 21 ((imm >>> 1) <<< 1) := by unfold immJ; refine sx_mod _ _ _ ?_; rw [and_mod _ 21 2097151 rfl, and_mod _ 21 2097151 rfl, immJ_or]; exact im_J _ _ _ w e
  exact ⟨hw32, hfit, by rw [ent_J k w _ hw32 hl (dl_any w k hw32 h1 h2 hfit), rdN_b w, rdN_J _ _ _ w e, low31 _ hrd, ei]⟩
theorem de_U (k rd rs1 rs2 imm w : Nat) (h1 : 1 ≤ k) (h2 : k < 57) (hl : frmL k = 85) (hrd : rd < 32) (hrs1 : rs1 < 32) (hrs2 : rs2 < 32) (hi : imm < 4294967296) (hw : w = encR 85 (wrdC k) rd rs1 rs2 imm) : w < 4294967296 ∧ fitsK w k ∧ decN w = (⟨k, rd, 0, 0, (imm >>> 12) <<< 12⟩ : I5) := by
  obtain ⟨_, hc32, hm⟩ := letK k h2 h1
  rw [hl] at hm
  replace hm : wrdC k &&& 127 = wrdC k := hm
  replace hw : w = setU (wrdC k ||| rd * 128) imm := hw
  have e : w = (((wrdC k &&& 127) ||| (rd &&& 31) <<< 7) ||| (imm >>> 12) <<< 12) := by rw [hw, hm, low31 _ hrd, ← s7, setU_or _ _ hm hrd]
  have hw32 : w < 4294967296 := by rw [e]; exact lt_U _ _ _  hi
  have hfit : fitsK w k := by unfold fitsK; rw [hl]; show w &&& 127 = _; rw [msk_U _ _ _ w hi e, hm]
  have ei : immU w = (imm >>> 12) <<< 12 := by rw [iu_or]; exact im_U _ _ _ w hi e
  exact ⟨hw32, hfit, by rw [ent_U k w _ hw32 hl (dl_any w k hw32 h1 h2 hfit), rdN_b w, rdN_U _ _ _ w hi e, low31 _ hrd, ei]⟩
theorem de_R (k rd rs1 rs2 imm w : Nat) (h1 : 1 ≤ k) (h2 : k < 57) (hl : frmL k = 82) (hrd : rd < 32) (hrs1 : rs1 < 32) (hrs2 : rs2 < 32) (hi : imm < 4294967296) (hw : w = encR 82 (wrdC k) rd rs1 rs2 imm) : w < 4294967296 ∧ fitsK w k ∧ decN w = (⟨k, rd, rs1, rs2, 0⟩ : I5) := by
  obtain ⟨_, hc32, hm⟩ := letK k h2 h1
  rw [hl] at hm
  replace hm : wrdC k &&& 4261441663 = wrdC k := hm
  replace hw : w = wrdC k ||| rd * 128 ||| rs1 * 32768 ||| rs2 * 1048576 := hw
  have e : w = ((((wrdC k &&& 4261441663) ||| (rd &&& 31) <<< 7) ||| (rs1 &&& 31) <<< 15) ||| (rs2 &&& 31) <<< 20) := by rw [hw, hm, low31 _ hrd, low31 _ hrs1, low31 _ hrs2, ← s7, ← s15, ← s20]
  have hw32 : w < 4294967296 := by rw [e]; exact lt_R _ _ _ _ 
  have hfit : fitsK w k := by unfold fitsK; rw [hl]; show w &&& 4261441663 = _; rw [msk_R _ _ _ _ w e, hm]
  have ei : True := trivial
  exact ⟨hw32, hfit, by rw [ent_R k w _ hw32 hl (dl_any w k hw32 h1 h2 hfit), rdN_b w, rdN_R _ _ _ _ w e, low31 _ hrd, rs1N_b w, rs1N_R _ _ _ _ w e, low31 _ hrs1, rs2N_b w, rs2N_R _ _ _ _ w e, low31 _ hrs2]⟩
theorem de_T (k rd rs1 rs2 imm w : Nat) (h1 : 1 ≤ k) (h2 : k < 57) (hl : frmL k = 84) (hrd : rd < 32) (hrs1 : rs1 < 32) (hrs2 : rs2 < 32) (hi : imm < 4294967296) (hw : w = encR 84 (wrdC k) rd rs1 rs2 imm) : w < 4294967296 ∧ fitsK w k ∧ decN w = (⟨k, rd, rs1, 0, imm % 32⟩ : I5) := by
  obtain ⟨_, hc32, hm⟩ := letK k h2 h1
  rw [hl] at hm
  replace hm : wrdC k &&& 4261441663 = wrdC k := hm
  replace hw : w = wrdC k ||| rd * 128 ||| rs1 * 32768 ||| (imm % 32) * 1048576 := hw
  have e : w = ((((wrdC k &&& 4261441663) ||| (rd &&& 31) <<< 7) ||| (rs1 &&& 31) <<< 15) ||| (imm &&& 31) <<< 20) := by rw [hw, hm, low31 _ hrd, low31 _ hrs1, ← s7, ← s15, s20 (imm % 32), and_mod imm 5 31 rfl]
  have hw32 : w < 4294967296 := by rw [e]; exact lt_T _ _ _ _ 
  have hfit : fitsK w k := by unfold fitsK; rw [hl]; show w &&& 4261441663 = _; rw [msk_T _ _ _ _ w e, hm]
  have ei : w / 1048576 % 32 = imm % 32 := by rw [and_mod _ 5 31 rfl, and_mod _ 5 31 rfl, ← Nat.shiftRight_eq_div_pow w 20]; exact im_T _ _ _ _ w e
  exact ⟨hw32, hfit, by rw [ent_T k w _ hw32 hl (dl_any w k hw32 h1 h2 hfit), rdN_b w, rdN_T _ _ _ _ w e, low31 _ hrd, rs1N_b w, rs1N_T _ _ _ _ w e, low31 _ hrs1, ei]⟩
theorem de_C (k rd rs1 rs2 imm w : Nat) (h1 : 1 ≤ k) (h2 : k < 57) (hl : frmL k = 67) (hrd : rd < 32) (hrs1 : rs1 < 32) (hrs2 : rs2 < 32) (hi : imm < 4294967296) (hw : w = encR 67 (wrdC k) rd rs1 rs2 imm) : w < 4294967296 ∧ fitsK w k ∧ decN w = (⟨k, rd, rs1, 0, imm % 4096⟩ : I5) := by
  obtain ⟨_, hc32, hm⟩ := letK k h2 h1
  rw [hl] at hm
  replace hm : wrdC k &&& 28799 = wrdC k := hm
  replace hw : w = wrdC k ||| rd * 128 ||| rs1 * 32768 ||| (imm % 4096) * 1048576 := hw
  have e : w = ((((wrdC k &&& 28799) ||| (rd &&& 31) <<< 7) ||| (rs1 &&& 31) <<< 15) ||| (imm &&& 4095) <<< 20) := by rw [hw, hm, low31 _ hrd, low31 _ hrs1, ← s7, ← s15, s20 (imm % 4096), and_mod imm 12 4095 rfl]
  have hw32 : w < 4294967296 := by rw [e]; exact lt_C _ _ _ _ 
  have hfit : fitsK w k := by unfold fitsK; rw [hl]; show w &&& 28799 = _; rw [msk_C _ _ _ _ w e, hm]
  have ei : w / 1048576 % 4096 = imm % 4096 := by rw [and_mod _ 12 4095 rfl, and_mod _ 12 4095 rfl, ← Nat.shiftRight_eq_div_pow w 20]; exact im_C _ _ _ _ w e
  exact ⟨hw32, hfit, by rw [ent_C k w _ hw32 hl (dl_any w k hw32 h1 h2 hfit), rdN_b w, rdN_C _ _ _ _ w e, low31 _ hrd, rs1N_b w, rs1N_C _ _ _ _ w e, low31 _ hrs1, ei]⟩
theorem de_Z (k rd rs1 rs2 imm w : Nat) (h1 : 1 ≤ k) (h2 : k < 57) (hl : frmL k = 90) (hrd : rd < 32) (hrs1 : rs1 < 32) (hrs2 : rs2 < 32) (hi : imm < 4294967296) (hw : w = encR 90 (wrdC k) rd rs1 rs2 imm) : w < 4294967296 ∧ fitsK w k ∧ decN w = (⟨k, rd, rs1, 0, imm % 4096⟩ : I5) := by
  obtain ⟨_, hc32, hm⟩ := letK k h2 h1
  rw [hl] at hm
  replace hm : wrdC k &&& 28799 = wrdC k := hm
  replace hw : w = wrdC k ||| rd * 128 ||| rs1 * 32768 ||| (imm % 4096) * 1048576 := hw
  have e : w = ((((wrdC k &&& 28799) ||| (rd &&& 31) <<< 7) ||| (rs1 &&& 31) <<< 15) ||| (imm &&& 4095) <<< 20) := by rw [hw, hm, low31 _ hrd, low31 _ hrs1, ← s7, ← s15, s20 (imm % 4096), and_mod imm 12 4095 rfl]
  have hw32 : w < 4294967296 := by rw [e]; exact lt_C _ _ _ _ 
  have hfit : fitsK w k := by unfold fitsK; rw [hl]; show w &&& 28799 = _; rw [msk_C _ _ _ _ w e, hm]
  have ei : w / 1048576 % 4096 = imm % 4096 := by rw [and_mod _ 12 4095 rfl, and_mod _ 12 4095 rfl, ← Nat.shiftRight_eq_div_pow w 20]; exact im_C _ _ _ _ w e
  exact ⟨hw32, hfit, by rw [ent_Z k w _ hw32 hl (dl_any w k hw32 h1 h2 hfit), rdN_b w, rdN_C _ _ _ _ w e, low31 _ hrd, rs1N_b w, rs1N_C _ _ _ _ w e, low31 _ hrs1, ei]⟩
theorem de_N (k rd rs1 rs2 imm w : Nat) (h1 : 1 ≤ k) (h2 : k < 57) (hl : frmL k = 78) (hrd : rd < 32) (hrs1 : rs1 < 32) (hrs2 : rs2 < 32) (hi : imm < 4294967296) (hw : w = encR 78 (wrdC k) rd rs1 rs2 imm) : w < 4294967296 ∧ fitsK w k ∧ decN w = (⟨k, 0, 0, 0, 0⟩ : I5) := by
  obtain ⟨_, hc32, hm⟩ := letK k h2 h1
  rw [hl] at hm
  replace hm : wrdC k &&& 4294967295 = wrdC k := hm
  replace hw : w = wrdC k := hw
  have hw32 : w < 4294967296 := by rw [hw]; exact hc32
  have hfit : fitsK w k := by unfold fitsK; rw [hl]; show w &&& 4294967295 = _; rw [hw, hm]
  exact ⟨hw32, hfit, ent_N k w _ hw32 hl (dl_any w k hw32 h1 h2 hfit)⟩
theorem de_F (k rd rs1 rs2 imm w : Nat) (h1 : 1 ≤ k) (h2 : k < 57) (hl : frmL k = 70) (hrd : rd < 32) (hrs1 : rs1 < 32) (hrs2 : rs2 < 32) (hi : imm < 4294967296) (hw : w = encR 70 (wrdC k) rd rs1 rs2 imm) : w < 4294967296 ∧ fitsK w k ∧ decN w = (⟨k, 0, 0, 0, 0⟩ : I5) := by
  obtain ⟨_, hc32, hm⟩ := letK k h2 h1
  rw [hl] at hm
  replace hm : wrdC k &&& 28799 = wrdC k := hm
  replace hw : w = wrdC k := hw
  have hw32 : w < 4294967296 := by rw [hw]; exact hc32
  have hfit : fitsK w k := by unfold fitsK; rw [hl]; show w &&& 28799 = _; rw [hw, hm]
  exact ⟨hw32, hfit, ent_F k w _ hw32 hl (dl_any w k hw32 h1 h2 hfit)⟩
end Go.Proofs.L
