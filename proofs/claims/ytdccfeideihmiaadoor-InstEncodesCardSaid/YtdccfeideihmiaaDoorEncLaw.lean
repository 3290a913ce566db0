/- Proved here: lemmas and contracts (EncLaw) for the laws of this seat, for all values of the stated types; no further condition. -/
import Derived.Test.YtdccfeideihmiaaDoorWords
import Derived.Test.YtdccfeideihmiaaDoorEncodeAll
open Go Go.RowKit Go.Lib
namespace Go.Proofs.L
set_option maxRecDepth 100000 in
theorem enc_any (k rd rs1 rs2 imm : Nat) (h1 : 1 ≤ k) (h2 : k < 57) (hrd : rd < 32) (hrs1 : rs1 < 32) (hrs2 : rs2 < 32) (hi : imm < 4294967296) (W : World) (h : LaidOk W) :
    Calls Tryd.prog 12 #[.agg (insA k rd rs1 rs2 imm)] W fun e w' => e = .returned (.tuple #[.int .u32 ((encP (frmL k) (wrdC k) rd rs1 rs2 imm : Nat) : Int), .bool (okP (frmL k) rd rs1 rs2 imm)]) ∧ Chg [] W w' := by
  obtain ⟨hc, hc32, _⟩ := letK k h2 h1
  rcases frm_letter k h2 h1 with hl | hl | hl | hl | hl | hl | hl | hl | hl | hl | hl <;> rw [hl]
  · exact enc_U k rd rs1 rs2 imm _ (form_U k h2 hl) hc hc32 h2 hrd hrs1 hrs2 hi W h
  · exact enc_J k rd rs1 rs2 imm _ (form_J k h2 hl) hc hc32 h2 hrd hrs1 hrs2 hi W h
  · exact enc_I k rd rs1 rs2 imm _ (form_I k h2 hl) hc hc32 h2 hrd hrs1 hrs2 hi W h
  · exact enc_B k rd rs1 rs2 imm _ (form_B k h2 hl) hc hc32 h2 hrd hrs1 hrs2 hi W h
  · exact enc_S k rd rs1 rs2 imm _ (form_S k h2 hl) hc hc32 h2 hrd hrs1 hrs2 hi W h
  · exact enc_R k rd rs1 rs2 imm _ (form_R k h2 hl) hc hc32 h2 hrd hrs1 hrs2 hi W h
  · exact enc_T k rd rs1 rs2 imm _ (form_T k h2 hl) hc hc32 h2 hrd hrs1 hrs2 hi W h
  · exact enc_N k rd rs1 rs2 imm _ (form_N k h2 hl) hc hc32 h2 hrd hrs1 hrs2 hi W h
  · exact enc_C k rd rs1 rs2 imm _ (form_C k h2 hl) hc hc32 h2 hrd hrs1 hrs2 hi W h
  · exact enc_Z k rd rs1 rs2 imm _ (form_Z k h2 hl) hc hc32 h2 hrd hrs1 hrs2 hi W h
  · exact enc_N k rd rs1 rs2 imm _ (form_F k h2 hl) hc hc32 h2 hrd hrs1 hrs2 hi W h
theorem orz (a b : Nat) : (a ||| b = 0) ↔ (a = 0 ∧ b = 0) := Nat.or_eq_zero_iff
theorem fence_only : ∀ k, k < 57 → frmL k = 70 → k = 46 := by decide
theorem back_any (x k : Nat) (hx : x < 4294967296) (h1 : 1 ≤ k) (h2 : k < 57) (hf : fitsK x k) :
    (decN x).op = k ∧ (decN x).rd < 32 ∧ (decN x).rs1 < 32 ∧ (decN x).rs2 < 32 ∧ (decN x).imm < 4294967296 ∧ okP (frmL k) (decN x).rd (decN x).rs1 (decN x).rs2 (decN x).imm = true ∧
      (encP (frmL k) (wrdC k) (decN x).rd (decN x).rs1 (decN x).rs2 (decN x).imm = x ∨ (k = 46 ∧ encP (frmL k) (wrdC k) (decN x).rd (decN x).rs1 (decN x).rs2 (decN x).imm = 15)) := by
  have hen := dl_any x k hx h1 h2 hf
  rcases frm_letter k h2 h1 with hl | hl | hl | hl | hl | hl | hl | hl | hl | hl | hl
  · have hm : x &&& 127 = wrdC k := by have := hf; unfold fitsK at this; rw [hl] at this; exact this
    rw [hl, ent_U k x _ hx hl hen]
    exact ⟨rfl, rdN_lt x, Nat.lt_of_lt_of_le Nat.zero_lt_one (by decide), Nat.lt_of_lt_of_le Nat.zero_lt_one (by decide), by show immU x < _; unfold immU; omega, by show (decide (immU x &&& 4095 = 0) && decide (0 ||| 0 = 0)) = true; rw [show (4095 : Nat) = 2 ^ 12 - 1 from rfl, and_low, show immU x % 2 ^ 12 = 0 by unfold immU; omega]; simp, .inl (by rw [← hm]; exact backU x hx)⟩
  · have hm : x &&& 127 = wrdC k := by have := hf; unfold fitsK at this; rw [hl] at this; exact this
    rw [hl, ent_J k x _ hx hl hen]
    exact ⟨rfl, rdN_lt x, Nat.lt_of_lt_of_le Nat.zero_lt_one (by decide), Nat.lt_of_lt_of_le Nat.zero_lt_one (by decide), sx_lt _ _ (.inr (.inr rfl)), by show (decide (sx 21 (immJ x) = immJ x) && decide (immJ x % 2 = 0) && decide (0 ||| 0 = 0)) = true; rw [show sx 21 (immJ x) = immJ x from sx_sx 21 _ (.inr (.inr rfl)), show immJ x % 2 = 0 from sx_even 21 _ (.inr rfl) (by omega)]; simp, .inl (by rw [← hm]; exact backJ x hx)⟩
  · have hm : x &&& 28799 = wrdC k := by have := hf; unfold fitsK at this; rw [hl] at this; exact this
    rw [hl, ent_I k x _ hx hl hen]
    exact ⟨rfl, rdN_lt x, rs1N_lt x, Nat.lt_of_lt_of_le Nat.zero_lt_one (by decide), sx_lt _ _ (.inl rfl), by show (decide (sx 12 (immI x) = immI x) && decide (0 = 0)) = true; rw [show sx 12 (immI x) = immI x from sx_sx 12 _ (.inl rfl)]; simp, .inl (by rw [← hm]; exact backI x hx)⟩
  · have hm : x &&& 28799 = wrdC k := by have := hf; unfold fitsK at this; rw [hl] at this; exact this
    rw [hl, ent_B k x _ hx hl hen]
    exact ⟨rfl, Nat.lt_of_lt_of_le Nat.zero_lt_one (by decide), rs1N_lt x, rs2N_lt x, sx_lt _ _ (.inr (.inl rfl)), by show (decide (sx 13 (immB x) = immB x) && decide (immB x % 2 = 0) && decide (0 = 0)) = true; rw [show sx 13 (immB x) = immB x from sx_sx 13 _ (.inr (.inl rfl)), show immB x % 2 = 0 from sx_even 13 _ (.inl rfl) (by omega)]; simp, .inl (by rw [← hm]; exact backB x hx)⟩
  · have hm : x &&& 28799 = wrdC k := by have := hf; unfold fitsK at this; rw [hl] at this; exact this
    rw [hl, ent_S k x _ hx hl hen]
    exact ⟨rfl, Nat.lt_of_lt_of_le Nat.zero_lt_one (by decide), rs1N_lt x, rs2N_lt x, sx_lt _ _ (.inl rfl), by show (decide (sx 12 (immS x) = immS x) && decide (0 = 0)) = true; rw [show sx 12 (immS x) = immS x from sx_sx 12 _ (.inl rfl)]; simp, .inl (by rw [← hm]; exact backS x hx)⟩
  · have hm : x &&& 4261441663 = wrdC k := by have := hf; unfold fitsK at this; rw [hl] at this; exact this
    rw [hl, ent_R k x _ hx hl hen]
    exact ⟨rfl, rdN_lt x, rs1N_lt x, rs2N_lt x, Nat.lt_of_lt_of_le Nat.zero_lt_one (by decide), by show decide (0 = 0) = true; rfl, .inl (by rw [← hm]; exact backR x hx)⟩
  · have hm : x &&& 4261441663 = wrdC k := by have := hf; unfold fitsK at this; rw [hl] at this; exact this
    rw [hl, ent_T k x _ hx hl hen]
    exact ⟨rfl, rdN_lt x, rs1N_lt x, Nat.lt_of_lt_of_le Nat.zero_lt_one (by decide), by show x / 1048576 % 32 < _; omega, by show (decide (x / 1048576 % 32 < 32) && decide (0 = 0)) = true; simp; omega, .inl (by rw [← hm]; exact backT x hx)⟩
  · have hm : x &&& 4294967295 = wrdC k := by have := hf; unfold fitsK at this; rw [hl] at this; exact this
    rw [hl, ent_N k x _ hx hl hen]
    exact ⟨rfl, Nat.lt_of_lt_of_le Nat.zero_lt_one (by decide), Nat.lt_of_lt_of_le Nat.zero_lt_one (by decide), Nat.lt_of_lt_of_le Nat.zero_lt_one (by decide), Nat.lt_of_lt_of_le Nat.zero_lt_one (by decide), rfl, .inl (by show wrdC k = x; rw [← hm, show (4294967295 : Nat) = 2 ^ 32 - 1 from rfl, and_low]; omega)⟩
  · have hm : x &&& 28799 = wrdC k := by have := hf; unfold fitsK at this; rw [hl] at this; exact this
    rw [hl, ent_C k x _ hx hl hen]
    exact ⟨rfl, rdN_lt x, rs1N_lt x, Nat.lt_of_lt_of_le Nat.zero_lt_one (by decide), by show x / 1048576 % 4096 < _; omega, by show (decide (x / 1048576 % 4096 < 4096) && decide (0 = 0)) = true; simp; omega, .inl (by rw [← hm]; exact backC x hx)⟩
  · have hm : x &&& 28799 = wrdC k := by have := hf; unfold fitsK at this; rw [hl] at this; exact this
    rw [hl, ent_Z k x _ hx hl hen]
    exact ⟨rfl, rdN_lt x, rs1N_lt x, Nat.lt_of_lt_of_le Nat.zero_lt_one (by decide), by show x / 1048576 % 4096 < _; omega, by show (decide (x / 1048576 % 4096 < 4096) && decide (0 = 0)) = true; simp; omega, .inl (by rw [← hm]; exact backC x hx)⟩
  · have hm : x &&& 28799 = wrdC k := by have := hf; unfold fitsK at this; rw [hl] at this; exact this
    rw [hl, ent_F k x _ hx hl hen]
    exact ⟨rfl, Nat.lt_of_lt_of_le Nat.zero_lt_one (by decide), Nat.lt_of_lt_of_le Nat.zero_lt_one (by decide), Nat.lt_of_lt_of_le Nat.zero_lt_one (by decide), Nat.lt_of_lt_of_le Nat.zero_lt_one (by decide), rfl, .inr ⟨fence_only k h2 hl, by show wrdC k = 15; rw [fence_only k h2 hl]; rfl⟩⟩
theorem i5_eq (k a b c d a' b' c' d' : Nat) : ((⟨k, a, b, c, d⟩ : I5) = ⟨k, a', b', c', d'⟩) ↔ (a = a' ∧ b = b' ∧ c = c' ∧ d = d') := by simp
theorem ev13 (imm : Nat) (hi : imm < 4294967296) : (sx 13 imm = imm ∧ imm % 2 = 0) ↔ sx 13 (imm / 2 ^ 1 * 2 ^ 1) = imm := by
  rw [sx13n, sx13n]; split <;> split <;> omega
theorem ev21 (imm : Nat) (hi : imm < 4294967296) : (sx 21 imm = imm ∧ imm % 2 = 0) ↔ sx 21 (imm / 2 ^ 1 * 2 ^ 1) = imm := by
  rw [sx21n, sx21n]; split <;> split <;> omega
theorem ok_iff (k rd rs1 rs2 imm w : Nat) (h1 : 1 ≤ k) (h2 : k < 57) (hrd : rd < 32) (hrs1 : rs1 < 32) (hrs2 : rs2 < 32) (hi : imm < 4294967296) (hw : w = encR (frmL k) (wrdC k) rd rs1 rs2 imm) :
    w < 4294967296 ∧ (okP (frmL k) rd rs1 rs2 imm = true ↔ decN w = ⟨k, rd, rs1, rs2, imm⟩) ∧ (okP (frmL k) rd rs1 rs2 imm = true → encP (frmL k) (wrdC k) rd rs1 rs2 imm = w) := by
  have hm := (letK k h2 h1).2.2
  rcases frm_letter k h2 h1 with hl | hl | hl | hl | hl | hl | hl | hl | hl | hl | hl <;> rw [hl] at hw hm ⊢
  · obtain ⟨w32, hf, hd⟩ := de_U k rd rs1 rs2 imm w h1 h2 hl hrd hrs1 hrs2 hi hw
    refine ⟨w32, ?_, ?_⟩
    · rw [hd, i5_eq]
      show (decide (imm &&& 4095 = 0) && decide (rs1 ||| rs2 = 0)) = true ↔ _
      simp only [Bool.and_eq_true, decide_eq_true_eq, true_and, eq_self_iff_true, and_true, eq_comm (a := 0)]
      rw [Nat.shiftLeft_eq, Nat.shiftRight_eq_div_pow, show (4095 : Nat) = 2 ^ 12 - 1 from rfl, and_low]; have := orz rs1 rs2; omega
    · intro ho
      rw [hw]
      replace ho : (decide (imm &&& 4095 = 0) && decide (rs1 ||| rs2 = 0)) = true := ho
      simp only [Bool.and_eq_true, decide_eq_true_eq] at ho
      show wrdC k ||| rd * 128 ||| imm = setU (wrdC k ||| rd * 128) imm
      rw [setU_or _ _ hm hrd, Nat.shiftLeft_eq, Nat.shiftRight_eq_div_pow, show imm / 2 ^ 12 * 2 ^ 12 = imm by have := ho.1; rw [show (4095 : Nat) = 2 ^ 12 - 1 from rfl, and_low] at this; omega]
  · obtain ⟨w32, hf, hd⟩ := de_J k rd rs1 rs2 imm w h1 h2 hl hrd hrs1 hrs2 hi hw
    refine ⟨w32, ?_, ?_⟩
    · rw [hd, i5_eq]
      show (decide (sx 21 imm = imm) && decide (imm % 2 = 0) && decide (rs1 ||| rs2 = 0)) = true ↔ _
      simp only [Bool.and_eq_true, decide_eq_true_eq, true_and, eq_self_iff_true, and_true, eq_comm (a := 0)]
      rw [Nat.shiftLeft_eq, Nat.shiftRight_eq_div_pow]; have := ev21 imm hi; have := orz rs1 rs2; omega
    · exact fun _ => hw.symm
  · obtain ⟨w32, hf, hd⟩ := de_I k rd rs1 rs2 imm w h1 h2 hl hrd hrs1 hrs2 hi hw
    refine ⟨w32, ?_, ?_⟩
    · rw [hd, i5_eq]
      show (decide (sx 12 imm = imm) && decide (rs2 = 0)) = true ↔ _
      simp only [Bool.and_eq_true, decide_eq_true_eq, true_and, eq_self_iff_true, and_true, eq_comm (a := 0)]
      omega
    · exact fun _ => hw.symm
  · obtain ⟨w32, hf, hd⟩ := de_B k rd rs1 rs2 imm w h1 h2 hl hrd hrs1 hrs2 hi hw
    refine ⟨w32, ?_, ?_⟩
    · rw [hd, i5_eq]
      show (decide (sx 13 imm = imm) && decide (imm % 2 = 0) && decide (rd = 0)) = true ↔ _
      simp only [Bool.and_eq_true, decide_eq_true_eq, true_and, eq_self_iff_true, and_true, eq_comm (a := 0)]
      rw [Nat.shiftLeft_eq, Nat.shiftRight_eq_div_pow]; have := ev13 imm hi; omega
    · exact fun _ => hw.symm
  · obtain ⟨w32, hf, hd⟩ := de_S k rd rs1 rs2 imm w h1 h2 hl hrd hrs1 hrs2 hi hw
    refine ⟨w32, ?_, ?_⟩
    · rw [hd, i5_eq]
      show (decide (sx 12 imm = imm) && decide (rd = 0)) = true ↔ _
      simp only [Bool.and_eq_true, decide_eq_true_eq, true_and, eq_self_iff_true, and_true, eq_comm (a := 0)]
      omega
    · exact fun _ => hw.symm
  · obtain ⟨w32, hf, hd⟩ := de_R k rd rs1 rs2 imm w h1 h2 hl hrd hrs1 hrs2 hi hw
    refine ⟨w32, ?_, ?_⟩
    · rw [hd, i5_eq]
      show decide (imm = 0) = true ↔ _
      simp only [Bool.and_eq_true, decide_eq_true_eq, true_and, eq_self_iff_true, and_true, eq_comm (a := 0)]
      try omega
    · exact fun _ => hw.symm
  · obtain ⟨w32, hf, hd⟩ := de_T k rd rs1 rs2 imm w h1 h2 hl hrd hrs1 hrs2 hi hw
    refine ⟨w32, ?_, ?_⟩
    · rw [hd, i5_eq]
      show (decide (imm < 32) && decide (rs2 = 0)) = true ↔ _
      simp only [Bool.and_eq_true, decide_eq_true_eq, true_and, eq_self_iff_true, and_true, eq_comm (a := 0)]
      omega
    · intro ho
      rw [hw]
      replace ho : (decide (imm < 32) && decide (rs2 = 0)) = true := ho
      simp only [Bool.and_eq_true, decide_eq_true_eq] at ho
      show wrdC k ||| rd * 128 ||| rs1 * 32768 ||| (imm * 1048576 % 4294967296) = wrdC k ||| rd * 128 ||| rs1 * 32768 ||| (imm % 32) * 1048576
      rw [show imm * 1048576 % 4294967296 = imm % 32 * 1048576 by omega]
  · obtain ⟨w32, hf, hd⟩ := de_N k rd rs1 rs2 imm w h1 h2 hl hrd hrs1 hrs2 hi hw
    refine ⟨w32, ?_, ?_⟩
    · rw [hd, i5_eq]
      show (decide (rd = 0) && decide (rs1 = 0) && decide (rs2 = 0) && decide (imm = 0)) = true ↔ _
      simp only [Bool.and_eq_true, decide_eq_true_eq, true_and, eq_self_iff_true, and_true, eq_comm (a := 0)]
      omega
    · exact fun _ => hw.symm
  · obtain ⟨w32, hf, hd⟩ := de_C k rd rs1 rs2 imm w h1 h2 hl hrd hrs1 hrs2 hi hw
    refine ⟨w32, ?_, ?_⟩
    · rw [hd, i5_eq]
      show (decide (imm < 4096) && decide (rs2 = 0)) = true ↔ _
      simp only [Bool.and_eq_true, decide_eq_true_eq, true_and, eq_self_iff_true, and_true, eq_comm (a := 0)]
      omega
    · intro ho
      rw [hw]
      replace ho : (decide (imm < 4096) && decide (rs2 = 0)) = true := ho
      simp only [Bool.and_eq_true, decide_eq_true_eq] at ho
      show wrdC k ||| rd * 128 ||| rs1 * 32768 ||| (imm * 1048576 % 4294967296) = wrdC k ||| rd * 128 ||| rs1 * 32768 ||| (imm % 4096) * 1048576
      rw [show imm * 1048576 % 4294967296 = imm % 4096 * 1048576 by omega]
  · obtain ⟨w32, hf, hd⟩ := de_Z k rd rs1 rs2 imm w h1 h2 hl hrd hrs1 hrs2 hi hw
    refine ⟨w32, ?_, ?_⟩
    · rw [hd, i5_eq]
      show (decide (imm < 4096) && decide (rs2 = 0)) = true ↔ _
      simp only [Bool.and_eq_true, decide_eq_true_eq, true_and, eq_self_iff_true, and_true, eq_comm (a := 0)]
      omega
    · intro ho
      rw [hw]
      replace ho : (decide (imm < 4096) && decide (rs2 = 0)) = true := ho
      simp only [Bool.and_eq_true, decide_eq_true_eq] at ho
      show wrdC k ||| rd * 128 ||| rs1 * 32768 ||| (imm * 1048576 % 4294967296) = wrdC k ||| rd * 128 ||| rs1 * 32768 ||| (imm % 4096) * 1048576
      rw [show imm * 1048576 % 4294967296 = imm % 4096 * 1048576 by omega]
  · obtain ⟨w32, hf, hd⟩ := de_F k rd rs1 rs2 imm w h1 h2 hl hrd hrs1 hrs2 hi hw
    refine ⟨w32, ?_, ?_⟩
    · rw [hd, i5_eq]
      show (decide (rd = 0) && decide (rs1 = 0) && decide (rs2 = 0) && decide (imm = 0)) = true ↔ _
      simp only [Bool.and_eq_true, decide_eq_true_eq, true_and, eq_self_iff_true, and_true, eq_comm (a := 0)]
      omega
    · exact fun _ => hw.symm
end Go.Proofs.L
