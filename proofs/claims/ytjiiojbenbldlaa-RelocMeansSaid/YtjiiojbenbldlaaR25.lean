/- Proved here: lemmas and contracts (R25) for the laws of this seat, for all values of the stated types; no further condition. -/
import Derived.Test.YtjiiojbenbldlaaR23
open Go Go.RowKit Go.Lib
namespace Go.Proofs.L
/-! what Apply makes of an upper and a lower part (RelocPairs) -/
theorem ld0 (f : Nat → Nat) : ldN f 2147487744 = (leN f 4096 4, 0) := by unfold ldN; rw [if_pos (by decide)]; rfl
theorem ld4 (f : Nat → Nat) : ldN f 2147487748 = (leN f 4100 4, 0) := by unfold ldN; rw [if_pos (by decide)]; rfl
theorem fin0 (f : Nat → Nat) (x : Nat) : finN f 2147487744 x = (0, stN f 4096 x 4) := by unfold finN sdN; rw [if_pos (by decide)]; rfl
theorem fin4 (f : Nat → Nat) (x : Nat) : finN f 2147487748 x = (0, stN f 4100 x 4) := by unfold finN sdN; rw [if_pos (by decide)]; rfl
theorem pair_one0 (f : Nat → Nat) (Rs : List Rl) (Ys : List Nat) (ty sy : Int) (add : Nat) (hs : sizeN ty = 4) (h1 : ty ≠ 3) :
    oneN 2147487744 Rs Ys [⟨2147487744, 8, 0⟩] f ⟨0, ty, sy, add⟩ = tailN 2147487744 Rs Ys f 2147487744 ty ((symN Ys 2147487744 sy + add) % 4294967296) (leN f 4096 4) add := by
  unfold oneN
  rw [if_neg (by
    show ¬ (sizeN ty = 0 ∨ withinN [⟨2147487744, 8, 0⟩] 2147487744 (sizeN ty) = false)
    rw [hs]
    decide), if_neg (by
    show ¬ ((ty ≠ 1 ∧ ty ≠ 3 ∧ (2147487744 + 0) % 4294967296 % 4 ≠ 0) ∨ (ty = 3 ∧ sy ≠ 0))
    omega), if_neg (by show ¬ (ldN f 2147487744).2 ≠ 0; rw [ld0]; exact fun h => h rfl)]
  show tailN 2147487744 Rs Ys f 2147487744 ty ((symN Ys 2147487744 sy + add) % 4294967296) (ldN f 2147487744).1 add = _
  rw [ld0]
theorem pair_one4 (f : Nat → Nat) (Rs : List Rl) (Ys : List Nat) (ty sy : Int) (add : Nat) (hs : sizeN ty = 4) (h1 : ty ≠ 3) :
    oneN 2147487744 Rs Ys [⟨2147487744, 8, 0⟩] f ⟨4, ty, sy, add⟩ = tailN 2147487744 Rs Ys f 2147487748 ty ((symN Ys 2147487744 sy + add) % 4294967296) (leN f 4100 4) add := by
  unfold oneN
  rw [if_neg (by
    show ¬ (sizeN ty = 0 ∨ withinN [⟨2147487744, 8, 0⟩] 2147487748 (sizeN ty) = false)
    rw [hs]
    decide), if_neg (by
    show ¬ ((ty ≠ 1 ∧ ty ≠ 3 ∧ (2147487744 + 4) % 4294967296 % 4 ≠ 0) ∨ (ty = 3 ∧ sy ≠ 0))
    omega), if_neg (by show ¬ (ldN f 2147487748).2 ≠ 0; rw [ld4]; exact fun h => h rfl)]
  show tailN 2147487744 Rs Ys f 2147487748 ty ((symN Ys 2147487744 sy + add) % 4294967296) (ldN f 2147487748).1 add = _
  rw [ld4]
theorem tail23 (Rs : List Rl) (Ys : List Nat) (f : Nat → Nat) (b p val w add : Nat) : tailN b Rs Ys f p 23 val w add = finN f p (setU w (upN (subw val p))) := by
  unfold tailN
  rw [if_neg (show ¬ ((23 : Int) = 3) by decide), if_neg (show ¬ ((23 : Int) = 1) by decide), if_neg (show ¬ ((23 : Int) = 16) by decide), if_neg (show ¬ ((23 : Int) = 17) by decide), if_neg (show ¬ ((23 : Int) = 18 ∨ (23 : Int) = 19) by decide), if_pos rfl]
theorem tail26 (Rs : List Rl) (Ys : List Nat) (f : Nat → Nat) (b p val w add : Nat) : tailN b Rs Ys f p 26 val w add = finN f p (setU w (upN val)) := by
  unfold tailN
  rw [if_neg (show ¬ ((26 : Int) = 3) by decide), if_neg (show ¬ ((26 : Int) = 1) by decide), if_neg (show ¬ ((26 : Int) = 16) by decide), if_neg (show ¬ ((26 : Int) = 17) by decide), if_neg (show ¬ ((26 : Int) = 18 ∨ (26 : Int) = 19) by decide), if_neg (show ¬ ((26 : Int) = 23) by decide), if_pos rfl]
theorem tail28 (Rs : List Rl) (Ys : List Nat) (f : Nat → Nat) (b p val w add : Nat) : tailN b Rs Ys f p 28 val w add = finN f p (setS w val) := by
  unfold tailN
  rw [if_neg (show ¬ ((28 : Int) = 3) by decide), if_neg (show ¬ ((28 : Int) = 1) by decide), if_neg (show ¬ ((28 : Int) = 16) by decide), if_neg (show ¬ ((28 : Int) = 17) by decide), if_neg (show ¬ ((28 : Int) = 18 ∨ (28 : Int) = 19) by decide), if_neg (show ¬ ((28 : Int) = 23) by decide), if_neg (show ¬ ((28 : Int) = 26) by decide), if_neg (show ¬ ((28 : Int) = 27) by decide), if_pos rfl]
theorem tail24 (Rs : List Rl) (Ys : List Nat) (f : Nat → Nat) (b p val w d : Nat) (hp : pairN Rs Ys b val = (d, true)) : tailN b Rs Ys f p 24 val w 0 = finN f p (setI w d) := by
  unfold tailN
  rw [if_neg (show ¬ ((24 : Int) = 3) by decide), if_neg (show ¬ ((24 : Int) = 1) by decide), if_neg (show ¬ ((24 : Int) = 16) by decide), if_neg (show ¬ ((24 : Int) = 17) by decide), if_neg (show ¬ ((24 : Int) = 18 ∨ (24 : Int) = 19) by decide), if_neg (show ¬ ((24 : Int) = 23) by decide), if_neg (show ¬ ((24 : Int) = 26) by decide), if_neg (show ¬ ((24 : Int) = 27) by decide), if_neg (show ¬ ((24 : Int) = 28) by decide), if_neg (by rw [hp]; simp), if_neg (show ¬ ((24 : Int) = 25) by decide), hp]
def R1 (add : Nat) : List Rl := [⟨0, 23, 1, add⟩, ⟨4, 24, 2, 0⟩]
def R2 (add : Nat) : List Rl := [⟨0, 26, 1, add⟩, ⟨4, 28, 1, add⟩]
def wantN (value add : Nat) : Nat := ((2147487744 + value) % 4294967296 + add) % 4294967296
theorem sym1 (value : Nat) (L : List Nat) : symN (0 :: value :: L) 2147487744 1 = (2147487744 + value) % 4294967296 := by
  unfold symN
  rw [if_neg (by simp only [List.length_cons]; omega)]
  rfl
theorem pair_find (value add : Nat) : pairN (R1 add) [0, value, 0] 2147487744 2147487744 = (subw (wantN value add) 2147487744, true) := by
  have h : (R1 add).find? (pairP 2147487744 2147487744) = some ⟨0, 23, 1, add⟩ := by
    unfold R1
    rw [List.find?_cons_of_pos rfl]
  unfold pairN
  rw [h]
  show (pairV [0, value, 0] 2147487744 2147487744 ⟨0, 23, 1, add⟩, true) = _
  unfold pairV wantN
  rw [sym1]
/-- memory behind the first pair -/
def M1 (w0 w1 d : Nat) (f : Nat → Nat) : Nat → Nat := stN (stN f 4096 (setU w0 (upN d)) 4) 4100 (setI w1 d) 4
def M2 (w0 w1 v : Nat) (f : Nat → Nat) : Nat → Nat := stN (stN f 4096 (setU w0 (upN v)) 4) 4100 (setS w1 v) 4
theorem pairs1 (w0 w1 value add d : Nat) (f : Nat → Nat) (h0 : leN f 4096 4 = w0) (h1 : leN f 4100 4 = w1) (hd : d = subw (wantN value add) 2147487744) :
    applyN 2147487744 (R1 add) [0, value, 0] [⟨2147487744, 8, 0⟩] (R1 add) f = (0, M1 w0 w1 d f) := by
  have e1 : oneN 2147487744 (R1 add) [0, value, 0] [⟨2147487744, 8, 0⟩] f ⟨0, 23, 1, add⟩ = (0, stN f 4096 (setU w0 (upN d)) 4) := by
    rw [pair_one0 f (R1 add) [0, value, 0] 23 1 add (by decide) (by decide), tail23, h0, fin0, sym1, hd]
    rfl
  have e2 : oneN 2147487744 (R1 add) [0, value, 0] [⟨2147487744, 8, 0⟩] (stN f 4096 (setU w0 (upN d)) 4) ⟨4, 24, 2, 0⟩ = (0, M1 w0 w1 d f) := by
    rw [pair_one4 _ (R1 add) [0, value, 0] 24 2 0 (by decide) (by decide)]
    have hs : (symN [0, value, 0] 2147487744 2 + 0) % 4294967296 = 2147487744 := rfl
    rw [hs, tail24 (d := d) (hp := by rw [hd]; exact pair_find value add), leN_apart _ _ _ _ (by omega), h1, fin4]
    rfl
  show (if (oneN 2147487744 (R1 add) [0, value, 0] [⟨2147487744, 8, 0⟩] f ⟨0, 23, 1, add⟩).1 ≠ 0 then _ else applyN 2147487744 (R1 add) [0, value, 0] [⟨2147487744, 8, 0⟩] [⟨4, 24, 2, 0⟩] _) = _
  rw [e1, if_neg (fun h => h rfl)]
  show (if (oneN 2147487744 (R1 add) [0, value, 0] [⟨2147487744, 8, 0⟩] (stN f 4096 (setU w0 (upN d)) 4) ⟨4, 24, 2, 0⟩).1 ≠ 0 then _ else applyN 2147487744 (R1 add) [0, value, 0] [⟨2147487744, 8, 0⟩] [] _) = _
  rw [e2, if_neg (fun h => h rfl)]
  rfl
theorem pairs2 (w0 w1 value add : Nat) (f : Nat → Nat) (h0 : leN f 4096 4 = w0) (h1 : leN f 4100 4 = w1) :
    applyN 2147487744 (R2 add) [0, value] [⟨2147487744, 8, 0⟩] (R2 add) f = (0, M2 w0 w1 (wantN value add) f) := by
  have e1 : oneN 2147487744 (R2 add) [0, value] [⟨2147487744, 8, 0⟩] f ⟨0, 26, 1, add⟩ = (0, stN f 4096 (setU w0 (upN (wantN value add))) 4) := by
    rw [pair_one0 f (R2 add) [0, value] 26 1 add (by decide) (by decide), tail26, h0, fin0, sym1]
    rfl
  have e2 : oneN 2147487744 (R2 add) [0, value] [⟨2147487744, 8, 0⟩] (stN f 4096 (setU w0 (upN (wantN value add))) 4) ⟨4, 28, 1, add⟩ = (0, M2 w0 w1 (wantN value add) f) := by
    rw [pair_one4 _ (R2 add) [0, value] 28 1 add (by decide) (by decide), tail28, leN_apart _ _ _ _ (by omega), h1, fin4, sym1]
    rfl
  show (if (oneN 2147487744 (R2 add) [0, value] [⟨2147487744, 8, 0⟩] f ⟨0, 26, 1, add⟩).1 ≠ 0 then _ else applyN 2147487744 (R2 add) [0, value] [⟨2147487744, 8, 0⟩] [⟨4, 28, 1, add⟩] _) = _
  rw [e1, if_neg (fun h => h rfl)]
  show (if (oneN 2147487744 (R2 add) [0, value] [⟨2147487744, 8, 0⟩] (stN f 4096 (setU w0 (upN (wantN value add))) 4) ⟨4, 28, 1, add⟩).1 ≠ 0 then _ else applyN 2147487744 (R2 add) [0, value] [⟨2147487744, 8, 0⟩] [] _) = _
  rw [e2, if_neg (fun h => h rfl)]
  rfl
theorem M1_lo (w0 w1 d : Nat) (f : Nat → Nat) : leN (M1 w0 w1 d f) 4096 4 = setU w0 (upN d) := by
  unfold M1; rw [leN_apart _ _ _ _ (by omega), leN_same _ _ _ (setU_lt _ _ (upN_lt d))]
theorem M1_hi (w0 w1 d : Nat) (f : Nat → Nat) : leN (M1 w0 w1 d f) 4100 4 = setI w1 d := by
  unfold M1; rw [leN_same _ _ _ (setI_lt _ _)]
theorem M2_lo (w0 w1 d : Nat) (f : Nat → Nat) : leN (M2 w0 w1 d f) 4096 4 = setU w0 (upN d) := by
  unfold M2; rw [leN_apart _ _ _ _ (by omega), leN_same _ _ _ (setU_lt _ _ (upN_lt d))]
theorem M2_hi (w0 w1 d : Nat) (f : Nat → Nat) : leN (M2 w0 w1 d f) 4100 4 = setS w1 d := by
  unfold M2; rw [leN_same _ _ _ (setS_lt _ _)]
theorem M1_lt (w0 w1 d : Nat) (f : Nat → Nat) (hf : ∀ i, f i < 256) : ∀ i, M1 w0 w1 d f i < 256 := fun i => stN_lt _ (fun j => stN_lt _ hf _ _ _ j) _ _ _ i
theorem M2_lt (w0 w1 d : Nat) (f : Nat → Nat) (hf : ∀ i, f i < 256) : ∀ i, M2 w0 w1 d f i < 256 := fun i => stN_lt _ (fun j => stN_lt _ hf _ _ _ j) _ _ _ i
/-- two words laid -/
def M0 (w0 w1 : Nat) : Nat → Nat := stN (stN zN 4096 w0 4) 4100 w1 4
theorem M0_lo (w0 w1 : Nat) (h : w0 < 4294967296) : leN (M0 w0 w1) 4096 4 = w0 := by unfold M0; rw [leN_apart _ _ _ _ (by omega), leN_same _ _ _ h]
theorem M0_hi (w0 w1 : Nat) (h : w1 < 4294967296) : leN (M0 w0 w1) 4100 4 = w1 := by unfold M0; rw [leN_same _ _ _ h]
theorem M0_lt (w0 w1 : Nat) : ∀ i, M0 w0 w1 i < 256 := fun i => stN_lt _ (fun j => stN_lt _ zN_lt _ _ _ j) _ _ _ i
theorem rU_bd (x : Nat) (hx : x < 4294967296) : -2147483648 ≤ rU x ∧ rU x < 2147483648 := by unfold rU; rw [sgn32]; split <;> omega
theorem rI_bd (x : Nat) : -2048 ≤ rI x ∧ rI x < 2048 := by unfold rI; rw [sgn12]; split <;> omega
theorem rS_bd (x : Nat) : -2048 ≤ rS x ∧ rS x < 2048 := by unfold rS; rw [sgn12]; split <;> omega
theorem sum1 (w0 w1 d want : Nat) (hw : want < 4294967296) (hd : d = subw want 2147487744) : (2147487744 + rU (setU w0 (upN d)) + rI (setI w1 d)) % 4294967296 = (want : Int) := by
  have h := upper_low d w0 0 (by rw [hd]; exact subw_lt _ _)
  rw [rI_set]
  generalize rU (setU w0 (upN d)) = a at *
  generalize sgn 12 (d % 4096) = b at *
  unfold subw at hd
  omega
theorem sum2 (w0 w1 v : Nat) (hv : v < 4294967296) : (rU (setU w0 (upN v)) + rS (setS w1 v)) % 4294967296 = (v : Int) := by
  have h := upper_low v w0 0 hv
  rw [rS_set]
  generalize rU (setU w0 (upN v)) = a at *
  generalize sgn 12 (v % 4096) = b at *
  omega
end Go.Proofs.L
