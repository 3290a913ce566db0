/- Proved here: lemmas and contracts (Rr4) for the laws of this seat, for all values of the stated types; no further condition. -/
import Derived.Test.YtjiiojbenbldlaaRr3
import Derived.Test.YtjiiojbenbldlaaRr3b
import Derived.Test.YtjiiojbenbldlaaRr3c
import Derived.Test.YtjiiojbenbldlaaRr3d
import Derived.Test.YtjiiojbenbldlaaRr3e
import Derived.Test.YtjiiojbenbldlaaR22
open Go Go.RowKit Go.Lib
namespace Go.Proofs.L
theorem size_cases {ty : Int} (h : sizeN ty ≠ 0) : ty = 18 ∨ ty = 19 ∨ ty = 1 ∨ ty = 3 ∨ ty = 16 ∨ ty = 17 ∨ ty = 23 ∨ ty = 24 ∨ ty = 25 ∨ ty = 26 ∨ ty = 27 ∨ ty = 28 := by
  unfold sizeN at h
  by_cases h1 : ty = 18 ∨ ty = 19
  · omega
  · rw [if_neg h1] at h
    by_cases h2 : ty = 1 ∨ ty = 3 ∨ ty = 16 ∨ ty = 17 ∨ ty = 23 ∨ ty = 24 ∨ ty = 25 ∨ ty = 26 ∨ ty = 27 ∨ ty = 28
    · omega
    · rw [if_neg h2] at h
      exact absurd rfl h
theorem rval_any {w : World} {v : Jv} {Rs : List Rl} {Ys : List Nat} (hF : FileOk w v Rs Ys) (hlen : v.nrl < 1000000) (bias : Nat) (r : Rl) (hb : bias < 4294967296) (hra : r.at_ < 4294967296) (hadd : r.add < 4294967296) (hs : sizeN r.ty ≠ 0) :
    Calls Try.prog 12 #[.agg (fileA v), .int .i64 (bias : Int), .agg (RlC r).toArray] w (ValQ w (valN bias Rs Ys r)) := by
  obtain ⟨ra, ty, sy, add⟩ := r
  rcases size_cases hs with rfl | rfl | rfl | rfl | rfl | rfl | rfl | rfl | rfl | rfl | rfl | rfl
  · exact rval_18 hF hlen bias ra add sy hb hra hadd
  · exact rval_19 hF hlen bias ra add sy hb hra hadd
  · exact rval_1 hF hlen bias ra add sy hb hra hadd
  · exact rval_3 hF hlen bias ra add sy hb hra hadd
  · exact rval_16 hF hlen bias ra add sy hb hra hadd
  · exact rval_17 hF hlen bias ra add sy hb hra hadd
  · exact rval_23 hF hlen bias ra add sy hb hra hadd
  · exact rval_24 hF hlen bias ra add sy hb hra hadd
  · exact rval_25 hF hlen bias ra add sy hb hra hadd
  · exact rval_26 hF hlen bias ra add sy hb hra hadd
  · exact rval_27 hF hlen bias ra add sy hb hra hadd
  · exact rval_28 hF hlen bias ra add sy hb hra hadd
end Go.Proofs.L

open Go Go.RowKit Go.Lib
namespace Go.Proofs.L
/-! plain: what the reference does to memory at one relocation is what the program does -/
def newW (L w v : Nat) : Nat := if L = 87 then v else if L = 85 then setU w (upN v) else if L = 73 then setI w v else if L = 83 then setS w v else if L = 66 then setB w v else setJ w v
def refMem (f : Nat → Nat) (p : Nat) (ty : Int) (L v : Nat) : Nat → Nat :=
  if ty = 18 ∨ ty = 19 then stN (stN f (p - rb) (newW L (leN f (p - rb) 4) v) 4) (p + 4 - rb) (setI (leN f (p + 4 - rb) 4) v) 4 else stN f (p - rb) (newW L (leN f (p - rb) 4) v) 4
theorem st_comm (f : Nat → Nat) (o x y : Nat) : stN (stN f (o + 4) y 4) o x 4 = stN (stN f o x 4) (o + 4) y 4 := by
  funext i
  rw [stN_get, stN_get, stN_get, stN_get]
  by_cases h1 : o ≤ i ∧ i < o + 4
  · rw [if_pos h1, if_neg (by omega), if_pos h1]
  · rw [if_neg h1]
    by_cases h2 : o + 4 ≤ i ∧ i < o + 4 + 4
    · rw [if_pos h2, if_pos h2]
    · rw [if_neg h2, if_neg h2, if_neg h1]
theorem within_ram {Ss : List Sp} (hSs : ∀ s ∈ Ss, 2147483648 ≤ s.st ∧ s.st + s.sz ≤ 2147549184) {p n : Nat} (h : withinN Ss p n = true) : 2147483648 ≤ p ∧ p + n ≤ 2147549184 := by
  unfold withinN at h
  rw [List.any_eq_true] at h
  obtain ⟨s, hs, h⟩ := h
  have := of_decide_eq_true h
  have := hSs s hs
  omega
theorem may_true {bias : Nat} {Ss : List Sp} {r : Rl} (h : mayN bias Ss r = true) : sizeN r.ty ≠ 0 ∧ withinN Ss ((bias + r.at_) % 4294967296) (sizeN r.ty) = true ∧ ¬ (r.ty ≠ 1 ∧ r.ty ≠ 3 ∧ (bias + r.at_) % 4294967296 % 4 ≠ 0) ∧ ¬ (r.ty = 3 ∧ r.sy ≠ 0) := by
  unfold mayN at h
  rw [Bool.not_eq_true', Bool.or_eq_false_iff, Bool.or_eq_false_iff, Bool.or_eq_false_iff] at h
  obtain ⟨⟨⟨h1, h2⟩, h3⟩, h4⟩ := h
  exact ⟨of_decide_eq_false h1, by simpa using h2, of_decide_eq_false h3, of_decide_eq_false h4⟩
theorem may_false {bias : Nat} {Ss : List Sp} {r : Rl} (Rs : List Rl) (Ys : List Nat) (f : Nat → Nat) (h : mayN bias Ss r = false) : oneN bias Rs Ys Ss f r = (13, f) := by
  unfold mayN at h
  rw [Bool.not_eq_false', Bool.or_eq_true, Bool.or_eq_true, Bool.or_eq_true, decide_eq_true_eq, decide_eq_true_eq, decide_eq_true_eq] at h
  unfold oneN
  rcases h with ((h | h) | h) | h
  · rw [if_pos (.inl h)]
  · rw [if_pos (.inr (by simpa using h))]
  · by_cases h0 : sizeN r.ty = 0 ∨ withinN Ss ((bias + r.at_) % 4294967296) (sizeN r.ty) = false
    · rw [if_pos h0]
    · rw [if_neg h0, if_pos (.inl h)]
  · by_cases h0 : sizeN r.ty = 0 ∨ withinN Ss ((bias + r.at_) % 4294967296) (sizeN r.ty) = false
    · rw [if_pos h0]
    · rw [if_neg h0, if_pos (.inr h)]
theorem ld_ram {p : Nat} (f : Nat → Nat) (h : 2147483648 ≤ p ∧ p + 4 ≤ 2147549184) : ldN f p = (leN f (p - rb) 4, 0) := by
  unfold ldN inRam; rw [if_pos (decide_eq_true h)]
theorem sd_ram {p : Nat} (f : Nat → Nat) (x : Nat) (h : 2147483648 ≤ p ∧ p + 4 ≤ 2147549184) : sdN f p x = (stN f (p - rb) x 4, 0) := by
  unfold sdN inRam; rw [if_pos (decide_eq_true h)]
theorem fin_ram {p : Nat} (f : Nat → Nat) (x : Nat) (h : 2147483648 ≤ p ∧ p + 4 ≤ 2147549184) : finN f p x = (0, stN f (p - rb) x 4) := by
  unfold finN; rw [sd_ram f x h]
theorem one_ref {bias : Nat} {Ss : List Sp} {r : Rl} (Rs : List Rl) (Ys : List Nat) (f : Nat → Nat) (hSs : ∀ s ∈ Ss, 2147483648 ≤ s.st ∧ s.st + s.sz ≤ 2147549184) (h : mayN bias Ss r = true) :
    oneN bias Rs Ys Ss f r = if (valN bias Rs Ys r).2.2 ≠ 0 then ((valN bias Rs Ys r).2.2, f) else (0, refMem f ((bias + r.at_) % 4294967296) r.ty (valN bias Rs Ys r).2.1 (valN bias Rs Ys r).1) := by
  obtain ⟨h1, h2, h3, h4⟩ := may_true h
  have hw := within_ram hSs h2
  obtain ⟨ra, ty, sy, add⟩ := r
  simp only at *
  obtain ⟨p, hp⟩ : ∃ p, p = (bias + ra) % 4294967296 := ⟨_, rfl⟩
  rw [← hp] at h2 h3 hw ⊢
  have hs4 : 4 ≤ sizeN ty := by
    rcases size_cases h1 with rfl | rfl | rfl | rfl | rfl | rfl | rfl | rfl | rfl | rfl | rfl | rfl <;> decide
  have hr4 : 2147483648 ≤ p ∧ p + 4 ≤ 2147549184 := by omega
  unfold oneN
  simp only [← hp]
  rw [if_neg (by rw [h2]; simp [h1]), if_neg (by intro h; rcases h with h | h; exact h3 h; exact h4 h), ld_ram f hr4, if_neg (by intro h; exact h rfl)]
  obtain ⟨sa, hsa⟩ : ∃ s, s = (symN Ys bias sy + add) % 4294967296 := ⟨_, rfl⟩
  unfold tailN valN refMem newW
  simp only [← hp, ← hsa]
  rcases size_cases h1 with rfl | rfl | rfl | rfl | rfl | rfl | rfl | rfl | rfl | rfl | rfl | rfl
  · have h8 : sizeN 18 = 8 := by decide
    have e4 : (p + 4) % 4294967296 = p + 4 := by omega
    have hr8 : 2147483648 ≤ p + 4 ∧ p + 4 + 4 ≤ 2147549184 := by omega
    have e5 : p + 4 - rb = (p - rb) + 4 := by unfold rb; omega
    simp [e4, sd_ram f _ hr8, ld_ram f hr8, fin_ram _ _ hr4, e5, st_comm]
  · have h8 : sizeN 19 = 8 := by decide
    have e4 : (p + 4) % 4294967296 = p + 4 := by omega
    have hr8 : 2147483648 ≤ p + 4 ∧ p + 4 + 4 ≤ 2147549184 := by omega
    have e5 : p + 4 - rb = (p - rb) + 4 := by unfold rb; omega
    simp [e4, sd_ram f _ hr8, ld_ram f hr8, fin_ram _ _ hr4, e5, st_comm]
  · simp [fin_ram _ _ hr4]
  · simp [fin_ram _ _ hr4]
  · cases hfar : farN (subw sa p) 13 <;> simp [fin_ram _ _ hr4]
  · cases hfar : farN (subw sa p) 21 <;> simp [fin_ram _ _ hr4]
  · simp [fin_ram _ _ hr4]
  · by_cases h0 : (pairN Rs Ys bias sa).2 = false ∨ add ≠ 0
    · simp [h0]
    · simp [h0, fin_ram _ _ hr4]
  · by_cases h0 : (pairN Rs Ys bias sa).2 = false ∨ add ≠ 0
    · simp [h0]
    · simp [h0, fin_ram _ _ hr4]
  · simp [fin_ram _ _ hr4]
  · simp [fin_ram _ _ hr4]
  · simp [fin_ram _ _ hr4]
theorem val_facts {bias : Nat} {Rs : List Rl} {Ys : List Nat} {r : Rl} (h : sizeN r.ty ≠ 0) (hb : bias < 4294967296) : (valN bias Rs Ys r).1 < 4294967296 ∧ (valN bias Rs Ys r).2.2 < 100 ∧ ((valN bias Rs Ys r).2.2 = 0 →
    (((valN bias Rs Ys r).2.1 = 85 ∧ (r.ty = 18 ∨ r.ty = 19)) ∨ (r.ty ≠ 18 ∧ r.ty ≠ 19 ∧ ((valN bias Rs Ys r).2.1 = 87 ∨ (valN bias Rs Ys r).2.1 = 85 ∨ (valN bias Rs Ys r).2.1 = 73 ∨ (valN bias Rs Ys r).2.1 = 83 ∨ (valN bias Rs Ys r).2.1 = 66 ∨ (valN bias Rs Ys r).2.1 = 74)))) := by
  obtain ⟨ra, ty, sy, add⟩ := r
  have hsl : (symN Ys bias sy + add) % 4294967296 < 4294967296 := Nat.mod_lt _ (by decide)
  have hbl : (bias + add) % 4294967296 < 4294967296 := Nat.mod_lt _ (by decide)
  unfold valN
  obtain ⟨p, hp⟩ : ∃ p, p = (bias + ra) % 4294967296 := ⟨_, rfl⟩
  obtain ⟨sa, hsa⟩ : ∃ s, s = (symN Ys bias sy + add) % 4294967296 := ⟨_, rfl⟩
  simp only [← hp, ← hsa]
  rw [← hsa] at hsl
  have hq := pairN_lt Rs Ys bias sa
  have hsub := subw_lt sa p
  rcases size_cases h with rfl | rfl | rfl | rfl | rfl | rfl | rfl | rfl | rfl | rfl | rfl | rfl
  · simp [hsub]
  · simp [hsub]
  · simp [hsl]
  · simp [hbl]
  · cases hfar : farN (subw sa p) 13 <;> simp [hsub]
  · cases hfar : farN (subw sa p) 21 <;> simp [hsub]
  · simp [hsub]
  · by_cases h0 : (pairN Rs Ys bias sa).2 = false ∨ add ≠ 0 <;> simp [h0, hq]
  · by_cases h0 : (pairN Rs Ys bias sa).2 = false ∨ add ≠ 0 <;> simp [h0, hq]
  · simp [hsl]
  · simp [hsl]
  · simp [hsl]
end Go.Proofs.L
