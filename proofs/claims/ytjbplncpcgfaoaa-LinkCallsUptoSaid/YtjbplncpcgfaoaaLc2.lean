/- Proved here: lemmas and contracts (Lc2) for the laws of this seat, for all values of the stated types; no further condition. -/
import Derived.Test.YtjbplncpcgfaoaaLm6
import Derived.Test.YtjbplncpcgfaoaaLc1
open Go Go.RowKit Go.Lib Go.Maps
namespace Go.Proofs.L.M
attribute [local irreducible] wpT
/-! LinkCalls, the plain law: what the relocations write, and what is read then -/
theorem leN_modM (F : Nat → Nat) (X p : Nat) : ∀ n, (∀ j, j < n → F (p + j) = X / 2 ^ (8 * j) % 256) → leN F p n = X % 2 ^ (8 * n)
  | 0, _ => by simp [leN, Nat.mod_one]
  | n + 1, h => by
    rw [leN, leN_modM F X p n (fun j hj => h j (by omega)), h n (by omega), show 8 * (n + 1) = 8 * n + 8 from by omega, Nat.pow_add, Nat.mod_mul, Nat.mul_comm (X / _ % _)]
theorem withinN_true {Ss : List Sp} {a n : Nat} {s : Sp} (h : s ∈ Ss) (hd : s.st ≤ a ∧ a + n ≤ s.st + s.sz) : withinN Ss a n = true := by
  obtain ⟨j, hj⟩ := List.mem_iff_getElem?.1 h
  exact withinN_hit Ss a n j s hj hd
theorem apply_words {bias q : Nat} {R0 : List Rl} {Ys : List Nat} {Ss : List Sp} (vr : Rl → Nat) : ∀ (Rs : List Rl) (f : Nat → Nat), (∀ r ∈ Rs, ∀ g, oneN bias R0 Ys Ss g r = (0, stN g (q + r.at_) (vr r) 4)) →
    applyN bias R0 Ys Ss Rs f = (0, Rs.foldl (fun g r => stN g (q + r.at_) (vr r) 4) f)
  | [], _, _ => rfl
  | r :: Rs, f, h => by
    rw [applyN, h r (by simp)]
    simp only [ne_eq, not_true_eq_false, if_false, List.foldl_cons]
    exact apply_words vr Rs _ fun x hx g => h x (by simp [hx]) g
def rlC (n : Nat) (C : List (List Nat)) (j : Nat) : Rl := ⟨256 + atC C j, 1, (numG ((j + 1) % n) : Nat), j⟩
def rlsC (n : Nat) (C : List (List Nat)) : List Rl := (List.range n).map (rlC n C)
def valC (n bias : Nat) (C : List (List Nat)) (j : Nat) : Nat := bias + 256 + atC C ((j + 1) % n) + 4 + j
theorem one_C {n bias q : Nat} {C D : List (List Nat)} {L : List Ob} {R0 : List Rl} {Ss : List Sp} (h : LsC n C D L) (hb : bias = 2147483648 + q) (hq : q < 16384) {s0 : Sp} (hs : s0 ∈ Ss) (h1 : s0.st = bias + 256) (h2 : s0.sz = atC C n) {j : Nat} (hj : j < n) (g : Nat → Nat) :
    oneN bias R0 (0 :: (defsL L).map (·.2)) Ss g (rlC n C j) = (0, stN g (q + (256 + atC C j)) (valC n bias C j) 4) := by
  have hn8 := h.n8
  have ht := h.tot
  have hm := atC_mono C (show j + 1 ≤ n by omega)
  rw [atC_succ] at hm
  have hk : (j + 1) % n < n := Nat.mod_lt _ (by omega)
  have hmk := atC_mono C (show (j + 1) % n + 1 ≤ n by omega)
  rw [atC_succ] at hmk
  have hsy := sym_C h hk
  have hat : (bias + (256 + atC C j)) % 4294967296 = bias + (256 + atC C j) := by omega
  have hw : withinN Ss (bias + (256 + atC C j)) 4 = true := withinN_true hs (by rw [h1, h2]; omega)
  have hram : inRam (bias + (256 + atC C j)) 4 = true := by unfold inRam; rw [decide_eq_true_eq]; omega
  have hrb : bias + (256 + atC C j) - rb = q + (256 + atC C j) := by unfold rb; omega
  have hsN : symN (0 :: (defsL L).map (·.2)) bias ((numG ((j + 1) % n) : Nat) : Int) = bias + (256 + atC C ((j + 1) % n) + 4) := by
    unfold symN
    have hl := (List.getElem?_eq_some_iff.1 hsy).1
    have h0 : 0 < numG ((j + 1) % n) := by unfold numG; split <;> omega
    rw [if_neg (by omega), Int.toNat_natCast, List.getD_eq_getElem?_getD, hsy]
    show (bias + (256 + atC C ((j + 1) % n) + 4)) % 4294967296 = _
    omega
  have hv : (bias + (256 + atC C ((j + 1) % n) + 4) + j) % 4294967296 = valC n bias C j := by unfold valC; omega
  unfold oneN rlC
  simp only []
  rw [hat, show sizeN 1 = 4 from rfl, hw, if_neg (by simp), if_neg (by simp)]
  unfold ldN
  rw [hram, if_pos rfl, if_neg (by simp), hsN, hv]
  unfold tailN finN sdN
  rw [hram, if_pos rfl, hrb]
theorem apply_C {n bias q : Nat} {C D : List (List Nat)} {L : List Ob} {Ss : List Sp} (h : LsC n C D L) (hb : bias = 2147483648 + q) (hq : q < 16384) {s0 : Sp} (hs : s0 ∈ Ss) (h1 : s0.st = bias + 256) (h2 : s0.sz = atC C n) (f : Nat → Nat) :
    applyN bias (rlsC n C) (0 :: (defsL L).map (·.2)) Ss (rlsC n C) f = (0, (List.range n).foldl (fun g j => stN g (q + (256 + atC C j)) (valC n bias C j) 4) f) := by
  have e := apply_words (bias := bias) (q := q) (R0 := rlsC n C) (Ys := 0 :: (defsL L).map (·.2)) (Ss := Ss) (fun r => valC n bias C r.add) (rlsC n C) f (fun r hr g => by
    unfold rlsC at hr
    rw [List.mem_map] at hr
    obtain ⟨j, hj, rfl⟩ := hr
    exact one_C h hb hq hs h1 h2 (List.mem_range.1 hj) g)
  rw [e]
  congr 1
  conv => lhs; unfold rlsC
  rw [List.foldl_map]
  rfl
/-- what is read where a reference stood -/
theorem read_C {q : Nat} {C : List (List Nat)} (v : Nat → Nat) (f : Nat → Nat) : ∀ (k : Nat) (i : Nat), i < k → ∀ t, t < 4 →
    ((List.range k).foldl (fun g j => stN g (q + (256 + atC C j)) (v j) 4) f) (q + (256 + atC C i) + t) = v i / 2 ^ (8 * t) % 256
  | 0, i, hi, _, _ => by omega
  | k + 1, i, hi, t, ht => by
    rw [List.range_succ, List.foldl_append, List.foldl_cons, List.foldl_nil, stN_get]
    by_cases hik : i = k
    · subst hik
      rw [if_pos (by omega), show q + (256 + atC C i) + t - (q + (256 + atC C i)) = t by omega]
    · have := atC_mono C (show i ≤ k by omega)
      rw [if_neg (by omega)]
      exact read_C v f k i (by omega) t ht
theorem load_C {n q i bias : Nat} {C : List (List Nat)} (f : Nat → Nat) (hi : i < n) (hv : valC n bias C i < 4294967296) :
    leN ((List.range n).foldl (fun g j => stN g (q + (256 + atC C j)) (valC n bias C j) 4) f) (q + (256 + atC C i)) 4 = valC n bias C i := by
  rw [leN_modM _ (valC n bias C i) _ 4 (fun j hj => read_C (valC n bias C) f n i hi j hj)]
  exact Nat.mod_eq_of_lt hv
end Go.Proofs.L.M
