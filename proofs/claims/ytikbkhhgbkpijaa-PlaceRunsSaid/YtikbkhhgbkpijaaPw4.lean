/- Proved here: lemmas and contracts (Pw4) for the laws of this seat, for all values of the stated types; no further condition. -/
import Derived.Test.YtikbkhhgbkpijaaPw3
import Derived.Maps.RangeWalk
open Go Go.RowKit Go.Lib Go.Maps
namespace Go.Proofs.L
attribute [local irreducible] wpT
/-! counting the addresses that a loop over the map has met -/
def cN : Nat → (Nat → Bool) → Nat
  | 0, _ => 0
  | n + 1, q => cN n q + (if q n then 1 else 0)
theorem cN_le (q : Nat → Bool) : ∀ n, cN n q ≤ n
  | 0 => Nat.le_refl _
  | n + 1 => by
    have := cN_le q n
    show cN n q + (if q n then 1 else 0) ≤ n + 1
    split <;> omega
theorem cN_congr {q r : Nat → Bool} : ∀ n, (∀ i, i < n → q i = r i) → cN n q = cN n r
  | 0, _ => rfl
  | n + 1, h => by
    show cN n q + (if q n then 1 else 0) = cN n r + (if r n then 1 else 0)
    rw [cN_congr n (fun i hi => h i (by omega)), h n (by omega)]
theorem cN_none {q : Nat → Bool} : ∀ n, (∀ i, i < n → q i = false) → cN n q = 0
  | 0, _ => rfl
  | n + 1, h => by
    show cN n q + (if q n then 1 else 0) = 0
    rw [cN_none n (fun i hi => h i (by omega)), h n (by omega)]
    rfl
theorem cN_point {q r : Nat → Bool} (j : Nat) (hq : q j = false) (hr : r j = true) (ho : ∀ i, i ≠ j → r i = q i) : ∀ n, j < n → cN n r = cN n q + 1
  | 0, h => by omega
  | n + 1, h => by
    show cN n r + (if r n then 1 else 0) = cN n q + (if q n then 1 else 0) + 1
    by_cases e : j = n
    · subst e
      rw [hq, hr, cN_congr j (fun i hi => ho i (by omega))]
      rfl
    · rw [cN_point j hq hr ho n (by omega), ho n (fun e' => e e'.symm)]
      omega
/-- is the byte not nought? -/
def nz (f : Nat → Nat) (i : Nat) : Bool := f i != 0
/-- met, and not nought -/
def metQ (f : Nat → Nat) (left : Lit → Bool) (i : Nat) : Bool := !left (keyN i) && nz f i
theorem met_start {D : DataW Unit} {f : Nat → Nat} (h : MapF D f) : cN 65536 (metQ f (has D)) = 0 := cN_none _ fun i hi => by
  unfold metQ nz
  cases hh : has D (keyN i) with
  | true => rfl
  | false =>
    have h1 := h.at_ i hi
    rw [atKey_of_not_has hh] at h1
    have h2 : f i = 0 := by
      injection h1 with h3
      injection h3 with _ h4
      omega
    rw [h2]; rfl
theorem keyN_same (i j : Nat) : (keyN i).sameKey (keyN j) = decide (i = j) := by
  by_cases e : i = j
  · subst e
    simp [keyN, Lit.sameKey]
  · rw [sameKey_ne (keyN_ne e)]; simp [e]
theorem met_nz {f : Nat → Nat} {left : Lit → Bool} {j : Nat} (hj : j < 65536) (hl : left (keyN j) = true) (hf : f j ≠ 0) : cN 65536 (metQ f fun z => left z && !z.sameKey (keyN j)) = cN 65536 (metQ f left) + 1 := by
  refine cN_point j ?_ ?_ (fun i hi => ?_) _ hj
  · unfold metQ; rw [hl]; rfl
  · show (!(left (keyN j) && !(keyN j).sameKey (keyN j)) && (f j != 0)) = true
    rw [hl, keyN_same]; simp [hf]
  · show (!(left (keyN i) && !(keyN i).sameKey (keyN j)) && nz f i) = (!left (keyN i) && nz f i)
    rw [keyN_same]; simp [hi]
theorem met_z {f : Nat → Nat} {left : Lit → Bool} {j : Nat} (hf : f j = 0) : cN 65536 (metQ f fun z => left z && !z.sameKey (keyN j)) = cN 65536 (metQ f left) := by
  refine cN_congr _ fun i _ => ?_
  show (!(left (keyN i) && !(keyN i).sameKey (keyN j)) && (f i != 0)) = (!left (keyN i) && (f i != 0))
  rw [keyN_same]
  by_cases e : i = j
  · subst e; rw [hf]; simp
  · simp [e]
theorem met_end {f : Nat → Nat} {left : Lit → Bool} (hl : ∀ k, left k = false) : cN 65536 (metQ f left) = cN 65536 (nz f) := cN_congr _ fun i _ => by
  unfold metQ; rw [hl]; rfl
end Go.Proofs.L
