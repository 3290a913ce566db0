/- Proved here: lemmas and contracts (R22) for the laws of this seat, for all values of the stated types; no further condition. -/
import Derived.Test.YtjiiojbenbldlaaR19
open Go Go.RowKit Go.Lib
namespace Go.Proofs.L
/-! plain law: what a set immediate is read as; what is stored is loaded -/
theorem leN_mod (F : Nat → Nat) (X p : Nat) : ∀ n, (∀ j, j < n → F (p + j) = X / 2 ^ (8 * j) % 256) → leN F p n = X % 2 ^ (8 * n)
  | 0, _ => by simp [leN, Nat.mod_one]
  | n + 1, h => by
    rw [leN, leN_mod F X p n (fun j hj => h j (by omega)), h n (by omega), show 8 * (n + 1) = 8 * n + 8 from by omega, Nat.pow_add, Nat.mod_mul, Nat.mul_comm (X / _ % _)]
theorem leN_same (f : Nat → Nat) (o x : Nat) (hx : x < 4294967296) : leN (stN f o x 4) o 4 = x := by
  rw [leN_mod _ x o 4 (fun j hj => by rw [stN_get, if_pos (by omega), show o + j - o = j from by omega])]
  exact Nat.mod_eq_of_lt hx
theorem leN_ext (f g : Nat → Nat) (o : Nat) : ∀ n, (∀ j, j < n → f (o + j) = g (o + j)) → leN f o n = leN g o n
  | 0, _ => rfl
  | n + 1, h => by rw [leN, leN, leN_ext f g o n (fun j hj => h j (by omega)), h n (by omega)]
theorem leN_apart (f : Nat → Nat) (o p x : Nat) (h : o + 4 ≤ p ∨ p + 4 ≤ o) : leN (stN f o x 4) p 4 = leN f p 4 :=
  leN_ext _ _ _ _ fun j hj => by rw [stN_get, if_neg (by omega)]
theorem fld (S x a b n : Nat) (h : ∀ i, i < n → S.testBit (a + i) = x.testBit (b + i)) : S / 2 ^ a % 2 ^ n = x / 2 ^ b % 2 ^ n := by
  refine Nat.eq_of_testBit_eq fun i => ?_
  rw [tb_mod, tb_mod, tb_div, tb_div]
  by_cases hi : i < n
  · rw [h i hi]
  · simp [hi]
theorem putF {pl : Nat → Option Nat} {S w x : Nat} (h : Put pl S w x) (a b n : Nat) (ha : a + n ≤ 32) (hp : ∀ i, i < n → pl (a + i) = some (b + i)) : S / 2 ^ a % 2 ^ n = x / 2 ^ b % 2 ^ n :=
  fld _ _ _ _ _ fun i hi => by rw [h (a + i) (by omega), hp i hi]; rfl
theorem putK {pl : Nat → Option Nat} {S w x : Nat} (h : Put pl S w x) (a n : Nat) (ha : a + n ≤ 32) (hp : ∀ i, i < n → pl (a + i) = none) : S / 2 ^ a % 2 ^ n = w / 2 ^ a % 2 ^ n :=
  fld _ _ _ _ _ fun i hi => by rw [h (a + i) (by omega), hp i hi]; rfl
theorem all_lt {n : Nat} {P : Nat → Prop} [DecidablePred P] (h : ∀ i : Fin n, P i) : ∀ i, i < n → P i := fun i hi => h ⟨i, hi⟩
theorem gI (w x : Nat) : setI w x / 1048576 % 4096 = x % 4096 := by
  simpa [Nat.div_one] using putF (putI w x) 20 0 12 (by decide) (by decide)
theorem kI (w x : Nat) : setI w x % 1048576 = w % 1048576 := by
  simpa [Nat.div_one] using putK (putI w x) 0 20 (by decide) (by decide)
theorem gU (w x : Nat) (hx : x < 4294967296) : setU w x / 4096 % 1048576 = x / 4096 := by
  have := putF (putU w x) 12 12 20 (by decide) (by decide)
  have h2 : x / 4096 % 1048576 = x / 4096 := Nat.mod_eq_of_lt (by omega)
  simpa [h2] using this
theorem kU (w x : Nat) : setU w x % 4096 = w % 4096 := by
  simpa [Nat.div_one] using putK (putU w x) 0 12 (by decide) (by decide)
theorem gS1 (w x : Nat) : setS w x / 33554432 % 128 = x / 32 % 128 := by
  simpa using putF (putS w x) 25 5 7 (by decide) (by decide)
theorem gS2 (w x : Nat) : setS w x / 128 % 32 = x % 32 := by
  simpa [Nat.div_one] using putF (putS w x) 7 0 5 (by decide) (by decide)
theorem gB1 (w x : Nat) : setB w x / 2147483648 % 2 = x / 4096 % 2 := by
  simpa using putF (putB w x) 31 12 1 (by decide) (by decide)
theorem gB2 (w x : Nat) : setB w x / 128 % 2 = x / 2048 % 2 := by
  simpa using putF (putB w x) 7 11 1 (by decide) (by decide)
theorem gB3 (w x : Nat) : setB w x / 33554432 % 64 = x / 32 % 64 := by
  simpa using putF (putB w x) 25 5 6 (by decide) (by decide)
theorem gB4 (w x : Nat) : setB w x / 256 % 16 = x / 2 % 16 := by
  simpa using putF (putB w x) 8 1 4 (by decide) (by decide)
theorem gJ1 (w x : Nat) : setJ w x / 2147483648 % 2 = x / 1048576 % 2 := by
  simpa using putF (putJ w x) 31 20 1 (by decide) (by decide)
theorem gJ2 (w x : Nat) : setJ w x / 4096 % 256 = x / 4096 % 256 := by
  simpa using putF (putJ w x) 12 12 8 (by decide) (by decide)
theorem gJ3 (w x : Nat) : setJ w x / 1048576 % 2 = x / 2048 % 2 := by
  simpa using putF (putJ w x) 20 11 1 (by decide) (by decide)
theorem gJ4 (w x : Nat) : setJ w x / 2097152 % 1024 = x / 2 % 1024 := by
  simpa using putF (putJ w x) 21 1 10 (by decide) (by decide)
/-- the reference's immediates of a word -/
def rI (x : Nat) : Int := sgn 12 (x / 1048576 % 4096)
def rS (x : Nat) : Int := sgn 12 ((x / 33554432 % 128) * 32 + (x / 128 % 32))
def rB (x : Nat) : Int := sgn 13 ((x / 2147483648 % 2) * 4096 + (x / 128 % 2) * 2048 + (x / 33554432 % 64) * 32 + (x / 256 % 16) * 2)
def rJ (x : Nat) : Int := sgn 21 ((x / 2147483648 % 2) * 1048576 + (x / 4096 % 256) * 4096 + (x / 1048576 % 2) * 2048 + (x / 2097152 % 1024) * 2)
def rU (x : Nat) : Int := sgn 32 (x / 4096 * 4096)
theorem rI_set (w x : Nat) : rI (setI w x) = sgn 12 (x % 4096) := by unfold rI; rw [gI]
theorem rS_set (w x : Nat) : rS (setS w x) = sgn 12 (x % 4096) := by
  unfold rS; rw [gS1, gS2]; congr 1; omega
theorem rB_set (w x : Nat) : rB (setB w x) = sgn 13 (x % 8192 - x % 2) := by
  unfold rB; rw [gB1, gB2, gB3, gB4]; congr 1; omega
theorem rJ_set (w x : Nat) : rJ (setJ w x) = sgn 21 (x % 2097152 - x % 2) := by
  unfold rJ; rw [gJ1, gJ2, gJ3, gJ4]; congr 1; omega
theorem rU_set (w x : Nat) (hx : x < 4294967296) : rU (setU w x) = sgn 32 (x / 4096 * 4096) := by
  unfold rU
  have h1 := gU w x hx
  have h2 := setU_lt w x hx
  have h3 : setU w x / 4096 * 4096 = x / 4096 * 4096 := by
    generalize setU w x = S at *
    omega
  rw [h3]
theorem sgn12 (x : Nat) : sgn 12 x = if x / 2048 = 1 then (x : Int) - 4096 else x := rfl
theorem sgn13 (x : Nat) : sgn 13 x = if x / 4096 = 1 then (x : Int) - 8192 else x := rfl
theorem sgn21 (x : Nat) : sgn 21 x = if x / 1048576 = 1 then (x : Int) - 2097152 else x := rfl
theorem sgn32 (x : Nat) : sgn 32 x = if x / 2147483648 = 1 then (x : Int) - 4294967296 else x := rfl
theorem far13_iff (v : Nat) : farN v 13 = true ↔ ¬ (v % 2 = 0 ∧ -4096 ≤ s32 v ∧ s32 v < 4096) := by
  unfold farN
  simp only [Bool.or_eq_true, decide_eq_true_eq, show ((2 : Int) ^ (13 - 1)) = 4096 from rfl]
  omega
theorem far21_iff (v : Nat) : farN v 21 = true ↔ ¬ (v % 2 = 0 ∧ -1048576 ≤ s32 v ∧ s32 v < 1048576) := by
  unfold farN
  simp only [Bool.or_eq_true, decide_eq_true_eq, show ((2 : Int) ^ (21 - 1)) = 1048576 from rfl]
  omega
theorem near13 (w v : Nat) (hv : v < 4294967296) (h : farN v 13 = false) : rB (setB w v) = s32 v := by
  have h1 : ¬ farN v 13 = true := by rw [h]; decide
  rw [far13_iff] at h1
  rw [rB_set, sgn13]
  unfold s32 at *
  split at h1 <;> split <;> omega
theorem near21 (w v : Nat) (hv : v < 4294967296) (h : farN v 21 = false) : rJ (setJ w v) = s32 v := by
  have h1 : ¬ farN v 21 = true := by rw [h]; decide
  rw [far21_iff] at h1
  rw [rJ_set, sgn21]
  unfold s32 at *
  split at h1 <;> split <;> omega
/-- the upper and the lower part -/
theorem upper_low (v w x : Nat) (hv : v < 4294967296) : ((rU (setU w (upN v)) + sgn 12 (v % 4096) - v) % 4294967296 = 0) := by
  rw [rU_set _ _ (upN_lt v), sgn32, sgn12]
  unfold upN
  split <;> split <;> omega
theorem farB (v n : Nat) : farN v n = true ∨ farN v n = false := by cases farN v n <;> simp
end Go.Proofs.L
