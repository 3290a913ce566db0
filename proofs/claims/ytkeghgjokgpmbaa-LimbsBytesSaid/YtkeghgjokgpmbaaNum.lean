/- Proved here: lemmas and contracts (Num) for the laws of this seat, for all values of the stated types; no further condition. -/
namespace Go.Proofs.L
/-- digit k of n to the base 2^32 -/
def D (n k : Nat) : Nat := n / 2 ^ (32 * k) % 4294967296
/-- the carry into digit k of a + b -/
def C (a b k : Nat) : Nat := (a % 2 ^ (32 * k) + b % 2 ^ (32 * k)) / 2 ^ (32 * k)
/-- the borrow into digit k of a - b -/
def Bw (a b k : Nat) : Nat := if a % 2 ^ (32 * k) < b % 2 ^ (32 * k) then 1 else 0
theorem pow32 (k : Nat) : 2 ^ (32 * (k + 1)) = 2 ^ (32 * k) * 4294967296 := by
  rw [Nat.mul_add, Nat.pow_add]
theorem D_lt (n k : Nat) : D n k < 4294967296 := Nat.mod_lt _ (by decide)
theorem mod_step (a k : Nat) : a % 2 ^ (32 * (k + 1)) = a % 2 ^ (32 * k) + 2 ^ (32 * k) * D a k := by
  rw [pow32, Nat.mod_mul]; rfl
theorem C_zero (a b : Nat) : C a b 0 = 0 := by simp [C, Nat.mod_one]
theorem C_le (a b k : Nat) : C a b k ≤ 1 := by
  unfold C
  have hp : 0 < 2 ^ (32 * k) := Nat.pow_pos (by decide)
  have h1 := Nat.mod_lt a hp
  have h2 := Nat.mod_lt b hp
  have : (a % 2 ^ (32 * k) + b % 2 ^ (32 * k)) / 2 ^ (32 * k) < 2 := by
    rw [Nat.div_lt_iff_lt_mul hp]; omega
  omega
theorem add_div (a b p : Nat) (hp : 0 < p) : (a + b) / p = a / p + b / p + (a % p + b % p) / p := by
  have h1 := Nat.div_add_mod a p
  have h2 := Nat.div_add_mod b p
  have e : a + b = (a % p + b % p) + p * (a / p + b / p) := by rw [Nat.mul_add]; omega
  rw [e, Nat.add_mul_div_left _ _ hp]; omega
theorem D_add (a b k : Nat) : D (a + b) k = (D a k + D b k + C a b k) % 4294967296 := by
  unfold D C
  rw [add_div a b _ (Nat.pow_pos (by decide))]
  generalize (a % 2 ^ (32 * k) + b % 2 ^ (32 * k)) / 2 ^ (32 * k) = c
  generalize a / 2 ^ (32 * k) = x
  generalize b / 2 ^ (32 * k) = y
  omega
theorem C_succ (a b k : Nat) : C a b (k + 1) = (D a k + D b k + C a b k) / 4294967296 := by
  have hp : 0 < 2 ^ (32 * k) := Nat.pow_pos (by decide)
  have e : a % 2 ^ (32 * (k + 1)) + b % 2 ^ (32 * (k + 1)) = (a % 2 ^ (32 * k) + b % 2 ^ (32 * k)) + 2 ^ (32 * k) * (D a k + D b k) := by
    rw [mod_step, mod_step, Nat.mul_add]; omega
  have e2 : C a b (k+1) = ((a % 2 ^ (32 * k) + b % 2 ^ (32 * k)) + 2 ^ (32 * k) * (D a k + D b k)) / (2 ^ (32 * k) * 4294967296) := by
    rw [← e, ← pow32]; rfl
  rw [e2, ← Nat.div_div_eq_div_mul, Nat.add_mul_div_left _ _ hp]
  show (C a b k + _) / _ = _
  congr 1; omega
theorem C_top (a b : Nat) : C a b 8 = (a % 2 ^ 256 + b % 2 ^ 256) / 2 ^ 256 := rfl
theorem Bw_zero (a b : Nat) : Bw a b 0 = 0 := by simp [Bw, Nat.mod_one]
theorem Bw_le (a b k : Nat) : Bw a b k ≤ 1 := by unfold Bw; split <;> omega
theorem Bw_succ (a b k : Nat) : Bw a b (k + 1) = if D a k < D b k + Bw a b k then 1 else 0 := by
  have hp : 0 < 2 ^ (32 * k) := Nat.pow_pos (by decide)
  have h1 := Nat.mod_lt a hp
  have h2 := Nat.mod_lt b hp
  unfold Bw
  rw [mod_step, mod_step]
  generalize a % 2 ^ (32 * k) = x at *
  generalize b % 2 ^ (32 * k) = y at *
  generalize 2 ^ (32 * k) = p at *
  generalize D a k = u
  generalize D b k = v
  by_cases huv : u < v
  · have : p * (u + 1) ≤ p * v := Nat.mul_le_mul_left _ huv
    rw [Nat.mul_add] at this
    rw [if_pos (by omega), if_pos (by omega)]
  · by_cases he : u = v
    · subst he
      by_cases hxy : x < y
      · rw [if_pos (by omega), if_pos (by rw [if_pos hxy]; omega)]
      · rw [if_neg (by omega), if_neg (by rw [if_neg hxy]; omega)]
    · have : p * (v + 1) ≤ p * u := Nat.mul_le_mul_left _ (by omega)
      rw [Nat.mul_add] at this
      rw [if_neg (by omega), if_neg (by split <;> omega)]
/-- the difference's digits, two's complement -/
theorem D_sub (a b k : Nat) (ha : a < 2 ^ 256) (hb : b < 2 ^ 256) (hk : k < 8) :
    (D ((a + (2 ^ 256 - b)) % 2 ^ 256) k : Int) = ((D a k : Int) - D b k - Bw a b k) % 4294967296 := by
  -- s + b ≡ a
  have hs : ∃ s, s = (a + (2 ^ 256 - b)) % 2 ^ 256 := ⟨_, rfl⟩
  obtain ⟨s, hs⟩ := hs
  rw [← hs]
  have hsl : s < 2 ^ 256 := by rw [hs]; exact Nat.mod_lt _ (by decide)
  have hab : (s + b) % 2 ^ 256 = a := by
    rw [hs, Nat.mod_add_mod, show a + (2 ^ 256 - b) + b = a + 2 ^ 256 from by omega, Nat.add_mod_right, Nat.mod_eq_of_lt ha]
  -- carries of s + b are the borrows of a - b
  have hdig : ∀ j, j < 8 → D (s + b) j = D a j := by
    intro j hj
    have : D ((s + b) % 2 ^ 256) j = D (s + b) j := by
      unfold D
      have e : (2:Nat) ^ 256 = 2 ^ (32 * j) * 2 ^ (256 - 32 * j) := by rw [← Nat.pow_add]; congr 1; omega
      rw [e, Nat.mod_mul_right_div_self, Nat.mod_mod_of_dvd]
      exact Nat.pow_dvd_pow 2 (show 32 ≤ 256 - 32 * j by omega)
    rw [← this, hab]
  have hC : ∀ j, j ≤ 8 → C s b j = Bw a b j := by
    intro j
    induction j with
    | zero => intro _; rw [C_zero, Bw_zero]
    | succ j ih =>
      intro hj
      have h1 := ih (by omega)
      have h2 := hdig j (by omega)
      rw [D_add] at h2
      rw [C_succ, Bw_succ, ← h1]
      have := C_le s b j
      have := D_lt s j
      have := D_lt b j
      split <;> omega
  have h2 := hdig k hk
  rw [D_add, hC k (by omega)] at h2
  have := D_lt s k
  have := D_lt b k
  have := Bw_le a b k
  omega
/-- the digits -/
def dig (n : Nat) : List Int := (List.range 8).map fun i => (D n i : Int)
theorem dig_len (n : Nat) : (dig n).length = 8 := by simp [dig]
theorem dig_get (n i : Nat) (h : i < 8) : (dig n).getD i 0 = (D n i : Int) := by
  simp [dig, h]
/-- the first k digits of x, the others of y -/
def mix (k x y : Nat) : List Int := (List.range 8).map fun i => if i < k then (D x i : Int) else (D y i : Int)
theorem mix_len (k x y : Nat) : (mix k x y).length = 8 := by simp [mix]
theorem mix_get (k x y i : Nat) (h : i < 8) : (mix k x y).getD i 0 = if i < k then (D x i : Int) else (D y i : Int) := by simp [mix, h]
theorem mix_zero (x y : Nat) : mix 0 x y = dig y := by simp [mix, dig]
theorem mix_full (x y : Nat) : mix 8 x y = dig x := by
  unfold mix dig
  apply List.map_congr_left
  intro i hi
  rw [if_pos (List.mem_range.1 hi)]
theorem mix_set (k x y : Nat) (h : k < 8) : (mix k x y).set k (D x k : Int) = mix (k + 1) x y := by
  apply List.ext_getElem
  · simp [mix]
  · intro i h1 h2
    simp only [mix, List.length_set, List.length_map, List.length_range] at h1
    rw [List.getElem_set]
    simp only [mix, List.getElem_map, List.getElem_range]
    by_cases hk : k = i
    · subst hk; simp
    · simp only [hk, ↓reduceIte]
      by_cases hik : i < k
      · rw [if_pos hik, if_pos (by omega)]
      · rw [if_neg hik, if_neg (by omega)]
/-- eight words are the digits of one number -/
def valOf : List Int → Nat
  | [] => 0
  | x :: l => x.toNat + 4294967296 * valOf l
theorem valOf_D (l : List Int) (h : ∀ x ∈ l, 0 ≤ x ∧ x < 4294967296) : ∀ i, i < l.length → (D (valOf l) i : Int) = l.getD i 0 := by
  induction l with
  | nil => intro i hi; simp at hi
  | cons x l ih =>
    intro i hi
    have hx := h x (by simp)
    have ih := ih (fun y hy => h y (by simp [hy]))
    cases i with
    | zero => simp only [D, valOf]; simp; omega
    | succ i =>
      have := ih i (by simpa using hi)
      rw [List.getD_cons_succ, ← this]
      congr 1
      unfold D
      simp only [valOf]
      rw [show 2 ^ (32 * (i+1)) = 4294967296 * 2 ^ (32 * i) from by rw [pow32, Nat.mul_comm], ← Nat.div_div_eq_div_mul]
      congr 2
      omega
theorem valOf_lt (l : List Int) (h : ∀ x ∈ l, 0 ≤ x ∧ x < 4294967296) : valOf l < 2 ^ (32 * l.length) := by
  induction l with
  | nil => simp [valOf]
  | cons x l ih =>
    have hx := h x (by simp)
    have ih := ih (fun y hy => h y (by simp [hy]))
    simp only [valOf, List.length_cons]
    rw [pow32]
    generalize 2 ^ (32 * l.length) = p at *
    omega
theorem dig_valOf (l : List Int) (hl : l.length = 8) (h : ∀ x ∈ l, 0 ≤ x ∧ x < 4294967296) : dig (valOf l) = l := by
  apply List.ext_getElem
  · simp [dig, hl]
  · intro i h1 h2
    have := valOf_D l h i h2
    simp only [dig, List.getElem_map, List.getElem_range]
    rw [this]; simp [h2]
theorem recon (n : Nat) (k : Nat) : ∀ m, m < 2 ^ (32 * k) → n < 2 ^ (32 * k) → (∀ i, i < k → D n i = D m i) → n = m := by
  induction k generalizing n with
  | zero => intro m hm hn _; simp at hm hn; omega
  | succ k ih =>
    intro m hm hn h
    have hp : 0 < 2 ^ (32 * k) := Nat.pow_pos (by decide)
    have e := ih (n % 2 ^ (32 * k)) (m % 2 ^ (32 * k)) (Nat.mod_lt _ hp) (Nat.mod_lt _ hp) (by
      intro i hi
      have key : ∀ x, D (x % 2 ^ (32 * k)) i = D x i := by
        intro x
        unfold D
        have e : 2 ^ (32 * k) = 2 ^ (32 * i) * 2 ^ (32 * k - 32 * i) := by rw [← Nat.pow_add]; congr 1; omega
        rw [e, Nat.mod_mul_right_div_self, Nat.mod_mod_of_dvd]
        exact Nat.pow_dvd_pow 2 (show 32 ≤ 32 * k - 32 * i by omega)
      rw [key, key]; exact h i (by omega))
    have hk := h k (by omega)
    have h1 := mod_step n k
    have h2 := mod_step m k
    rw [Nat.mod_eq_of_lt hn] at h1
    rw [Nat.mod_eq_of_lt hm] at h2
    rw [h1, h2, e, hk]
theorem dig_inj {n m : Nat} (hn : n < 2 ^ 256) (hm : m < 2 ^ 256) (h : dig n = dig m) : n = m := by
  apply recon n 8 m hm hn
  intro i hi
  have := congrArg (fun l => l.getD i 0) h
  simp only [dig_get _ _ hi] at this
  omega
theorem cmp_lt {a b : Nat} (ha : a < 2^256) (hb : b < 2^256) (k : Nat) (hk : k < 8) (h : ∀ j, k + 1 ≤ j → j < 8 → D a j = D b j) (hl : D a k < D b k) : a < b := by
  have key : ∀ n x, x < 2 ^ (32 * (k + n)) → ∀ y, y < 2 ^ (32 * (k + n)) → 1 ≤ n → (∀ j, k + 1 ≤ j → j < k + n → D x j = D y j) → D x k < D y k → x < y := by
    intro n
    induction n with
    | zero => intros; omega
    | succ n ih =>
      intro x hx y hy _ hj hd
      have e1 := mod_step x (k + n)
      have e2 := mod_step y (k + n)
      have hp : 0 < 2 ^ (32 * (k+n)) := Nat.pow_pos (by decide)
      rw [Nat.add_assoc, Nat.mod_eq_of_lt hx] at e1
      rw [Nat.add_assoc, Nat.mod_eq_of_lt hy] at e2
      have m1 := Nat.mod_lt x hp
      have m2 := Nat.mod_lt y hp
      rcases n with _ | n
      · simp only [Nat.add_zero] at *
        have : 2 ^ (32 * k) * (D x k + 1) ≤ 2 ^ (32 * k) * D y k := Nat.mul_le_mul_left _ hd
        rw [Nat.mul_add] at this
        omega
      · have key : ∀ z i, i < k + (n + 1) → D (z % 2 ^ (32 * (k + (n+1)))) i = D z i := by
          intro z i hi
          unfold D
          have e : 2 ^ (32 * (k + (n+1))) = 2 ^ (32 * i) * 2 ^ (32 * (k + (n+1)) - 32 * i) := by rw [← Nat.pow_add]; congr 1; omega
          rw [e, Nat.mod_mul_right_div_self, Nat.mod_mod_of_dvd]
          exact Nat.pow_dvd_pow 2 (show 32 ≤ 32 * (k + (n+1)) - 32 * i by omega)
        have := ih _ m1 _ m2 (by omega) (fun j h1 h2 => by rw [key _ _ h2, key _ _ h2]; exact hj j h1 (by omega)) (by rw [key _ _ (by omega), key _ _ (by omega)]; exact hd)
        have := hj (k + (n + 1)) (by omega) (by omega)
        rw [e1, e2, this]; omega
  exact key (8 - k) a (by rw [show k + (8 - k) = 8 from by omega]; exact ha) b (by rw [show k + (8 - k) = 8 from by omega]; exact hb) (by omega) (fun j h1 h2 => h j h1 (by omega)) hl
theorem eq_of_digs {a b : Nat} (ha : a < 2^256) (hb : b < 2^256) (h : ∀ j, 0 ≤ j → j < 8 → D a j = D b j) : a = b := recon a 8 b hb ha (fun i hi => h i (by omega) hi)
end Go.Proofs.L
