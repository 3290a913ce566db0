/- Proved here: lemmas and contracts (Bits) for the laws of this seat, for all values of the stated types; no further condition. -/
namespace Go.Proofs.L.Bt
/-- digit k of n to the base 2^32 -/
def D (n k : Nat) : Nat := n / 2 ^ (1 * k) % 2
/-- the carry into digit k of a + b -/
def C (a b k : Nat) : Nat := (a % 2 ^ (1 * k) + b % 2 ^ (1 * k)) / 2 ^ (1 * k)
/-- the borrow into digit k of a - b -/
def Bw (a b k : Nat) : Nat := if a % 2 ^ (1 * k) < b % 2 ^ (1 * k) then 1 else 0
theorem pow1 (k : Nat) : 2 ^ (1 * (k + 1)) = 2 ^ (1 * k) * 2 := by
  rw [Nat.mul_add, Nat.pow_add]
theorem D_lt (n k : Nat) : D n k < 2 := Nat.mod_lt _ (by decide)
theorem mod_step (a k : Nat) : a % 2 ^ (1 * (k + 1)) = a % 2 ^ (1 * k) + 2 ^ (1 * k) * D a k := by
  rw [pow1, Nat.mod_mul]; rfl
theorem C_zero (a b : Nat) : C a b 0 = 0 := by simp [C, Nat.mod_one]
theorem C_le (a b k : Nat) : C a b k ≤ 1 := by
  unfold C
  have hp : 0 < 2 ^ (1 * k) := Nat.pow_pos (by decide)
  have h1 := Nat.mod_lt a hp
  have h2 := Nat.mod_lt b hp
  have : (a % 2 ^ (1 * k) + b % 2 ^ (1 * k)) / 2 ^ (1 * k) < 2 := by
    rw [Nat.div_lt_iff_lt_mul hp]; omega
  omega
theorem add_div (a b p : Nat) (hp : 0 < p) : (a + b) / p = a / p + b / p + (a % p + b % p) / p := by
  have h1 := Nat.div_add_mod a p
  have h2 := Nat.div_add_mod b p
  have e : a + b = (a % p + b % p) + p * (a / p + b / p) := by rw [Nat.mul_add]; omega
  rw [e, Nat.add_mul_div_left _ _ hp]; omega
theorem D_add (a b k : Nat) : D (a + b) k = (D a k + D b k + C a b k) % 2 := by
  unfold D C
  rw [add_div a b _ (Nat.pow_pos (by decide))]
  generalize (a % 2 ^ (1 * k) + b % 2 ^ (1 * k)) / 2 ^ (1 * k) = c
  generalize a / 2 ^ (1 * k) = x
  generalize b / 2 ^ (1 * k) = y
  omega
theorem C_succ (a b k : Nat) : C a b (k + 1) = (D a k + D b k + C a b k) / 2 := by
  have hp : 0 < 2 ^ (1 * k) := Nat.pow_pos (by decide)
  have e : a % 2 ^ (1 * (k + 1)) + b % 2 ^ (1 * (k + 1)) = (a % 2 ^ (1 * k) + b % 2 ^ (1 * k)) + 2 ^ (1 * k) * (D a k + D b k) := by
    rw [mod_step, mod_step, Nat.mul_add]; omega
  have e2 : C a b (k+1) = ((a % 2 ^ (1 * k) + b % 2 ^ (1 * k)) + 2 ^ (1 * k) * (D a k + D b k)) / (2 ^ (1 * k) * 2) := by
    rw [← e, ← pow1]; rfl
  rw [e2, ← Nat.div_div_eq_div_mul, Nat.add_mul_div_left _ _ hp]
  show (C a b k + _) / _ = _
  congr 1; omega
theorem C_top (a b : Nat) : C a b 256 = (a % 2 ^ 256 + b % 2 ^ 256) / 2 ^ 256 := rfl
theorem Bw_zero (a b : Nat) : Bw a b 0 = 0 := by simp [Bw, Nat.mod_one]
theorem Bw_le (a b k : Nat) : Bw a b k ≤ 1 := by unfold Bw; split <;> omega
theorem Bw_succ (a b k : Nat) : Bw a b (k + 1) = if D a k < D b k + Bw a b k then 1 else 0 := by
  have hp : 0 < 2 ^ (1 * k) := Nat.pow_pos (by decide)
  have h1 := Nat.mod_lt a hp
  have h2 := Nat.mod_lt b hp
  unfold Bw
  rw [mod_step, mod_step]
  generalize a % 2 ^ (1 * k) = x at *
  generalize b % 2 ^ (1 * k) = y at *
  generalize 2 ^ (1 * k) = p at *
  generalize D a k = u
  generalize D b k = v
  by_cases huv : u < v
  · have : p * (u + 1) ≤ p * v := Nat.mul_le_mul_left _ huv
    rw [Nat.mul_add] at this
    rw [if_pos (by omega), if_pos (by omega)]
  · by_cases he : u = v
    · subst he
      by_cases hxy : x < y
      · rw [if_pos (by omega), if_pos (by rw [if_pos hxy]; omega)]
      · rw [if_neg (by omega), if_neg (by rw [if_neg hxy]; omega)]
    · have : p * (v + 1) ≤ p * u := Nat.mul_le_mul_left _ (by omega)
      rw [Nat.mul_add] at this
      rw [if_neg (by omega), if_neg (by split <;> omega)]
/-- the digits -/
def dig (n : Nat) : List Int := (List.range 256).map fun i => (D n i : Int)
theorem dig_len (n : Nat) : (dig n).length = 256 := by simp [dig]
theorem dig_get (n i : Nat) (h : i < 256) : (dig n).getD i 0 = (D n i : Int) := by
  simp [dig, h]
/-- the first k digits of x, the others of y -/
def mix (k x y : Nat) : List Int := (List.range 256).map fun i => if i < k then (D x i : Int) else (D y i : Int)
theorem mix_len (k x y : Nat) : (mix k x y).length = 256 := by simp [mix]
theorem mix_get (k x y i : Nat) (h : i < 256) : (mix k x y).getD i 0 = if i < k then (D x i : Int) else (D y i : Int) := by simp [mix, h]
theorem mix_zero (x y : Nat) : mix 0 x y = dig y := by simp [mix, dig]
theorem mix_full (x y : Nat) : mix 256 x y = dig x := by
  unfold mix dig
  apply List.map_congr_left
  intro i hi
  rw [if_pos (List.mem_range.1 hi)]
theorem mix_set (k x y : Nat) (h : k < 256) : (mix k x y).set k (D x k : Int) = mix (k + 1) x y := by
  apply List.ext_getElem
  · simp [mix]
  · intro i h1 h2
    simp only [mix, List.length_set, List.length_map, List.length_range] at h1
    rw [List.getElem_set]
    simp only [mix, List.getElem_map, List.getElem_range]
    by_cases hk : k = i
    · subst hk; simp
    · simp only [hk, ↓reduceIte]
      by_cases hik : i < k
      · rw [if_pos hik, if_pos (by omega)]
      · rw [if_neg hik, if_neg (by omega)]
/-- eight words are the digits of one number -/
def valOf : List Int → Nat
  | [] => 0
  | x :: l => x.toNat + 2 * valOf l
theorem valOf_D (l : List Int) (h : ∀ x ∈ l, 0 ≤ x ∧ x < 2) : ∀ i, i < l.length → (D (valOf l) i : Int) = l.getD i 0 := by
  induction l with
  | nil => intro i hi; simp at hi
  | cons x l ih =>
    intro i hi
    have hx := h x (by simp)
    have ih := ih (fun y hy => h y (by simp [hy]))
    cases i with
    | zero => simp only [D, valOf]; simp; omega
    | succ i =>
      have := ih i (by simpa using hi)
      rw [List.getD_cons_succ, ← this]
      congr 1
      unfold D
      simp only [valOf]
      rw [show 2 ^ (1 * (i+1)) = 2 * 2 ^ (1 * i) from by rw [pow1, Nat.mul_comm], ← Nat.div_div_eq_div_mul]
      congr 2
      omega
theorem valOf_lt (l : List Int) (h : ∀ x ∈ l, 0 ≤ x ∧ x < 2) : valOf l < 2 ^ (1 * l.length) := by
  induction l with
  | nil => simp [valOf]
  | cons x l ih =>
    have hx := h x (by simp)
    have ih := ih (fun y hy => h y (by simp [hy]))
    simp only [valOf, List.length_cons]
    rw [pow1]
    generalize 2 ^ (1 * l.length) = p at *
    omega
theorem dig_valOf (l : List Int) (hl : l.length = 256) (h : ∀ x ∈ l, 0 ≤ x ∧ x < 2) : dig (valOf l) = l := by
  apply List.ext_getElem
  · simp [dig, hl]
  · intro i h1 h2
    have := valOf_D l h i h2
    simp only [dig, List.getElem_map, List.getElem_range]
    rw [this]; simp [h2]
theorem recon (n : Nat) (k : Nat) : ∀ m, m < 2 ^ (1 * k) → n < 2 ^ (1 * k) → (∀ i, i < k → D n i = D m i) → n = m := by
  induction k generalizing n with
  | zero => intro m hm hn _; simp at hm hn; omega
  | succ k ih =>
    intro m hm hn h
    have hp : 0 < 2 ^ (1 * k) := Nat.pow_pos (by decide)
    have e := ih (n % 2 ^ (1 * k)) (m % 2 ^ (1 * k)) (Nat.mod_lt _ hp) (Nat.mod_lt _ hp) (by
      intro i hi
      have key : ∀ x, D (x % 2 ^ (1 * k)) i = D x i := by
        intro x
        unfold D
        have e : 2 ^ (1 * k) = 2 ^ (1 * i) * 2 ^ (1 * k - 1 * i) := by rw [← Nat.pow_add]; congr 1; omega
        rw [e, Nat.mod_mul_right_div_self, Nat.mod_mod_of_dvd]
        exact Nat.pow_dvd_pow 2 (show 1 ≤ 1 * k - 1 * i by omega)
      rw [key, key]; exact h i (by omega))
    have hk := h k (by omega)
    have h1 := mod_step n k
    have h2 := mod_step m k
    rw [Nat.mod_eq_of_lt hn] at h1
    rw [Nat.mod_eq_of_lt hm] at h2
    rw [h1, h2, e, hk]
theorem dig_inj {n m : Nat} (hn : n < 2 ^ 256) (hm : m < 2 ^ 256) (h : dig n = dig m) : n = m := by
  apply recon n 256 m hm hn
  intro i hi
  have := congrArg (fun l => l.getD i 0) h
  simp only [dig_get _ _ hi] at this
  omega
theorem cmp_lt {a b : Nat} (ha : a < 2^256) (hb : b < 2^256) (k : Nat) (hk : k < 256) (h : ∀ j, k + 1 ≤ j → j < 256 → D a j = D b j) (hl : D a k < D b k) : a < b := by
  have key : ∀ n x, x < 2 ^ (1 * (k + n)) → ∀ y, y < 2 ^ (1 * (k + n)) → 1 ≤ n → (∀ j, k + 1 ≤ j → j < k + n → D x j = D y j) → D x k < D y k → x < y := by
    intro n
    induction n with
    | zero => intros; omega
    | succ n ih =>
      intro x hx y hy _ hj hd
      have e1 := mod_step x (k + n)
      have e2 := mod_step y (k + n)
      have hp : 0 < 2 ^ (1 * (k+n)) := Nat.pow_pos (by decide)
      rw [Nat.add_assoc, Nat.mod_eq_of_lt hx] at e1
      rw [Nat.add_assoc, Nat.mod_eq_of_lt hy] at e2
      have m1 := Nat.mod_lt x hp
      have m2 := Nat.mod_lt y hp
      rcases n with _ | n
      · simp only [Nat.add_zero] at *
        have : 2 ^ (1 * k) * (D x k + 1) ≤ 2 ^ (1 * k) * D y k := Nat.mul_le_mul_left _ hd
        rw [Nat.mul_add] at this
        omega
      · have key : ∀ z i, i < k + (n + 1) → D (z % 2 ^ (1 * (k + (n+1)))) i = D z i := by
          intro z i hi
          unfold D
          have e : 2 ^ (1 * (k + (n+1))) = 2 ^ (1 * i) * 2 ^ (1 * (k + (n+1)) - 1 * i) := by rw [← Nat.pow_add]; congr 1; omega
          rw [e, Nat.mod_mul_right_div_self, Nat.mod_mod_of_dvd]
          exact Nat.pow_dvd_pow 2 (show 1 ≤ 1 * (k + (n+1)) - 1 * i by omega)
        have := ih _ m1 _ m2 (by omega) (fun j h1 h2 => by rw [key _ _ h2, key _ _ h2]; exact hj j h1 (by omega)) (by rw [key _ _ (by omega), key _ _ (by omega)]; exact hd)
        have := hj (k + (n + 1)) (by omega) (by omega)
        rw [e1, e2, this]; omega
  exact key (256 - k) a (by rw [show k + (256 - k) = 256 from by omega]; exact ha) b (by rw [show k + (256 - k) = 256 from by omega]; exact hb) (by omega) (fun j h1 h2 => h j h1 (by omega)) hl
theorem eq_of_digs {a b : Nat} (ha : a < 2^256) (hb : b < 2^256) (h : ∀ j, 0 ≤ j → j < 256 → D a j = D b j) : a = b := recon a 256 b hb ha (fun i hi => h i (by omega) hi)
end Go.Proofs.L.Bt
