/- Proved here: lemmas and contracts (Pw6b) for the laws of this seat, for all values of the stated types; no further condition. -/
import Derived.Test.YtikbkhhgbkpijaaPw6
open Go Go.RowKit Go.Lib Go.Maps
namespace Go.Proofs.L
attribute [local irreducible] wpT
/-! Load, Store, Put whatever the call asks: the program's and the reference's answer by one and the same value -/
def goodN (a : Nat) (n : Int) : Bool := ok3 n && inRam a n.toNat
def ldW (f : Nat → Nat) (a : Nat) (n : Int) : Nat := if goodN a n then leN f (a - 2147483648) n.toNat else 0
theorem good_cases {a : Nat} {n : Int} (h : goodN a n = true) : ∃ k o : Nat, n = (k : Int) ∧ (k = 1 ∨ k = 2 ∨ k = 4) ∧ a = 2147483648 + o ∧ o + k ≤ 65536 := by
  unfold goodN at h
  rw [Bool.and_eq_true] at h
  obtain ⟨h1, h2⟩ := h
  have h3 := ok3_cases h1
  unfold inRam at h2
  rw [decide_eq_true_eq] at h2
  exact ⟨n.toNat, a - 2147483648, by omega, by omega, by omega, by omega⟩
theorem bad_cases {a : Nat} {n : Int} (h : goodN a n = false) : (n ≠ 1 ∧ n ≠ 2 ∧ n ≠ 4) ∨ ∃ k : Nat, n = (k : Int) ∧ (k = 1 ∨ k = 2 ∨ k = 4) ∧ inRam a k = false := by
  unfold goodN at h
  by_cases h3 : n = 1 ∨ n = 2 ∨ n = 4
  · rw [show ok3 n = true from decide_eq_true h3, Bool.true_and] at h
    exact .inr ⟨n.toNat, by omega, by omega, h⟩
  · exact .inl ⟨fun e => h3 (.inl e), fun e => h3 (.inr (.inl e)), fun e => h3 (.inr (.inr e))⟩
theorem load_all {w : World} {mb a : Nat} {n : Int} {f : Nat → Nat} (hm : w.row? mb = some (mem f)) (hf : ∀ i, f i < 256) (ha : a < 4294967296) :
    Calls Try.prog 10 #[.pointer (some ⟨mb, 0, none⟩), .int .u32 (a : Int), .int .i64 n] w fun e w' => e = .returned (.tuple #[.int .u32 (ldW f a n : Int), .int .i64 (if goodN a n then 0 else 18)]) ∧ w' = w := by
  unfold ldW
  cases hg : goodN a n with
  | true =>
    obtain ⟨k, o, rfl, hk, hao, hok⟩ := good_cases hg
    refine (load_ok f hf a o k mb (by omega) hk hok w hm).mono fun e w' h => ⟨?_, h.2⟩
    rw [h.1, if_pos rfl, if_pos rfl, show a - 2147483648 = o by omega, Int.toNat_natCast]
  | false =>
    rcases bad_cases hg with ⟨h1, h2, h4⟩ | ⟨k, rfl, hk, hr⟩
    · exact (load_bad a n _ h1 h2 h4 w).mono fun e w' h => ⟨h.1, h.2⟩
    · exact (load_err a k _ ha hk hr w).mono fun e w' h => ⟨h.1, h.2⟩
theorem rload_all {w : World} {p m N a : Nat} {n : Int} {f : Nat → Nat} (hR : RamAt w p m N f) (hf : ∀ i, f i < 256) (ha : a < 4294967296) :
    Calls Try.prog 16 #[.pointer (some ⟨p, 0, none⟩), .int .i64 (a : Int), .int .i64 n] w fun e w' => e = .returned (.tuple #[.int .i64 (ldW f a n : Int), .bool (goodN a n)]) ∧ Chg [] w w' := by
  unfold ldW
  cases hg : goodN a n with
  | true =>
    obtain ⟨k, o, rfl, hk, hao, hok⟩ := good_cases hg
    refine (rload_ok hR hf hao hk hok).mono fun e w' h => ⟨?_, h.2⟩
    rw [h.1, if_pos rfl, show a - 2147483648 = o by omega, Int.toNat_natCast]
  | false =>
    rcases bad_cases hg with ⟨h1, h2, h4⟩ | ⟨k, rfl, hk, hr⟩
    · exact (rload_bad a n _ h1 h2 h4 w).mono fun e w' h => ⟨h.1, by rw [h.2]; exact Chg.refl _ _⟩
    · exact (rload_err a k _ (by omega) hk hr w).mono fun e w' h => ⟨h.1, by rw [h.2]; exact Chg.refl _ _⟩
theorem ldW_lt {f : Nat → Nat} (hf : ∀ i, f i < 256) (a : Nat) (n : Int) : ldW f a n < 4294967296 := by
  unfold ldW
  cases hg : goodN a n with
  | true =>
    obtain ⟨k, o, rfl, hk, hao, hok⟩ := good_cases hg
    rw [if_pos rfl, Int.toNat_natCast]
    have h := leN_lt f hf (a - 2147483648) k
    rcases hk with rfl | rfl | rfl <;> omega
  | false => rw [if_neg (by simp)]; omega
def stV (f : Nat → Nat) (a : Nat) (n : Int) (x : Nat) : Nat → Nat := if goodN a n then stN f (a - 2147483648) x n.toNat else f
theorem store_all {w : World} {mb a x : Nat} {n : Int} {f : Nat → Nat} (hm : w.row? mb = some (mem f)) (ha : a < 4294967296) (hx : x < 4294967296) :
    Calls Try.prog 9 #[.pointer (some ⟨mb, 0, none⟩), .int .u32 (a : Int), .int .i64 n, .int .u32 (x : Int)] w fun e w' => e = .returned (.int .i64 (if goodN a n then 0 else 18)) ∧ w'.row? mb = some (mem (stV f a n x)) ∧ Chg [mb] w w' := by
  unfold stV
  cases hg : goodN a n with
  | true =>
    obtain ⟨k, o, rfl, hk, hao, hok⟩ := good_cases hg
    refine (store_ok f a o k mb x (by omega) hk hok hx w hm).mono fun e w' h => ⟨by rw [h.1, if_pos rfl], ?_, h.2.2⟩
    rw [h.2.1, if_pos rfl, show a - 2147483648 = o by omega, Int.toNat_natCast]
  | false =>
    rcases bad_cases hg with ⟨h1, h2, h4⟩ | ⟨k, rfl, hk, hr⟩
    · exact (store_bad a n _ _ h1 h2 h4 w).mono fun e w' h => ⟨h.1, by rw [h.2]; exact hm, by rw [h.2]; exact Chg.refl _ _⟩
    · exact (store_err a k _ _ ha hk hr w).mono fun e w' h => ⟨h.1, by rw [h.2]; exact hm, by rw [h.2]; exact Chg.refl _ _⟩
theorem rstore_all {w : World} {p m N a x : Nat} {n : Int} {f : Nat → Nat} (hR : RamAt w p m N f) (ha : a < 4294967296) (hx : x < 4294967296) (hN : N < 1000000000) :
    Calls Try.prog 17 #[.pointer (some ⟨p, 0, none⟩), .int .i64 (a : Int), .int .i64 n, .int .i64 (x : Int)] w fun e w' => e = .returned (.bool (goodN a n)) ∧ (∃ N', N' ≤ N + 4 ∧ RamAt w' p m N' (stV f a n x)) ∧ Chg [m] w w' := by
  unfold stV
  cases hg : goodN a n with
  | true =>
    obtain ⟨k, o, rfl, hk, hao, hok⟩ := good_cases hg
    refine (rstore_ok hR hao hk hok hx hN).mono fun e w' h => ⟨h.1, ⟨N + k, by omega, ?_⟩, h.2.2⟩
    rw [if_pos rfl, show a - 2147483648 = o by omega, Int.toNat_natCast]
    exact h.2.1
  | false =>
    rcases bad_cases hg with ⟨h1, h2, h4⟩ | ⟨k, rfl, hk, hr⟩
    · exact (rstore_bad a n _ _ h1 h2 h4 w).mono fun e w' h => ⟨h.1, ⟨N, by omega, by rw [h.2]; exact hR⟩, by rw [h.2]; exact Chg.refl _ _⟩
    · exact (rstore_err (by omega) hk hr hx).mono fun e w' h => ⟨h.1, ⟨N, by omega, hR.keep h.2 (by simp) (by simp)⟩, chg_any h.2⟩
theorem stV_lt {f : Nat → Nat} (hf : ∀ i, f i < 256) (a : Nat) (n : Int) (x i : Nat) : stV f a n x i < 256 := by
  unfold stV
  split
  · exact stN_lt _ hf _ _ _ _
  · exact hf i
def ptV (f : Nat → Nat) (a n : Nat) (g : Nat → Nat) : Nat → Nat := if inRam a n then putN f (a - 2147483648) g n else f
theorem in_cases {a n : Nat} (h : inRam a n = true) : ∃ o, a = 2147483648 + o ∧ o + n ≤ 65536 := by
  unfold inRam at h
  rw [decide_eq_true_eq] at h
  exact ⟨a - 2147483648, by omega, by omega⟩
theorem put_anyN {w : World} {mb a bb bo n cap : Nat} {ptr : Option Addr} {f g : Nat → Nat} (hm : w.row? mb = some (mem f)) (ha : a < 4294967296) (hn : n ≤ 3000) (hp : 0 < n → ptr = some ⟨bb, bo, none⟩) (hc : ∀ j, j < n → w.cell? ⟨bb, bo + j, none⟩ = some (.int .u8 (g j : Int))) :
    Calls Try.prog 14 #[.pointer (some ⟨mb, 0, none⟩), .int .u32 (a : Int), .slice ptr n cap] w fun e w' => e = .returned (.int .i64 (if inRam a n then 0 else 18)) ∧ w'.row? mb = some (mem (ptV f a n g)) ∧ Chg [mb] w w' := by
  unfold ptV
  cases hg : inRam a n with
  | true =>
    obtain ⟨o, hao, hon⟩ := in_cases hg
    rw [if_pos rfl, if_pos rfl, show a - 2147483648 = o by omega]
    by_cases h0 : 0 < n
    · rw [hp h0]
      exact put_ok f g a o n mb bb bo cap hao hon h0 w hm hc
    · obtain rfl : n = 0 := by omega
      rw [putN_zero]
      by_cases h65 : 65536 = o
      · exact (put_zero_eq f a mb cap ptr (by omega) w).mono fun e w' q => ⟨q.1, by rw [q.2]; exact hm, by rw [q.2]; exact Chg.refl _ _⟩
      · exact (put_zero_lt f a o mb cap ptr hao (by omega) h65 w).mono fun e w' q => ⟨q.1, by rw [q.2]; exact hm, by rw [q.2]; exact Chg.refl _ _⟩
  | false =>
    exact (put_bad a n _ ptr cap ha (by omega) (fun _ => hg) w).mono fun e w' q => ⟨q.1, by rw [q.2]; exact hm, by rw [q.2]; exact Chg.refl _ _⟩
theorem rput_anyN {w : World} {p m N a bb bo n cap : Nat} {ptr : Option Addr} {f g : Nat → Nat} (hR : RamAt w p m N f) (ha : a < 4294967296) (hn : n ≤ 3000) (hp : 0 < n → ptr = some ⟨bb, bo, none⟩) (hb : bb ≠ m) (hc : ∀ j, j < n → w.cell? ⟨bb, bo + j, none⟩ = some (.int .u8 (g j : Int))) (hg8 : ∀ j, g j < 256) (hN : N < 1000000000) :
    Calls Try.prog 15 #[.pointer (some ⟨p, 0, none⟩), .int .i64 (a : Int), .slice ptr n cap] w fun e w' => e = .returned (.bool (inRam a n)) ∧ (∃ N', N' ≤ N + n ∧ RamAt w' p m N' (ptV f a n g)) ∧ Chg [m] w w' := by
  unfold ptV
  cases hg : inRam a n with
  | true =>
    obtain ⟨o, hao, hon⟩ := in_cases hg
    refine (rput_ok hR hao hon hp hb (fun j hj => ⟨hc j hj, hg8 j⟩) hN).mono fun e w' h => ⟨h.1, ⟨N + n, Nat.le_refl _, ?_⟩, h.2.2⟩
    rw [if_pos rfl, show a - 2147483648 = o by omega]
    exact h.2.1
  | false =>
    exact (rput_bad (by omega) (by omega) hg).mono fun e w' h => ⟨h.1, ⟨N, by omega, by rw [h.2]; exact hR⟩, by rw [h.2]; exact Chg.refl _ _⟩
theorem ptV_lt {f g : Nat → Nat} (hf : ∀ i, f i < 256) (hg : ∀ i, g i < 256) (a n i : Nat) : ptV f a n g i < 256 := by
  unfold ptV putN
  split
  · dsimp only
    split
    · exact hg _
    · exact hf _
  · exact hf i
end Go.Proofs.L
