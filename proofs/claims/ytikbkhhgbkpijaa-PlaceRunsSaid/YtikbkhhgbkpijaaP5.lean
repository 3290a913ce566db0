/- Proved here: lemmas and contracts (P5) for the laws of this seat, for all values of the stated types; no further condition. -/
import Derived.Test.YtikbkhhgbkpijaaP4
open Go Go.RowKit Go.Lib
namespace Go.Proofs.L
attribute [local go_sem] mem_size mem_all
attribute [local go_sem ↓] z72
set_option maxRecDepth 100000 in
set_option maxHeartbeats 1600000 in
theorem load_err (a n : Nat) (p : Addr) (ha : a < 4294967296) (hn : n = 1 ∨ n = 2 ∨ n = 4) (hr : inRam a n = false) (w : World) :
    Calls Try.prog 10 #[.pointer (some p), .int .u32 (a : Int), .int .i64 (n : Int)] w fun e w' => e = .returned (.tuple #[.int .u32 0, .int .i64 18]) ∧ w' = w := by
  have hh := has_any a n ha (by omega) p w
  rw [hr] at hh
  clear hr
  rcases hn with rfl | rfl | rfl
  · have hu : IntKind.u32.wrap (1 : Int) = 1 := rfl
    go_enter Try.func10, Try.ntmps10
    go_wp2_with fail
    refine hh.mono ?_
    rintro e w1 ⟨rfl, rfl⟩
    go_wp2
    go_ret2
    exact ⟨rfl, rfl⟩
  · have hu : IntKind.u32.wrap (2 : Int) = 2 := rfl
    go_enter Try.func10, Try.ntmps10
    go_wp2_with fail
    refine hh.mono ?_
    rintro e w1 ⟨rfl, rfl⟩
    go_wp2
    go_ret2
    exact ⟨rfl, rfl⟩
  · have hu : IntKind.u32.wrap (4 : Int) = 4 := rfl
    go_enter Try.func10, Try.ntmps10
    go_wp2_with fail
    refine hh.mono ?_
    rintro e w1 ⟨rfl, rfl⟩
    go_wp2
    go_ret2
    exact ⟨rfl, rfl⟩
theorem load_any (f : Nat → Nat) (hf : ∀ i, f i < 256) (a n b : Nat) (ha : a < 4294967296) (hn : n = 1 ∨ n = 2 ∨ n = 4) (w : World) (hw : w.row? b = some (mem f)) :
    Calls Try.prog 10 #[.pointer (some ⟨b, 0, none⟩), .int .u32 (a : Int), .int .i64 (n : Int)] w fun e w' => (∃ v c : Nat, e = .returned (.tuple #[.int .u32 (v : Int), .int .i64 (c : Int)])) ∧ w' = w := by
  cases h : inRam a n with
  | true =>
    have h' : 2147483648 ≤ a ∧ a + n ≤ 2147549184 := by simpa [inRam] using h
    refine (load_ok f hf a (a - 2147483648) n b (by omega) hn (by omega) w hw).mono ?_
    rintro e w' ⟨rfl, rfl⟩
    exact ⟨⟨_, 0, rfl⟩, rfl⟩
  | false =>
    refine (load_err a n _ ha hn h w).mono ?_
    rintro e w' ⟨rfl, rfl⟩
    exact ⟨⟨0, 18, rfl⟩, rfl⟩
theorem leN_mod (F : Nat → Nat) (X p : Nat) : ∀ n, (∀ j, j < n → F (p + j) = X / 2 ^ (8 * j) % 256) → leN F p n = X % 2 ^ (8 * n)
  | 0, _ => by simp [leN, Nat.mod_one]
  | n + 1, h => by
    rw [leN, leN_mod F X p n (fun j hj => h j (by omega)), h n (by omega), show 8 * (n + 1) = 8 * n + 8 from by omega, Nat.pow_add, Nat.mod_mul, Nat.mul_comm (X / _ % _)]
/-- what is in memory after the two stores -/
def F8 (o x y : Nat) : Nat → Nat := stN (stN (fun _ => 0) o x 4) (o + 4) y 4
theorem F8_lt (o x y i : Nat) : F8 o x y i < 256 := stN_lt _ (fun _ => stN_lt _ (by simp) _ _ _ _) _ _ _ _
theorem F8_get (o x y : Nat) (hx : x < 4294967296) (j : Nat) (hj : j < 8) : F8 o x y (o + j) = (x + y * 4294967296) / 2 ^ (8 * j) % 256 := by
  rw [F8, stN_get]
  by_cases h : 4 ≤ j
  · rw [if_pos (by omega), show o + j - (o + 4) = j - 4 from by omega]
    have e : (x + y * 4294967296) / 2 ^ (8 * j) = y / 2 ^ (8 * (j - 4)) := by
      rw [show 8 * j = 32 + 8 * (j - 4) from by omega, Nat.pow_add, ← Nat.div_div_eq_div_mul]
      congr 1; omega
    rw [e]
  · rw [if_neg (by omega), stN_get, if_pos (by omega), show o + j - o = j from by omega]
    have hs : j = 0 ∨ j = 1 ∨ j = 2 ∨ j = 3 := by omega
    rcases hs with rfl | rfl | rfl | rfl <;> simp <;> omega
theorem F8_le (o x y : Nat) (hx : x < 4294967296) (i n : Nat) (h : i + n ≤ 8) : leN (F8 o x y) (o + i) n = (x + y * 4294967296) / 2 ^ (8 * i) % 2 ^ (8 * n) := by
  refine leN_mod _ _ _ _ fun j hj => ?_
  rw [Nat.add_assoc, F8_get o x y hx _ (by omega), Nat.div_div_eq_div_mul, ← Nat.pow_add, show 8 * i + 8 * j = 8 * (i + j) from by omega]
end Go.Proofs.L
