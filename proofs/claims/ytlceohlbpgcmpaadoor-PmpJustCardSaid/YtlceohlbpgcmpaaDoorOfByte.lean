/- Proved here: lemmas and contracts (OfByte) for the laws of this seat, for all values of the stated types; no further condition. -/
import Derived.Test.YtlceohlbpgcmpaaDoorProg
import Derived.StillTailTactics
import Derived.Lib.Hide
import Derived.OwnWalk
import Derived.Deep.DeepCutAuto
import Derived.Deep.CutBlock
import Derived.Test.YtlceohlbpgcmpaaDoorRow
import Derived.Test.YtlceohlbpgcmpaaDoorRegT
import Derived.Test.YtlceohlbpgcmpaaDoorMem
open Go Go.RowKit Go.Lib
namespace Go.Proofs.L
/-- an entry as a value -/
def entV (way rights : Int) (addr : Nat) : Value := .agg #[.int .i64 way, .int .i64 rights, .int .u32 (addr : Int)]
theorem u8w (x : Int) : IntKind.u8.wrap x = x % 256 := by simp [IntKind.wrap, IntKind.bits, IntKind.signed]
theorem i64w (z : Int) : IntKind.i64.wrap z = wrap64 z := by simp [IntKind.wrap, IntKind.bits, IntKind.signed, wrap64]; split <;> omega
theorem and_u8 (n m k : Nat) (hn : n < 256) (hm : m = 2 ^ k - 1) (hk : k < 8) : bits .and .u8 (n : Int) (m : Int) = ((n % 2 ^ k : Nat) : Int) := by
  have hp : 2 ^ k < 256 := by have := Nat.pow_lt_pow_right (a := 2) (by decide) hk; simpa using this
  have h1 : (BitVec.ofInt 8 (n : Int)).toNat = n := by rw [BitVec.ofInt_natCast, BitVec.toNat_ofNat]; exact Nat.mod_eq_of_lt (by omega)
  have h2 : (BitVec.ofInt 8 (m : Int)).toNat = m := by rw [BitVec.ofInt_natCast, BitVec.toNat_ofNat]; exact Nat.mod_eq_of_lt (by omega)
  show IntKind.u8.wrap ((BitVec.ofInt 8 (n : Int) &&& BitVec.ofInt 8 (m : Int)).toNat : Int) = _
  rw [BitVec.toNat_and, h1, h2, hm, Nat.and_two_pow_sub_one_eq_mod, u8w]
  have := Nat.mod_le n (2 ^ k)
  omega
theorem a32 : aggT Tryd.prog 32 3 := aggT_of (by kernel_rfl)
/-- Of: an entry from its byte -/
theorem of_any (b addr : Nat) (hb : b < 256) (w : World) : Calls Tryd.prog 14 #[.int .u8 (b : Int), .int .u32 (addr : Int)] w fun e w' => e = .returned (entV ((b / 8 % 4 : Nat) : Int) ((b % 8 : Nat) : Int) addr) ∧ Chg [] w w' := by
  have a1 : bits .and .u8 ((b / 8 : Nat) : Int) 3 = ((b / 8 % 4 : Nat) : Int) := and_u8 (b / 8) 3 2 (by omega) (by decide) (by decide)
  have a2 : bits .and .u8 (b : Int) 7 = ((b % 8 : Nat) : Int) := and_u8 b 7 3 hb (by decide) (by decide)
  obtain ⟨x, hx⟩ : ∃ x, x = b / 8 := ⟨_, rfl⟩
  obtain ⟨y, hy⟩ : ∃ y, y = x % 4 := ⟨_, rfl⟩
  obtain ⟨z, hz⟩ : ∃ z, z = b % 8 := ⟨_, rfl⟩
  rw [← hx] at a1 ⊢
  rw [← hy] at a1 ⊢
  rw [← hz] at a2 ⊢
  have e1 : (b : Int) / 2 ^ 3 = (x : Int) := by omega
  have e2 : (b : Int) / 8 = (x : Int) := by omega
  have hy4 : y < 4 := by omega
  have hz8 : z < 8 := by omega
  have c1 : wrap64 (y : Int) = (y : Int) := IntWalk.wrap64_in _ ⟨by omega, by omega⟩
  have c2 : wrap64 (z : Int) = (z : Int) := IntWalk.wrap64_in _ ⟨by omega, by omega⟩
  clear hx hy hz hb hy4 hz8
  unfold entV
  go_enter Tryd.func14, Tryd.ntmps14
  go_wp2
  refine bodyPost_ret (v := .agg #[.int .i64 (y : Int), .int .i64 (z : Int), .int .u32 (addr : Int)]) (ret_cell1 rfl a32 rfl (row_alloc_at _ _ _ _ rfl) rfl) rfl ?_
  exact ⟨rfl, (Chg.refl _ _).alloc _⟩
theorem and_i64 (n m k : Nat) (hn : n < 4294967296) (hm : m = 2 ^ k - 1) (hk : k < 32) : bits .and .i64 (n : Int) (m : Int) = ((n % 2 ^ k : Nat) : Int) := by
  have hp : 2 ^ k < 4294967296 := by have := Nat.pow_lt_pow_right (a := 2) (by decide) hk; simpa using this
  have h1 : (BitVec.ofInt 64 (n : Int)).toNat = n := by rw [BitVec.ofInt_natCast, BitVec.toNat_ofNat]; exact Nat.mod_eq_of_lt (by omega)
  have h2 : (BitVec.ofInt 64 (m : Int)).toNat = m := by rw [BitVec.ofInt_natCast, BitVec.toNat_ofNat]; exact Nat.mod_eq_of_lt (by omega)
  show IntKind.i64.wrap ((BitVec.ofInt 64 (n : Int) &&& BitVec.ofInt 64 (m : Int)).toNat : Int) = _
  rw [BitVec.toNat_and, h1, h2, hm, Nat.and_two_pow_sub_one_eq_mod, i64w, IntWalk.wrap64_in]
  have := Nat.mod_le n (2 ^ k)
  omega
/-- Byte: an entry's byte -/
theorem byte_any (way rights addr : Nat) (h1 : way < 4) (h2 : rights < 8) (w : World) : Calls Tryd.prog 15 #[entV (way : Int) (rights : Int) addr] w fun e w' => e = .returned (.int .u8 ((rights + 8 * way : Nat) : Int)) ∧ Chg [] w w' := by
  have a1 : bits .and .i64 (rights : Int) 7 = (rights : Int) := by
    have := and_i64 rights 7 3 (by omega) (by decide) (by decide)
    rw [show rights % 2 ^ 3 = rights by omega] at this; exact this
  have a2 : bits .and .i64 (way : Int) 3 = (way : Int) := by
    have := and_i64 way 3 2 (by omega) (by decide) (by decide)
    rw [show way % 2 ^ 2 = way by omega] at this; exact this
  have hor : ∀ r q : Nat, r < 8 → q < 4 → bits .or .i64 (r : Int) ((q * 8 : Nat) : Int) = ((r + 8 * q : Nat) : Int) := by
    intro r q hr hq
    have hr' : r = 0 ∨ r = 1 ∨ r = 2 ∨ r = 3 ∨ r = 4 ∨ r = 5 ∨ r = 6 ∨ r = 7 := by omega
    have hq' : q = 0 ∨ q = 1 ∨ q = 2 ∨ q = 3 := by omega
    rcases hr' with rfl | rfl | rfl | rfl | rfl | rfl | rfl | rfl <;> rcases hq' with rfl | rfl | rfl | rfl <;> decide
  obtain ⟨m, hm⟩ : ∃ m, m = way * 8 := ⟨_, rfl⟩
  have a3 := hor rights way h2 h1
  rw [← hm] at a3
  have s1 : wrap64 ((way : Int) * 2 ^ 3) = (m : Int) := by rw [IntWalk.wrap64_in _ ⟨by omega, by omega⟩]; omega
  have s2 : wrap64 ((way : Int) * 8) = (m : Int) := by rw [IntWalk.wrap64_in _ ⟨by omega, by omega⟩]; omega
  obtain ⟨t, ht⟩ : ∃ t, t = rights + 8 * way := ⟨_, rfl⟩
  rw [← ht] at a3 ⊢
  have s3 : IntKind.u8.wrap (t : Int) = (t : Int) := by rw [u8w]; omega
  have s4 : (t : Int) % 256 = (t : Int) := by omega
  clear hor hm ht h1 h2
  unfold entV
  go_enter Tryd.func15, Tryd.ntmps15
  go_wp2
  go_ret
  exact ⟨rfl, (Chg.refl _ _).alloc _⟩
end Go.Proofs.L
