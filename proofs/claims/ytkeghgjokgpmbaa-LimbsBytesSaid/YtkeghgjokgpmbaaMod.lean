/- Proved here: lemmas and contracts (Mod) for the laws of this seat, for all values of the stated types; no further condition. -/
import Derived.Test.YtkeghgjokgpmbaaBitSub
open Go Go.RowKit
namespace Go.Proofs.L
attribute [local go_sem ↓] z23 z24 z27 ld23 st23 ld24 st24 ld27 st27 bd27
attribute [local go_sem] num_size num_all bts_size bts_all
theorem bd24 (a : Act) (d t p af g) (w : World) : Sem.run Try.prog (execOp (Act.eval a) { dst := d, op := .build 24 #[(0, .const (.int .u32 1))], type := t, pos := p, after := af, guard := g }) w = .ok (.value (.agg (num 1))) w := by kernel_rfl
theorem bd24z (a : Act) (d t p af g) (w : World) : Sem.run Try.prog (execOp (Act.eval a) { dst := d, op := .build 24 #[], type := t, pos := p, after := af, guard := g }) w = .ok (.value (.agg (num 0))) w := by kernel_rfl
attribute [local go_sem ↓] bd24 bd24z
/-- a number below 2^256 -/
def T (n : Nat) : Prop := n < 2^256
def sm (a b : Nat) : Nat := (a + b) % 2^256
def df (a b : Nat) : Nat := (a + (2^256 - b)) % 2^256
theorem T_sm (a b) : T (sm a b) := Nat.mod_lt _ (by decide)
theorem T_df (a b) : T (df a b) := Nat.mod_lt _ (by decide)
theorem dig_mod (n : Nat) : dig (n % 2^256) = dig n := by
  unfold dig
  apply List.map_congr_left
  intro i hi
  have hi := List.mem_range.1 hi
  unfold D
  have e : (2:Nat) ^ 256 = 2 ^ (32 * i) * 2 ^ (256 - 32 * i) := by rw [← Nat.pow_add]; congr 1; omega
  rw [e, Nat.mod_mul_right_div_self, Nat.mod_mod_of_dvd]
  exact Nat.pow_dvd_pow 2 (show 32 ≤ 256 - 32 * i by omega)
theorem num_mod (n : Nat) : num (n % 2^256) = num n := congrArg (cellsK .u32) (dig_mod n)
theorem add_T (a b : Nat) (w : World) :
    Calls Try.prog 9 #[.agg (num a), .agg (num b)] w fun e w' => e = .returned (.tuple #[.agg (num (sm a b)), .int .u32 (C a b 8)]) ∧ Below w.heap.size w w' := by
  rw [sm, num_mod]; exact add_any a b w
theorem sub_T (a b : Nat) (ha : T a) (hb : T b) (w : World) :
    Calls Try.prog 11 #[.agg (num a), .agg (num b)] w fun e w' => e = .returned (.tuple #[.agg (num (df a b)), .int .u32 (Bw a b 8)]) ∧ Below w.heap.size w w' := sub_any a b ha hb w
def big : Nat := 2^256 - 1
theorem D_big : (D big 7 : Int) = 4294967295 := by decide
theorem sm_big : sm big 1 = 0 := by decide
theorem df_big : df 0 1 = big := by decide
theorem Bw_big : Bw 0 1 8 = 1 := by decide
theorem C_big : C big 1 8 = 1 := by decide
theorem cmp_big : cmpR big 0 = 1 := by decide
theorem Bt_big : Bt.D big 255 = 1 := by decide
theorem T_num (n : Nat) (h : n < 2^256) : T n := h
theorem num_getE (a i : Nat) (h : i < (num a).size) : (num a)[i] = .int .u32 (D a i : Int) := by
  have h8 : i < 8 := by rw [num_size] at h; exact h
  have := num_get a i h8
  rw [Array.getElem?_eq_getElem h] at this
  exact Option.some.inj this
end Go.Proofs.L
