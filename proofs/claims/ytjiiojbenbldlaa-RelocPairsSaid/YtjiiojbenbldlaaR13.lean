/- Proved here: lemmas and contracts (R13) for the laws of this seat, for all values of the stated types; no further condition. -/
import Derived.Test.YtjiiojbenbldlaaR12
open Go Go.RowKit Go.Lib
namespace Go.Proofs.L
attribute [local irreducible] wpT
theorem load4_bad (a : Nat) (ha : a < 4294967296) (h : inRam a 4 = false) (p : Addr) (w : World) : Calls Try.prog 13 #[.pointer (some p), .int .u32 (a : Int), .int .i64 4] w fun e w' => e = .returned (.tuple #[.int .u32 0, .int .i64 18]) ∧ w' = w := by
  have HS := Lib.hid (has_any a 4 ha (by decide) p)
  rw [h] at HS
  clear h
  go_enter Try.func13, Try.ntmps13
  go_wp2_with fail
  refine (HS.out w).mono ?_
  rintro e w' ⟨rfl, rfl⟩
  go_wp2
  go_ret2
  exact ⟨rfl, rfl⟩
theorem store4_bad (a x : Nat) (ha : a < 4294967296) (h : inRam a 4 = false) (p : Addr) (w : World) : Calls Try.prog 17 #[.pointer (some p), .int .u32 (a : Int), .int .i64 4, .int .u32 (x : Int)] w fun e w' => e = .returned (.int .i64 18) ∧ w' = w := by
  have HS := Lib.hid (has_any a 4 ha (by decide) p)
  rw [h] at HS
  clear h
  go_enter Try.func17, Try.ntmps17
  go_wp2_with fail
  refine (HS.out w).mono ?_
  rintro e w' ⟨rfl, rfl⟩
  go_wp2
  go_ret
  exact ⟨rfl, rfl⟩
def rb : Nat := 2147483648
theorem ram_split {a : Nat} (h : inRam a 4 = true) : a = (a - rb) + 2147483648 ∧ (a - rb) + 4 ≤ 65536 := by
  unfold inRam at h
  have := of_decide_eq_true h
  unfold rb
  omega
def ldN (f : Nat → Nat) (a : Nat) : Nat × Nat := if inRam a 4 then (leN f (a - rb) 4, 0) else (0, 18)
def sdN (f : Nat → Nat) (a x : Nat) : (Nat → Nat) × Nat := if inRam a 4 then (stN f (a - rb) x 4, 0) else (f, 18)
theorem load4_any (f : Nat → Nat) (hf : ∀ i, f i < 256) (a b : Nat) (ha : a < 4294967296) (w : World) (hw : w.row? b = some (mem f)) : Calls Try.prog 13 #[.pointer (some ⟨b, 0, none⟩), .int .u32 (a : Int), .int .i64 4] w fun e w' => e = .returned (.tuple #[.int .u32 ((ldN f a).1 : Int), .int .i64 ((ldN f a).2 : Int)]) ∧ Chg [] w w' := by
  unfold ldN
  cases h : inRam a 4
  · exact (load4_bad a ha h _ w).mono fun e w' ⟨h1, h2⟩ => ⟨h1, by rw [h2]; exact Chg.refl _ _⟩
  · obtain ⟨h1, h2⟩ := ram_split h
    exact (load_ok f hf a (a - rb) 4 b h1 (.inr (.inr rfl)) h2 w hw).mono fun e w' q => ⟨q.1, by rw [q.2]; exact Chg.refl _ _⟩
theorem store4_any (f : Nat → Nat) (a b x : Nat) (ha : a < 4294967296) (hx : x < 4294967296) (w : World) (hw : w.row? b = some (mem f)) : Calls Try.prog 17 #[.pointer (some ⟨b, 0, none⟩), .int .u32 (a : Int), .int .i64 4, .int .u32 (x : Int)] w fun e w' => e = .returned (.int .i64 ((sdN f a x).2 : Int)) ∧ w'.row? b = some (mem (sdN f a x).1) ∧ Chg [b] w w' := by
  unfold sdN
  cases h : inRam a 4
  · exact (store4_bad a x ha h _ w).mono fun e w' ⟨h1, h2⟩ => ⟨h1, by rw [h2]; exact ⟨hw, Chg.refl _ _⟩⟩
  · obtain ⟨h1, h2⟩ := ram_split h
    exact (store_ok f a (a - rb) 4 b x h1 (.inr (.inr rfl)) h2 hx w hw).mono fun e w' q => q
end Go.Proofs.L
