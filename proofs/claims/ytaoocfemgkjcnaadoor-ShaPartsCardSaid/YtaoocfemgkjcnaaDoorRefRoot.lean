/- Proved here: lemmas and contracts (RefRoot) for the laws of this seat, for all values of the stated types; no further condition. -/
import Derived.Test.YtaoocfemgkjcnaaDoorRefAbove
import Derived.Test.YtaoocfemgkjcnaaDoorOwnMore
open Go Go.RowKit Go.Lib
namespace Go.Proofs.L
attribute [local irreducible] wpT
def rootX (p k : Nat) : Nat → Nat
  | 0 => 0
  | s + 1 =>
    let x := rootX p k s
    let y := (x + 2 ^ (35 - s)) % 18446744073709551616
    if aboveN y p k then x else y
def rootN (p k : Nat) : Nat := rootX p k 36 % 4294967296
theorem rootX_lt (p k s : Nat) : rootX p k s < 18446744073709551616 := by
  induction s with
  | zero => show 0 < _; omega
  | succ s ih =>
    show (if _ then _ else _) < _
    split
    · exact ih
    · exact Nat.mod_lt _ (by decide)
theorem wadd2 {a b z : Nat} {c : Int} (hc : c = (b : Int)) (h : z = (a + b) % 18446744073709551616) : IntKind.u64.wrap ((a : Int) + c) = (z : Int) := by rw [hc]; exact wadd h
theorem wpow {b : Nat} (h : b < 36) : IntKind.u64.wrap (2 ^ b) = (2 : Int) ^ b := by
  have h1 : 2 ^ b < 2 ^ 36 := Nat.pow_lt_pow_right (by decide) h
  have h2 : ((2 : Int) ^ b) = ((2 ^ b : Nat) : Int) := by rw [Int.natCast_pow]; rfl
  rw [h2]
  obtain ⟨n, hn⟩ : ∃ n, n = 2 ^ b := ⟨_, rfl⟩
  rw [← hn] at h1 ⊢
  exact widl (by omega)
theorem wpow2 {x b y : Nat} (h : y = (x + 2 ^ b) % 18446744073709551616) : IntKind.u64.wrap ((x : Int) + 2 ^ b) = (y : Int) :=
  wadd2 (b := 2 ^ b) (by rw [Int.natCast_pow]; rfl) h
set_option maxRecDepth 100000 in
set_option maxHeartbeats 1600000 in
theorem root_any (w : World) (p k : Nat) (hp : p < 18446744073709551616) (hk : k ≤ 3) :
    Calls Tryd.prog 15 #[.int .u64 (p : Int), .int .i64 (k : Int)] w fun e w' => e = .returned (.int .u64 ((rootN p k : Nat) : Int)) ∧ Chg [] w w' := by
  have HP := Lib.hid hp
  have HK := Lib.hid hk
  clear hp hk
  go_enter Tryd.func15, Tryd.ntmps15
  go_wp2_with fail
  go_loopw [6, 5] (fun i x wr => ∃ s b : Nat, s + b = 36 ∧ i = .int .i64 ((b : Int) - 1) ∧ x = .int .u64 ((rootX p k s : Nat) : Int) ∧ Chg [] w wr) (fun i _ _ => (intOf i + 1).toNat)
  case atStart => exact ⟨0, 36, rfl, rfl, rfl, Chg.refl _ _⟩
  case round =>
    obtain ⟨s, b, hsb, rfl, rfl, hch⟩ := hrel
    have HC := Lib.hid hch
    have HX : Hid (rootX p k s < 18446744073709551616) := Lib.hid (rootX_lt p k s)
    have HS : Hid (rootX p k (s + 1) = if aboveN ((rootX p k s + 2 ^ (35 - s)) % 18446744073709551616) p k then rootX p k s else (rootX p k s + 2 ^ (35 - s)) % 18446744073709551616) := Lib.hid rfl
    have HR : Hid (s = 36 → rootX p k s % 4294967296 = rootN p k) := Lib.hid (fun h => by rw [h]; rfl)
    clear hch
    obtain ⟨x, hx⟩ : ∃ x, x = rootX p k s := ⟨_, rfl⟩
    rw [← hx] at HX HS HR ⊢
    clear hx
    rcases b with _ | b
    · have hs36 : s = 36 := by omega
      have e0 : ((0 : Nat) : Int) - 1 = -1 := rfl
      rw [e0]
      have HF := Lib.hid (HR.out hs36)
      obtain ⟨z, hz⟩ : ∃ z, z = x % 4294967296 := ⟨_, rfl⟩
      have w1 := wmod hz
      have w2 := wtmod hz
      have HF2 : Hid (rootN p k = z) := Lib.hid (by rw [hz]; exact HF.out.symm)
      clear hsb hs36 e0 hz
      go_wp2
      go_ret
      exact ⟨by rw [HF2.out]; rfl, HC.out⟩
    · have hs : 35 - s = b := by omega
      rw [hs] at HS
      have hb36 : b < 36 := by omega
      have e0 : ((b + 1 : Nat) : Int) - 1 = (b : Int) := by omega
      rw [e0]
      have HSB := Lib.hid hsb
      obtain ⟨y, hy⟩ : ∃ y, y = (x + 2 ^ b) % 18446744073709551616 := ⟨_, rfl⟩
      rw [← hy] at HS
      have hyl := m64 hy
      have HYL := Lib.hid hyl
      have hpw := wpow hb36
      have HWY := Lib.hid (wpow2 hy)
      have bI : (b : Int) < 36 := by omega
      clear hs hsb e0
      go_wp2_with fail
      rw [HWY.out]
      refine (above_any wr y p k HYL.out (by have := HK.out; omega) HK.out).mono ?_
      rintro e v1 ⟨rfl, hc1⟩
      have HC1 := Lib.hid (HC.out.trans hc1)
      clear hc1
      obtain ⟨f, hf⟩ : ∃ f, f = aboveN y p k := ⟨_, rfl⟩
      rw [← hf] at HS ⊢
      clear hf hy hyl hpw
      cases f
      · have HS2 : Hid (rootX p k (s + 1) = y) := Lib.hid (by rw [HS.out]; rfl)
        go_wp2
        case roundEnd => exact ⟨⟨s + 1, b, by have := HSB.out; omega, rfl, by rw [HS2.out], HC1.out⟩, by simp only [intOf]; omega⟩
      · have HS2 : Hid (rootX p k (s + 1) = x) := Lib.hid (by rw [HS.out]; rfl)
        go_wp2
        case roundEnd => exact ⟨⟨s + 1, b, by have := HSB.out; omega, rfl, by rw [HS2.out], HC1.out⟩, by simp only [intOf]; omega⟩
end Go.Proofs.L
