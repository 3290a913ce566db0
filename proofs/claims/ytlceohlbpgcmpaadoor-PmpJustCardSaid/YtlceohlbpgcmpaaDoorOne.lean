/- Proved here: lemmas and contracts (One) for the laws of this seat, for all values of the stated types; no further condition. -/
import Derived.Test.YtlceohlbpgcmpaaDoorCheck
open Go Go.RowKit Go.Lib
namespace Go.Proofs.L
attribute [local irreducible] wpT
/-- a grant -/
structure Gr where
  start : Nat
  size : Nat
  rights : Int
  deriving DecidableEq, Inhabited
def grV (g : Gr) : Array Value := #[.int .u32 (g.start : Int), .int .u32 (g.size : Int), .int .i64 g.rights]
def oneN (g : Gr) : List Ent :=
  if g.size = 4 then [⟨2, g.rights, g.start / 4⟩]
  else if onesN g.size = 1 ∧ g.start % g.size = 0 then [⟨3, g.rights, (g.start / 4) ||| (g.size / 8 - 1)⟩]
  else [⟨0, 0, g.start / 4⟩, ⟨1, g.rights, (g.start + g.size) / 4⟩]
def flatE (L : List Ent) : List Value := L.flatMap Ent.L
theorem or_u32 (a b : Nat) (ha : a < 4294967296) (hb : b < 4294967296) : bits .or .u32 (a : Int) (b : Int) = ((a ||| b : Nat) : Int) := by
  show IntKind.u32.wrap ((BitVec.ofInt 32 (a : Int) ||| BitVec.ofInt 32 (b : Int)).toNat : Int) = _
  rw [BitVec.toNat_or, BitVec.ofInt_natCast, BitVec.ofInt_natCast, BitVec.toNat_ofNat, BitVec.toNat_ofNat, Nat.mod_eq_of_lt (show a < 2 ^ 32 from ha), Nat.mod_eq_of_lt (show b < 2 ^ 32 from hb), u32w]
  have : a ||| b < 2 ^ 32 := Nat.or_lt_two_pow ha hb
  omega
set_option maxRecDepth 100000 in
theorem pop_zero : ∀ k : Nat, k < 256 → popN k = 0 → k = 0 := by decide +kernel
theorem ones_pos (x : Nat) (hx : x < 4294967296) (h : onesN x = 0) : x = 0 := by
  unfold onesN at h
  have h0 := pop_zero (x / 16777216) (by omega) (by omega)
  have h1 := pop_zero (x / 65536 % 256) (by omega) (by omega)
  have h2 := pop_zero (x / 256 % 256) (by omega) (by omega)
  have h3 := pop_zero (x % 256) (by omega) (by omega)
  omega
/-- where a slice of entries lies that was made anew -/
def NewEnts (w w' : World) (v : Value) (L : List Ent) : Prop := ∃ b, w.heap.size ≤ b ∧ v = .slice (some ⟨b, 0, none⟩) L.length L.length ∧ w'.row? b = some (flatE L).toArray
set_option maxRecDepth 100000 in
set_option maxHeartbeats 800000 in
theorem one_any (g : Gr) (h4 : g.size % 4 = 0) (h0 : g.size ≠ 0) (hlt : g.start + g.size ≤ 4294967296) (hs1 : g.start < 4294967296) (hs2 : g.size < 4294967296) (w : World) :
    Calls Tryd.prog 19 #[.agg (grV g)] w fun e w' => ∃ v, e = .returned v ∧ NewEnts w w' v (oneN g) ∧ Chg [] w w' := by
  obtain ⟨st, sz, rt⟩ := g
  simp only [] at h4 h0 hlt hs1 hs2
  unfold oneN grV
  simp only []
  obtain ⟨q, hq⟩ : ∃ q, q = st / 4 := ⟨_, rfl⟩
  have e1 : (st : Int) / 4 = (q : Int) := by omega
  by_cases c1 : sz = 4
  · subst c1
    rw [if_pos rfl]
    rw [← hq]
    clear hq hlt hs1 hs2 h0 h4
    go_enter Tryd.func19, Tryd.ntmps19
    go_wp2
    go_ret
    exact ⟨_, rfl, ⟨w.heap.size + 1, by omega, rfl, row_alloc_at _ _ _ _ (by simp)⟩, ((Chg.refl _ _).alloc _).alloc _⟩
  rw [if_neg c1]
  have n1 : ((sz : Int) == 4) = false := by rw [Bool.eq_false_iff]; simp; omega
  have hon := Lib.hid (fun w => ones_any sz hs2 w)
  obtain ⟨z, hz⟩ : ∃ z, z = onesN sz := ⟨_, rfl⟩
  rw [← hz] at hon ⊢
  have e2 : IntKind.u64.wrap (st : Int) = (st : Int) := by rw [u64w]; omega
  have e3 : IntKind.u64.wrap (sz : Int) = (sz : Int) := by rw [u64w]; omega
  obtain ⟨t, ht⟩ : ∃ t, t = (st + sz) / 4 := ⟨_, rfl⟩
  have e4 : IntKind.u64.wrap ((st : Int) + (sz : Int)) / 4 = (t : Int) := by rw [u64w]; omega
  have e5 : IntKind.u32.wrap (t : Int) = (t : Int) := by rw [u32w]; omega
  by_cases c2 : z = 1
  · subst c2
    obtain ⟨r, hr⟩ : ∃ r, r = st % sz := ⟨_, rfl⟩
    have e6 : (st : Int) % (sz : Int) = (r : Int) := by rw [hr]; rfl
    have e7 : ((sz : Int) == 0) = false := by rw [Bool.eq_false_iff]; simp; omega
    have e8 : ((sz : Int) = 0) = False := by simp; omega
    rw [← hr, ← ht]
    by_cases c3 : r = 0
    · subst c3
      rw [if_pos ⟨rfl, rfl⟩]
      have f1 : bits .or .u32 (q : Int) ((sz / 8 - 1 : Nat) : Int) = ((q ||| (sz / 8 - 1) : Nat) : Int) := or_u32 _ _ (by omega) (by omega)
      have f2 : IntKind.u32.wrap ((sz : Int) / 8 - 1) = ((sz / 8 - 1 : Nat) : Int) := by rw [u32w]; omega
      obtain ⟨y, hy⟩ : ∃ y, y = sz / 8 - 1 := ⟨_, rfl⟩
      rw [← hy] at f1 f2
      rw [← hq, ← hy]
      obtain ⟨o, ho⟩ : ∃ o, o = q ||| y := ⟨_, rfl⟩
      rw [← ho] at f1 ⊢
      clear hq hlt hs1 hs2 h4 hz ht hr hy ho c1
      go_enter Tryd.func19, Tryd.ntmps19
      go_wp2_with fail
      refine (hon.out _).mono ?_
      rintro e w' ⟨rfl, rfl⟩
      go_wp2
      go_ret
      exact ⟨_, rfl, ⟨w.heap.size + 1, by omega, rfl, row_alloc_at _ _ _ _ (by simp)⟩, (((Chg.refl _ _).alloc _).drew).alloc _⟩
    · rw [if_neg (fun h => c3 h.2), ← hq]
      have n3 : ((r : Int) == 0) = false := by rw [Bool.eq_false_iff]; simp; omega
      clear hq hlt hs1 hs2 h4 hz ht hr c1
      go_enter Tryd.func19, Tryd.ntmps19
      go_wp2_with fail
      refine (hon.out _).mono ?_
      rintro e w' ⟨rfl, rfl⟩
      go_wp2
      go_ret
      exact ⟨_, rfl, ⟨w.heap.size + 1, by omega, rfl, row_alloc_at _ _ _ _ (by simp)⟩, (((Chg.refl _ _).alloc _).drew).alloc _⟩
  · rw [if_neg (fun h => c2 h.1), ← hq, ← ht]
    have n2 : ((z : Int) == 1) = false := by rw [Bool.eq_false_iff]; simp; omega
    clear hq hlt hs1 hs2 h4 hz ht c1
    go_enter Tryd.func19, Tryd.ntmps19
    go_wp2_with fail
    refine (hon.out _).mono ?_
    rintro e w' ⟨rfl, rfl⟩
    go_wp2
    go_ret
    exact ⟨_, rfl, ⟨w.heap.size + 1, by omega, rfl, row_alloc_at _ _ _ _ (by simp)⟩, (((Chg.refl _ _).alloc _).drew).alloc _⟩
end Go.Proofs.L
