/- Proved here: lemmas and contracts (Rr7) for the laws of this seat, for all values of the stated types; no further condition. -/
import Derived.Test.YtjiiojbenbldlaaRr6
import Derived.Test.YtjiiojbenbldlaaRr1
import Derived.Test.YtjiiojbenbldlaaRr3
open Go Go.RowKit Go.Lib
namespace Go.Proofs.L
attribute [local irreducible] wpT
/-! the law's small, lay -/
structure Jb where
  (pW : Option Addr) (bW oW nW cW : Nat) (v : Jv) (more : Nat) (split : Int)
def jobA (j : Jb) : Array Value := #[.slice j.pW j.nW j.cW, .slice j.v.psy j.v.nsy j.v.csy, .slice j.v.prl j.v.nrl j.v.crl, .int .u32 (j.more : Int), .int .i64 j.split]
def smallN (j : Jb) : Prop := j.nW ≤ 300 ∧ j.v.nsy ≤ 100 ∧ j.v.nrl ≤ 100 ∧ 0 < j.nW
instance (j : Jb) : Decidable (smallN j) := by unfold smallN; infer_instance
set_option maxRecDepth 100000 in
theorem small_any (j : Jb) (w : World) : Calls Try.prog 9 #[.agg (jobA j)] w fun e w' => e = .returned (.bool (decide (smallN j))) ∧ Chg [] w w' := by
  obtain ⟨pW, bW, oW, nW, cW, v, more, split⟩ := j
  obtain ⟨e, sg, prl, brl, orl, nrl, crl, psy, bsy, osy, nsy, csy, bias, psp, bsp, osp, nsp, csp, m⟩ := v
  unfold jobA smallN
  simp only
  rcases Decidable.em (nW ≤ 300) with h1 | h1
  · rcases Decidable.em (nsy ≤ 100) with h2 | h2
    · rcases Decidable.em (nrl ≤ 100) with h3 | h3
      · rcases Decidable.em (0 < nW) with h4 | h4
        · have HD : Hid (decide (nW ≤ 300 ∧ nsy ≤ 100 ∧ nrl ≤ 100 ∧ 0 < nW) = true) := Lib.hid (decide_eq_true ⟨h1, h2, h3, h4⟩)
          have d1 : (nW : Int) ≤ 300 := by omega
          have d2 : (nsy : Int) ≤ 100 := by omega
          have d3 : (nrl : Int) ≤ 100 := by omega
          have d4 : (0 : Int) < (nW : Int) := by omega
          rw [HD.out]
          go_enter Try.func9, Try.ntmps9
          go_wp2
          go_ret
          exact ⟨rfl, (Chg.refl _ _).alloc _⟩
        · have HD : Hid (decide (nW ≤ 300 ∧ nsy ≤ 100 ∧ nrl ≤ 100 ∧ 0 < nW) = false) := Lib.hid (decide_eq_false (fun h => h4 h.2.2.2))
          have d1 : (nW : Int) ≤ 300 := by omega
          have d2 : (nsy : Int) ≤ 100 := by omega
          have d3 : (nrl : Int) ≤ 100 := by omega
          have d4 : ¬ (0 : Int) < (nW : Int) := by omega
          rw [HD.out]
          go_enter Try.func9, Try.ntmps9
          go_wp2
          go_ret
          exact ⟨rfl, (Chg.refl _ _).alloc _⟩
      · have HD : Hid (decide (nW ≤ 300 ∧ nsy ≤ 100 ∧ nrl ≤ 100 ∧ 0 < nW) = false) := Lib.hid (decide_eq_false (fun h => h3 h.2.2.1))
        have d1 : (nW : Int) ≤ 300 := by omega
        have d2 : (nsy : Int) ≤ 100 := by omega
        have d3 : ¬ (nrl : Int) ≤ 100 := by omega
        rw [HD.out]
        go_enter Try.func9, Try.ntmps9
        go_wp2
        go_ret
        exact ⟨rfl, (Chg.refl _ _).alloc _⟩
    · have HD : Hid (decide (nW ≤ 300 ∧ nsy ≤ 100 ∧ nrl ≤ 100 ∧ 0 < nW) = false) := Lib.hid (decide_eq_false (fun h => h2 h.2.1))
      have d1 : (nW : Int) ≤ 300 := by omega
      have d2 : ¬ (nsy : Int) ≤ 100 := by omega
      rw [HD.out]
      go_enter Try.func9, Try.ntmps9
      go_wp2
      go_ret
      exact ⟨rfl, (Chg.refl _ _).alloc _⟩
  · have HD : Hid (decide (nW ≤ 300 ∧ nsy ≤ 100 ∧ nrl ≤ 100 ∧ 0 < nW) = false) := Lib.hid (decide_eq_false (fun h => h1 h.1))
    have d1 : ¬ (nW : Int) ≤ 300 := by omega
    rw [HD.out]
    go_enter Try.func9, Try.ntmps9
    go_wp2
    go_ret
    exact ⟨rfl, (Chg.refl _ _).alloc _⟩
def wordsF (Ws : List Nat) : Nat → (Nat → Nat)
  | 0 => fun _ => 0
  | j + 1 => stN (wordsF Ws j) (4096 + 4 * j) (Ws.getD j 0) 4
theorem wordsF_lt (Ws : List Nat) : ∀ j i, wordsF Ws j i < 256
  | 0, _ => Nat.zero_lt_succ _
  | j + 1, i => stN_lt _ (wordsF_lt Ws j) _ _ _ i
structure Lay (w : World) (mb rp rm N : Nat) (F : Nat → Nat) : Prop where
  row : w.row? mb = some (mem F)
  ram : RamAt w rp rm N F
  ne1 : mb ≠ rp
  ne2 : mb ≠ rm
theorem Lay.keep {w w' : World} {mb rp rm N : Nat} {F : Nat → Nat} (h : Lay w mb rp rm N F) (hc : Chg [] w w') : Lay w' mb rp rm N F :=
  ⟨(hc.row (row_lt h.row) (by simp)).trans h.row, h.ram.keep hc (by simp) (by simp), h.ne1, h.ne2⟩
def bsN (more : Nat) : Nat := (2147487744 + more) % 4294967296
def kN (split : Int) (n : Nat) : Nat := ((split.tmod n + n).tmod n).toNat
def ssN (k n : Nat) : List Sp := [⟨2147487744, 4 * k, 0⟩, ⟨2147487744 + 4 * k, 4 * (n - k), 0⟩]
structure LayQ (W w : World) (mb rp rm sb rb' N : Nat) (F : Nat → Nat) (k n : Nat) : Prop where
  lay : Lay w mb rp rm N F
  sp : w.row? sb = some ((ssN k n).flatMap SpC).toArray
  rs : w.row? rb' = some ((ssN k n).flatMap RsC).toArray
  chg : Chg [] W w
  new : W.heap.size ≤ mb ∧ W.heap.size ≤ rp ∧ W.heap.size ≤ rm ∧ W.heap.size ≤ sb ∧ W.heap.size ≤ rb'
  ap : sb ≠ mb ∧ sb ≠ rm ∧ rb' ≠ rm ∧ rb' ≠ mb
  nn : N ≤ 4 * n
  kk : k < n
theorem kN_facts (split : Int) (n : Nat) (h0 : 0 < n) : ∃ (r : Int) (s : Nat), split.tmod n = r ∧ -300 * 1000000 ≤ 0 ∧ r + n = (s : Int) ∧ s < 2 * n ∧ (s : Int).tmod n = ((kN split n : Nat) : Int) ∧ kN split n < n ∧ (s : Int) % n = ((kN split n : Nat) : Int) := by
  have h1 := Int.lt_tmod_of_pos split (show (0 : Int) < n by omega)
  have h2 := Int.tmod_lt_of_pos split (show (0 : Int) < n by omega)
  obtain ⟨s, hs⟩ := Int.eq_ofNat_of_zero_le (show 0 ≤ split.tmod n + n by omega)
  have h3 : (s : Int).tmod n = ((s % n : Nat) : Int) := by rw [Int.tmod_eq_emod_of_nonneg (by omega)]; exact (Int.natCast_emod s n).symm
  have h4 : kN split n = s % n := by unfold kN; rw [hs, h3, Int.toNat_natCast]
  refine ⟨split.tmod n, s, rfl, by decide, hs, by omega, by rw [h3, h4], by rw [h4]; exact Nat.mod_lt _ h0, by rw [h4]; exact (Int.natCast_emod s n).symm⟩
end Go.Proofs.L
