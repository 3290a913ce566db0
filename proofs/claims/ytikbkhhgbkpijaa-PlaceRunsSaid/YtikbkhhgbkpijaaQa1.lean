/- Proved here: lemmas and contracts (Qa1) for the laws of this seat, for all values of the stated types; no further condition. -/
import Derived.Test.YtikbkhhgbkpijaaPl2b
import Derived.Test.YtikbkhhgbkpijaaOwn2
import Derived.Maps.OwnOps
import Derived.Maps.Views
open Go Go.RowKit Go.Lib Go.Maps
namespace Go.Proofs.L
attribute [local irreducible] wpT
/-! the reference's memory: a map from addresses to bytes -/
theorem kd3 : Keyed Try.prog 3 := int_keyed Try.underlying3
theorem ze5 (w : World) : (zeroValue 5).run Try.prog w = .ok (.int .u8 0) w := by kernel_rfl
def keyN (i : Nat) : Lit := .int .i64 ((2147483648 + i : Nat) : Int)
structure MapF (D : DataW Unit) (f : Nat → Nat) : Prop where
  at_ : ∀ i, i < 65536 → D.atKey (keyN i) (.lit (.int .u8 0)) = .lit (.int .u8 (f i : Int))
  has_ : ∀ k, has D k = true → ∃ i, i < 65536 ∧ k = keyN i
  map_ : IsMap D
structure RamAt (w : World) (p m n : Nat) (f : Nat → Nat) : Prop where
  row : w.row? p = some #[.map (some m)]
  own : ∃ D : DataW Unit, w.ownsMap Try.prog 3 (plainElem Try.prog 5) m n D ∧ MapF D f
  ne : p ≠ m
theorem ownsMap_chg {E : List Nat} {w w' : World} {P : Program} {k : TypeId} {R : Value → Option (DataW Unit × List MemPlace)} {b n : Nat} {D : DataW Unit} (h : w.ownsMap P k R b n D) (hc : Chg E w w') (hE : b ∉ E) : w'.ownsMap P k R b n D := by
  have hlt := h.lt
  obtain ⟨es, clock, hb, rest⟩ := h
  exact ⟨es, clock, (hc.block b hlt hE).trans hb, rest⟩
theorem RamAt.keep {E : List Nat} {w w' : World} {p m n : Nat} {f : Nat → Nat} (h : RamAt w p m n f) (hc : Chg E w w') (hp : p ∉ E) (hm : m ∉ E) : RamAt w' p m n f := by
  obtain ⟨D, h1, h2⟩ := h.own
  exact ⟨(hc.row (row_lt h.row) hp).trans h.row, ⟨D, ownsMap_chg h1 hc hm, h2⟩, h.ne⟩
theorem keyN_ne {i j : Nat} (h : i ≠ j) : keyN i ≠ keyN j := by
  unfold keyN; intro e; injection e with _ e; omega
theorem keyN_lit (i : Nat) : WideAt.IsKeyLit (keyN i) := by unfold keyN; first | exact trivial | exact True.intro | (simp [WideAt.IsKeyLit])
theorem MapF.put {D : DataW Unit} {f : Nat → Nat} (h : MapF D f) (i x : Nat) (hi : i < 65536) : MapF (D.put (keyN i) (.lit (.int .u8 (x : Int)))) (up f i x) where
  at_ j hj := by
    by_cases e : j = i
    · subst e
      rw [atKey_put_same h.map_ (keyN_lit j)]
      simp [up]
    · rw [atKey_put_other (keyN_ne e), h.at_ j hj]
      simp [up, e]
  has_ k hk := by
    by_cases e : k = keyN i
    · exact ⟨i, hi, e⟩
    · rw [has_put_other e] at hk
      exact h.has_ k hk
  map_ := h.map_.put _ _
theorem rnew_any (w : World) : Calls Try.prog 11 #[] w fun e w' => ∃ p m, e = .returned (.pointer (some ⟨p, 0, none⟩)) ∧ RamAt w' p m 0 (fun _ => 0) ∧ Chg [] w w' ∧ w.heap.size ≤ p ∧ w.heap.size ≤ m := by
  have hmm := @run_makeMap Try.prog
  go_enter Try.func11, Try.ntmps11
  go_wp2
  go_ret
  refine ⟨_, w.heap.size, rfl, ⟨?_, ⟨.map [], ?_, ⟨fun i _ => rfl, fun k hk => by simp [has_eq] at hk, isMap_empty⟩⟩, by simp⟩, ((Chg.refl _ _).alloc _).alloc _, by simp, Nat.le_refl _⟩
  · exact row_alloc_at _ _ _ _ (by simp)
  · exact (World.ownsMap_made w Try.prog 3 (plainElem Try.prog 5)).alloc _
theorem rhas_any (a n : Nat) (ha : a < 8589934592) (hn : n < 8589934592) (w : World) : Calls Try.prog 20 #[.int .i64 (a : Int), .int .i64 (n : Int)] w fun e w' => e = .returned (.bool (inRam a n)) ∧ w' = w := by
  obtain ⟨s, hs⟩ : ∃ s, s = a + n := ⟨_, rfl⟩
  have h1 : wrap64 ((a : Int) + (n : Int)) = (s : Int) := by rw [IntWalk.wrap64_in _ ⟨by omega, by omega⟩]; omega
  unfold inRam
  rw [← hs]
  have HA := Lib.hid ha
  clear ha hn hs
  by_cases h2 : 2147483648 ≤ a
  · have d2 : (2147483648 : Int) ≤ (a : Int) := by omega
    by_cases h3 : s ≤ 2147549184
    · have d3 : (s : Int) ≤ 2147549184 := by omega
      rw [decide_eq_true (And.intro h2 h3)]
      clear h2 h3
      go_enter Try.func20, Try.ntmps20
      go_wp2
      go_ret
      exact ⟨rfl, rfl⟩
    · have d3 : ¬ (s : Int) ≤ 2147549184 := by omega
      rw [decide_eq_false (fun h => h3 h.2)]
      clear h2 h3
      go_enter Try.func20, Try.ntmps20
      go_wp2
      go_ret
      exact ⟨rfl, rfl⟩
  · have d2 : ¬ (2147483648 : Int) ≤ (a : Int) := by omega
    rw [decide_eq_false (fun h => h2 h.1)]
    clear h2
    go_enter Try.func20, Try.ntmps20
    go_wp2
    go_ret
    exact ⟨rfl, rfl⟩
end Go.Proofs.L
