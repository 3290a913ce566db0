/- Proved here: lemmas and contracts (OrderAll) for the laws of this seat, for all values of the stated types; no further condition. -/
import Derived.Test.YteikhmabgnpljaaOrderWalk
import Derived.SliceStrings
import Derived.SizedLaws
import Derived.ChangeArms
import Derived.OpenShut
open Go Go.RowKit Go.Lib Go.ChangeShapes Go.WideShapes
namespace Go.Proofs.L
theorem add_none (b o i : Nat) : (⟨b, o, none⟩ : Addr).add i = ⟨b, o + i, none⟩ := by unfold Addr.add; split <;> simp_all
theorem spot_none {w : World} {a : Addr} {v : Value} (h : w.cell? a = some v) : a.spot = none := by
  unfold World.cell? at h
  split at h
  · split at h
    · cases h
    · rename_i hs
      cases hsp : a.spot with
      | none => rfl
      | some x => rw [hsp] at hs; simp at hs
  · cases h
/-- a slice of strings, opened -/
theorem open_strs {H : Type} {enc : TypeId × Value → H} {W : World} {base : Nat} {t e : TypeId} {v : Value} {d : DataW H} {ps : List MemPlace} (ht : Try.prog.underlying t = some (.slice e)) (he : Try.prog.underlying e = some .string) (hc : Try.prog.cellsOf e = 1)
    (hv : Value.okWide Try.prog W .any base t v) (h : DataW.Trod enc Try.prog W 0 (fun _ => true) true t v d ps) :
    ∃ (p : Option Addr) (b o len cap : Nat) (S : Nat → ByteArray), v = .slice p len cap ∧ (0 < len → p = some ⟨b, o, none⟩) ∧ (∀ k, k < len → W.cell? ⟨b, o + k, none⟩ = some (.string (S k))) ∧ (∀ k, k < len → (S k).size ≤ maxLen) := by
  obtain ⟨p, len, cap, rfl⟩ := okWide_slice ht hv
  obtain ⟨fuel, hf⟩ := h
  rcases open_strings ht he hc hf with ⟨hcs, hx⟩ | ⟨a, len', cap', ss, hcs, _, hl, hm, hz, hx, hcell, hsz⟩
  · simp only [Value.cells] at hcs
    injection hcs with hcs _
    injection hcs with e1 e2 e3
    subst e2
    exact ⟨p, 0, 0, 0, cap, fun _ => ⟨#[]⟩, rfl, fun h => by omega, fun k hk => by omega, fun k hk => by omega⟩
  · simp only [Value.cells] at hcs
    injection hcs with hcs _
    injection hcs with e1 e2 e3
    subst e1 e2 e3
    have hss : len ≤ ss.length := by rw [hz]; simp; omega
    by_cases h0 : 0 < len
    · have hs := spot_none (hcell 0 (by omega))
      obtain ⟨ab, ao, asp⟩ := a
      have : asp = none := by
        unfold Addr.add at hs
        cases asp with
        | none => rfl
        | some x => revert hs; simp
      subst this
      refine ⟨_, ab, ao, len, cap, fun k => ss.getD k ByteArray.empty, rfl, fun _ => rfl, fun k hk => ?_, fun k hk => ?_⟩
      · have := hcell k (by omega)
        rwa [add_none] at this
      · have hk' : k < ss.length := by omega
        refine hsz _ ?_
        simp [List.getD_eq_getElem?_getD, List.getElem?_eq_getElem hk']
    · exact ⟨_, 0, 0, len, cap, fun _ => ⟨#[]⟩, rfl, fun h => absurd h h0, fun k hk => by omega, fun k hk => by omega⟩
set_option maxRecDepth 100000 in
theorem order_all (n1 c1 n2 c2 b1 o1 b2 o2 : Nat) (p1 p2 : Option Addr) (S1 S2 : Nat → ByteArray) (w : World) (hp1 : 0 < n1 → p1 = some ⟨b1, o1, none⟩) (hp2 : 0 < n2 → p2 = some ⟨b2, o2, none⟩)
    (hc1 : ∀ k, k < n1 → w.cell? ⟨b1, o1 + k, none⟩ = some (.string (S1 k))) (hc2 : ∀ k, k < n2 → w.cell? ⟨b2, o2 + k, none⟩ = some (.string (S2 k))) (hs1 : ∀ k, k < n1 → (S1 k).size ≤ maxLen) :
    Calls Try.prog 3 #[.slice p1 n1 c1, .slice p2 n2 c2] w fun e w' => e = .returned (.bool true) ∧ Below w.heap.size w w' := by
  by_cases h : n1 ≤ 100 ∧ n2 ≤ 100
  · exact order_walk n1 c1 n2 c2 b1 o1 b2 o2 p1 p2 S1 S2 w h.1 h.2 hp1 hp2 hc1 hc2 hs1
  · clear hc1 hc2 hs1 hp1 hp2
    go_enter Try.func3, Try.ntmps3
    go_wp2_with fail
    refine (fit_ok w).mono ?_
    rintro e w0 ⟨rfl, hB0⟩
    by_cases h1 : n1 ≤ 100
    · have d1 : decide ((n1 : Int) > 100) = false := by simp; omega
      have d3 : decide (100 < (n1 : Int)) = false := by simp; omega
      have d2 : decide ((n2 : Int) > 100) = true := by simp; omega
      have d4 : decide (100 < (n2 : Int)) = true := by simp; omega
      go_wp2
      go_ret
      exact ⟨rfl, hB0⟩
    · have d1 : decide ((n1 : Int) > 100) = true := by simp; omega
      have d3 : decide (100 < (n1 : Int)) = true := by simp; omega
      go_wp2
      go_ret
      exact ⟨rfl, hB0⟩
end Go.Proofs.L
