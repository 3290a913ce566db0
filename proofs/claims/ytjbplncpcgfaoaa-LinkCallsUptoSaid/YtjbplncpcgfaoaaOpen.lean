/- Proved here: lemmas and contracts (Open) for the laws of this seat, for all values of the stated types; no further condition. -/
import Derived.Test.YtjbplncpcgfaoaaClose
import Derived.ChangeSlices
import Derived.SliceStrings
open Go Go.RowKit Go.ChangeShapes Go.WideShapes
namespace Go.Proofs.L
section
variable {H : Type} {enc : TypeId × Value → H} {P : Program} {W : World} {base : Nat}
theorem addr_none (b o i : Nat) : (⟨b, o, none⟩ : Addr).add i = ⟨b, o + i, none⟩ := by unfold Addr.add; split <;> simp_all
theorem no_spot {w : World} {a : Addr} {v : Value} (h : w.cell? a = some v) : a.spot = none := by
  unfold World.cell? at h
  split at h
  · split at h
    · cases h
    · rename_i hs
      cases hsp : a.spot with
      | none => rfl
      | some x => rw [hsp] at hs; simp at hs
  · cases h
theorem wf_u32 {i : Int} (h : (Lit.int .u32 i).wf = true) : 0 ≤ i ∧ i < 4294967296 := by
  simp [Lit.wf, IntKind.min, IntKind.max, IntKind.signed, IntKind.bits] at h
  omega
theorem wf_u8 {i : Int} (h : (Lit.int .u8 i).wf = true) : 0 ≤ i ∧ i < 256 := by
  simp [Lit.wf, IntKind.min, IntKind.max, IntKind.signed, IntKind.bits] at h
  omega
theorem wf_i64 {i : Int} (h : (Lit.int .i64 i).wf = true) : -9223372036854775808 ≤ i ∧ i < 9223372036854775808 := by
  simp [Lit.wf, IntKind.min, IntKind.max, IntKind.signed, IntKind.bits] at h
  omega
theorem op_u32 {t : TypeId} {v : Value} {d : DataW H} {ps : List MemPlace} (ht : P.underlying t = some (.int .u32)) (hv : Value.okWide P W .any base t v) (h : DataW.Trod enc P W 0 (fun _ => true) true t v d ps) : ∃ n : Nat, v = .int .u32 (n : Int) ∧ n < 4294967296 := by
  obtain ⟨i, rfl, -, -, a3⟩ := open_int ht hv h
  have hb := wf_u32 a3
  obtain ⟨n, rfl⟩ := Int.eq_ofNat_of_zero_le hb.1
  exact ⟨n, rfl, by omega⟩
theorem op_u8 {t : TypeId} {v : Value} {d : DataW H} {ps : List MemPlace} (ht : P.underlying t = some (.int .u8)) (hv : Value.okWide P W .any base t v) (h : DataW.Trod enc P W 0 (fun _ => true) true t v d ps) : ∃ n : Nat, v = .int .u8 (n : Int) ∧ n < 256 := by
  obtain ⟨i, rfl, -, -, a3⟩ := open_int ht hv h
  have hb := wf_u8 a3
  obtain ⟨n, rfl⟩ := Int.eq_ofNat_of_zero_le hb.1
  exact ⟨n, rfl, by omega⟩
theorem op_i64 {t : TypeId} {v : Value} {d : DataW H} {ps : List MemPlace} (ht : P.underlying t = some (.int .i64)) (hv : Value.okWide P W .any base t v) (h : DataW.Trod enc P W 0 (fun _ => true) true t v d ps) : ∃ i : Int, v = .int .i64 i ∧ -9223372036854775808 ≤ i ∧ i < 9223372036854775808 := by
  obtain ⟨i, rfl, -, -, a3⟩ := open_int ht hv h
  exact ⟨i, rfl, wf_i64 a3⟩
/-- a slice of integers, opened -/
theorem op_nums {t e : TypeId} {k : IntKind} {v : Value} {d : DataW H} {ps : List MemPlace} (ht : P.underlying t = some (.slice e)) (he : P.underlying e = some (.int k)) (hc : P.cellsOf e = 1)
    (hv : Value.okWide P W .any base t v) (h : DataW.Trod enc P W 0 (fun _ => true) true t v d ps) :
    ∃ (p : Option Addr) (b o len cap : Nat) (S : Nat → Int), v = .slice p len cap ∧ (0 < len → p = some ⟨b, o, none⟩) ∧ (∀ j, j < len → W.cell? ⟨b, o + j, none⟩ = some (.int k (S j))) ∧ (∀ j, j < len → (Lit.int k (S j)).wf = true) := by
  obtain ⟨p, len, cap, rfl⟩ := okWide_slice ht hv
  obtain ⟨fuel, hf⟩ := h
  rcases open_ints ht he hc hf with ⟨hcs, hx⟩ | ⟨a, len', cap', ss, hcs, _, hl, hm, hz, hx, hcell, hsz⟩
  · simp only [Value.cells] at hcs
    injection hcs with hcs _
    injection hcs with e1 e2 e3
    subst e2
    exact ⟨p, 0, 0, 0, cap, fun _ => 0, rfl, fun h => by omega, fun k hk => by omega, fun k hk => by omega⟩
  · simp only [Value.cells] at hcs
    injection hcs with hcs _
    injection hcs with e1 e2 e3
    subst e1 e2 e3
    have hss : len ≤ ss.length := by rw [hz]; simp; omega
    by_cases h0 : 0 < len
    · have hs := no_spot (hcell 0 (by omega))
      obtain ⟨ab, ao, asp⟩ := a
      have : asp = none := by
        unfold Addr.add at hs
        cases asp with
        | none => rfl
        | some x => revert hs; simp
      subst this
      refine ⟨_, ab, ao, len, cap, fun k => ss.getD k 0, rfl, fun _ => rfl, fun k hk => ?_, fun k hk => ?_⟩
      · have := hcell k (by omega)
        rwa [addr_none] at this
      · have hk' : k < ss.length := by omega
        refine hsz _ ?_
        simp [List.getD_eq_getElem?_getD, List.getElem?_eq_getElem hk']
    · exact ⟨_, 0, 0, len, cap, fun _ => 0, rfl, fun h => absurd h h0, fun k hk => by omega, fun k hk => by omega⟩
/-- a slice of 32-bit numbers -/
theorem op_u32s {t e : TypeId} {v : Value} {d : DataW H} {ps : List MemPlace} (ht : P.underlying t = some (.slice e)) (he : P.underlying e = some (.int .u32)) (hc : P.cellsOf e = 1)
    (hv : Value.okWide P W .any base t v) (h : DataW.Trod enc P W 0 (fun _ => true) true t v d ps) :
    ∃ (p : Option Addr) (b o len cap : Nat) (S : Nat → Nat), v = .slice p len cap ∧ (0 < len → p = some ⟨b, o, none⟩) ∧ (∀ j, j < len → W.cell? ⟨b, o + j, none⟩ = some (.int .u32 (S j : Int))) ∧ (∀ j, S j < 4294967296) := by
  obtain ⟨p, b, o, len, cap, S, rfl, hp, hcell, hw⟩ := op_nums ht he hc hv h
  refine ⟨p, b, o, len, cap, fun j => if j < len then (S j).toNat else 0, rfl, hp, fun j hj => ?_, fun j => ?_⟩
  · have := wf_u32 (hw j hj)
    rw [hcell j hj]; dsimp only; rw [if_pos hj, Int.toNat_of_nonneg this.1]
  · dsimp only
    split
    · rename_i hj
      have := wf_u32 (hw j hj); omega
    · decide
end
end Go.Proofs.L
