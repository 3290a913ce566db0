/- Proved here: lemmas and contracts (Lk22) for the laws of this seat, for all values of the stated types; no further condition. -/
import Derived.Test.YtjbplncpcgfaoaaLk10
open Go Go.RowKit Go.Lib Go.ChangeShapes Go.WideShapes Go.Deep
namespace Go.Proofs.L
/-! the laws' objects: no slice is longer than its room -/
section
variable {H : Type} {enc : TypeId × Value → H} {W : World} {v : Value} {d : DataW H} {ps : List MemPlace}
theorem slice_cap {P : Program} {t e : TypeId} {fuel : Nat} {p : Option Addr} {n c : Nat} {x : DataW H × List MemPlace} (ht : P.underlying t = some (.slice e)) (h : DataW.trod enc P W 0 (fun _ => true) true fuel t [.slice p n c] = some x) : n ≤ c := by
  rcases open_slice ht h with ⟨hcs, hx⟩ | ⟨a, len, cap, m, k, D, Pl, hcs, hb2, hl, hm, hmm, hx, hi⟩
  · injection hcs with hcs _
    injection hcs with e1 e2 e3
    omega
  · injection hcs with hcs _
    injection hcs with e1 e2 e3
    omega
set_option maxRecDepth 100000 in
theorem open_caps {p : Option Addr} {b o n c : Nat} {L : List Ob} (h : DataW.Trod enc Try.prog W 0 (fun _ => true) true 22 (.slice p n c) d ps) (hS : ObsAt W b o L) (hn : L.length = n) (hp : 0 < n → p = some ⟨b, o, none⟩) :
    n ≤ c ∧ ∀ s ∈ L, s.nc ≤ s.cc ∧ s.nd ≤ s.cd := by
  obtain ⟨fuel, hf⟩ := h
  refine ⟨slice_cap Try.underlying22 hf, fun s hs => ?_⟩
  obtain ⟨k, hk⟩ := List.mem_iff_getElem?.1 hs
  have hkn : k < n := by have := (List.getElem?_eq_some_iff.1 hk).1; omega
  obtain rfl := hp (by omega)
  rcases open_slice Try.underlying22 hf with ⟨hcs, hx⟩ | ⟨a, len, cap, m, q, D, Pl, hcs, hb2, hl, hm, hmm, hx, hi⟩
  · simp only [Value.cells] at hcs
    injection hcs with hcs _
    injection hcs with e1 e2 e3
    cases e1
  · simp only [Value.cells] at hcs
    injection hcs with hcs _
    injection hcs with e1 e2 e3
    injection e1 with e1
    subst e1 e2 e3
    rw [cells53] at hi
    obtain ⟨cs', hc, ht'⟩ := hi k (by rw [hmm]; simp; omega)
    obtain ⟨_, hcl, hat⟩ := World.cells?_some hc
    obtain ⟨ys, n', hn', hy, hlen, hyl, hfs⟩ := DataW.trod_struct Try.underlying53 ht'
    have h0 := hfs 0 _ rfl
    have h1 := hfs 1 _ rfl
    obtain ⟨hob, -⟩ := hS k s hk
    have g0 := hob 0 _ rfl
    have g1 := hob 1 _ rfl
    have c36 : Try.prog.cellsOf 36 = 1 := by kernel_rfl
    have a0 := hat 0 (by decide)
    have a1 := hat 1 (by decide)
    rw [addr_at, addr_at, g0] at a0
    rw [addr_at, addr_at, g1] at a1
    obtain ⟨y0, hy0⟩ : ∃ y, ys[0]? = some y := ⟨_, List.getElem?_eq_getElem (by rw [hyl]; decide)⟩
    obtain ⟨y1, hy1⟩ : ∃ y, ys[1]? = some y := ⟨_, List.getElem?_eq_getElem (by rw [hyl]; decide)⟩
    match cs', hcl with
    | [u0, u1, u2, u3, u4], _ =>
      have e0 : Value.slice s.pc s.nc s.cc = u0 := Option.some.inj a0
      have e1 : Value.slice s.pd s.nd s.cd = u1 := Option.some.inj a1
      subst e0 e1
      rw [hy0] at h0
      rw [hy1] at h1
      have h0' : DataW.trod enc Try.prog W 0 (fun _ => true) true n' 36 [.slice s.pc s.nc s.cc] = some y0 := h0
      have h1' : DataW.trod enc Try.prog W 0 (fun _ => true) true n' 36 [.slice s.pd s.nd s.cd] = some y1 := h1
      exact ⟨slice_cap Try.underlying36 h0', slice_cap Try.underlying36 h1'⟩
end
end Go.Proofs.L
