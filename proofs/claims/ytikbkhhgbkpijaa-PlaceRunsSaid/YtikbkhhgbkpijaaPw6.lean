/- Proved here: lemmas and contracts (Pw6) for the laws of this seat, for all values of the stated types; no further condition. -/
import Derived.Test.YtikbkhhgbkpijaaPl4
import Derived.Test.YtikbkhhgbkpijaaPw5
open Go Go.RowKit Go.Lib Go.ChangeShapes Go.WideShapes Go.Deep
namespace Go.Proofs.L
/-! the arguments of PlaceRuns: calls -/
theorem len5' {α : Type} {l : List α} (h : l.length = 5) : ∃ a b c d e, l = [a, b, c, d, e] := by
  rcases l with _ | ⟨a, _ | ⟨b, _ | ⟨c, _ | ⟨d, _ | ⟨e, _ | ⟨f, l⟩⟩⟩⟩⟩⟩
  · simp at h
  · simp at h
  · simp at h
  · simp at h
  · simp at h
  · exact ⟨a, b, c, d, e, rfl⟩
  · simp at h
theorem c37 : Try.prog.cellsOf 37 = 5 := by kernel_rfl
structure Ca where
  (kd : Int) (ad : Nat) (n : Int) (x : Nat) (ptr : Option Addr) (bb bo len cap : Nat) (g : Nat → Nat)
def CaC (s : Ca) : List Value := [.int .i64 s.kd, .int .u32 (s.ad : Int), .int .i64 s.n, .int .u32 (s.x : Int), .slice s.ptr s.len s.cap]
structure CaOk (w : World) (s : Ca) : Prop where
  ad : s.ad < 4294967296
  x : s.x < 4294967296
  ptr : 0 < s.len → s.ptr = some ⟨s.bb, s.bo, none⟩
  cells : ∀ i, i < s.len → w.cell? ⟨s.bb, s.bo + i, none⟩ = some (.int .u8 (s.g i : Int))
  byt : ∀ i, s.g i < 256
def CasAt (w : World) (b o : Nat) (L : List Ca) : Prop := ∀ (j : Nat) (s : Ca), L[j]? = some s → (∀ i u, (CaC s)[i]? = some u → w.cell? ⟨b, o + j * 5 + i, none⟩ = some u) ∧ CaOk w s
theorem CasAt.keep {w w' : World} {b o : Nat} {L : List Ca} (h : CasAt w b o L) (hc : Chg [] w w') : CasAt w' b o L := fun j s hj => by
  obtain ⟨h1, h2⟩ := h j s hj
  exact ⟨fun i u hu => cell_keep (h1 i u hu) hc (by simp), ⟨h2.ad, h2.x, h2.ptr, fun i hi => cell_keep (h2.cells i hi) hc (by simp), h2.byt⟩⟩
section
variable {H : Type} {enc : TypeId × Value → H} {W : World} {base : Nat} {v : Value} {d : DataW H} {ps : List MemPlace}
/-- the calls -/
theorem open_calls (hv : Value.okWide Try.prog W .any base 34 v) (h : DataW.Trod enc Try.prog W 0 (fun _ => true) true 34 v d ps) (hz : ∀ n ∈ d.weights Try.prog 34, n ≤ reachBytes) :
    ∃ (p : Option Addr) (b o n c : Nat) (S : List Ca), v = .slice p n c ∧ CasAt W b o S ∧ S.length = n ∧ (0 < n → p = some ⟨b, o, none⟩) ∧ (∀ s ∈ S, s.len ≤ 140737488355328) := by
  obtain ⟨p, len, cap, rfl⟩ := okWide_slice Try.underlying34 hv
  obtain ⟨fuel, hf⟩ := h
  rcases open_slice Try.underlying34 hf with ⟨hcs, hx⟩ | ⟨a, len', cap', m, n, D, Pl, hcs, hb, hl, hm, hmm, hx, hi⟩
  · simp only [Value.cells] at hcs
    injection hcs with hcs _
    injection hcs with e1 e2 e3
    subst e2
    exact ⟨p, 0, 0, 0, cap, [], rfl, fun j s hj => by simp at hj, rfl, fun h => by omega, fun s hs => by simp at hs⟩
  · simp only [Value.cells] at hcs
    injection hcs with hcs _
    injection hcs with e1 e2 e3
    subst e1 e2 e3
    rw [c37] at hi
    simp only [Prod.mk.injEq] at hx
    have key : ∀ k, ∃ s : Ca, k < len → (∀ i u, (CaC s)[i]? = some u → W.cell? ((a.add (k * 5)).add i) = some u) ∧ CaOk W s ∧ s.len ≤ 140737488355328 := by
      intro k
      by_cases hk : k < len
      · obtain ⟨cs', hc, ht'⟩ := hi k (by rw [hmm]; simp; omega)
        obtain ⟨_, hcl, hat⟩ := World.cells?_some hc
        obtain ⟨ys, n', hn', hy, hlen, hyl, hfs⟩ := DataW.trod_struct Try.underlying37 ht'
        have h0 := hfs 0 _ rfl
        have h1 := hfs 1 _ rfl
        have h2 := hfs 2 _ rfl
        have h3 := hfs 3 _ rfl
        have h4 := hfs 4 _ rfl
        have c3 : Try.prog.cellsOf 3 = 1 := by kernel_rfl
        have c22 : Try.prog.cellsOf 22 = 1 := by kernel_rfl
        have c35 : Try.prog.cellsOf 35 = 1 := by kernel_rfl
        obtain ⟨x0, x1, x2, x3, x4, rfl⟩ : ∃ x0 x1 x2 x3 x4, cs' = [x0, x1, x2, x3, x4] := len5' hcl
        obtain ⟨y0, y1, y2, y3, y4, rfl⟩ : ∃ y0 y1 y2 y3 y4, ys = [y0, y1, y2, y3, y4] := len5' hyl
        simp [c3, c22, c35] at h0 h1 h2 h3 h4
        have a0 := hat 0 (by decide)
        have a1 := hat 1 (by decide)
        have a2 := hat 2 (by decide)
        have a3 := hat 3 (by decide)
        have a4 := hat 4 (by decide)
        obtain ⟨z0, rfl, l0⟩ := leaf_i64 Try.underlying3 h0
        obtain ⟨z1, rfl, l1⟩ := leaf_u32 Try.underlying22 h1
        obtain ⟨z2, rfl, l2⟩ := leaf_i64 Try.underlying3 h2
        obtain ⟨z3, rfl, l3⟩ := leaf_u32 Try.underlying22 h3
        have hD : D k = .agg [y0.1, y1.1, y2.1, y3.1, y4.1] := by
          simp only [Prod.mk.injEq] at hy
          simpa using hy.1
        obtain ⟨ptr, bb, bo, sl, sc, g, rfl, q1, q2, q3, q4⟩ := open_bytes h4 (fun n hn => by
          have hw : n ∈ (D k).weights Try.prog 37 := by
            rw [hD]
            unfold DataW.weights
            rw [Try.underlying37]
            simp [DataW.weightsEach, hn]
          refine hz _ ?_
          rw [hx.1]
          unfold DataW.weights
          rw [Try.underlying34]
          simp only [List.mem_cons, List.mem_append]
          exact .inr (.inl (weights_all (d := D k) (List.mem_map.2 ⟨k, by simpa using hk, rfl⟩) _ hw)))
        refine ⟨⟨z0, z1, z2, z3, ptr, bb, bo, sl, sc, g⟩, fun _ => ⟨fun i u hu => ?_, ⟨l1, l3, q1, q2, q3⟩, q4⟩⟩
        match i, hu with
        | 0, hu => obtain rfl := Option.some.inj hu; exact a0
        | 1, hu => obtain rfl := Option.some.inj hu; exact a1
        | 2, hu => obtain rfl := Option.some.inj hu; exact a2
        | 3, hu => obtain rfl := Option.some.inj hu; exact a3
        | 4, hu => obtain rfl := Option.some.inj hu; exact a4
        | i + 5, hu => simp [CaC] at hu
      · exact ⟨⟨0, 0, 0, 0, none, 0, 0, 0, 0, fun _ => 0⟩, fun h => absurd h hk⟩
    obtain ⟨f, hf2⟩ := Classical.axiomOfChoice key
    by_cases h0 : 0 < len
    · have q := (hf2 0 h0).1 0 _ rfl
      have hs := spot_none q
      obtain ⟨ab, ao, asp⟩ := a
      have : asp = none := by
        unfold Addr.add at hs
        cases asp with
        | none => rfl
        | some x => revert hs; simp
      subst this
      refine ⟨_, ab, ao, len, cap, (List.range len).map f, rfl, fun j s hj => ?_, by simp, fun _ => rfl, fun s hs => ?_⟩
      · rw [List.getElem?_map] at hj
        by_cases hjl : j < len
        · rw [List.getElem?_range hjl] at hj
          obtain rfl := Option.some.inj hj
          have := hf2 j hjl
          refine ⟨fun i u hu => ?_, this.2.1⟩
          have h1 := this.1 i u hu
          rw [addr_add, addr_add] at h1
          exact h1
        · rw [List.getElem?_eq_none (by simp; omega)] at hj; cases hj
      · obtain ⟨j, hj, rfl⟩ := List.mem_map.1 hs
        exact (hf2 j (List.mem_range.1 hj)).2.2
    · exact ⟨_, 0, 0, len, cap, [], rfl, fun j s hj => by simp at hj, by simp; omega, fun h => absurd h h0, fun s hs => by simp at hs⟩
end
end Go.Proofs.L
