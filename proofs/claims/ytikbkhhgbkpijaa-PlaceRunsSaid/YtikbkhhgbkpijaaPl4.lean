/- Proved here: lemmas and contracts (Pl4) for the laws of this seat, for all values of the stated types; no further condition. -/
import Derived.Test.YtikbkhhgbkpijaaPl2b
import Derived.Test.YtikbkhhgbkpijaaFlat
import Derived.Test.YtikbkhhgbkpijaaClose
import Derived.Deep.Slices
import Derived.Deep.Fields
import Derived.ChangeSame
import Derived.SizedLaws
import Derived.ChangeArms
import Derived.OpenShut
open Go Go.RowKit Go.Lib Go.ChangeShapes Go.WideShapes Go.Deep
namespace Go.Proofs.L
/-! the arguments of PlaceLoads: segments, a payload -/
theorem weights_all {H : Type} {P : Program} {e : TypeId} : ∀ {l : List (DataW H)} {d : DataW H}, d ∈ l → ∀ n ∈ d.weights P e, n ∈ DataW.weightsAll P e l
  | x :: l, d, hd, n, hn => by
    simp only [DataW.weightsAll, List.mem_append]
    rcases List.mem_cons.1 hd with rfl | hd
    · exact .inl hn
    · exact .inr (weights_all hd n hn)
theorem spot_none {w : World} {a : Addr} {v : Value} (h : w.cell? a = some v) : a.spot = none := by
  unfold World.cell? at h
  split at h
  · split at h
    · cases h
    · rename_i hs
      cases hsp : a.spot with
      | none => rfl
      | some x => rw [hsp] at hs; simp at hs
  · cases h
theorem len4 {α : Type} {l : List α} (h : l.length = 4) : ∃ a b c d, l = [a, b, c, d] := by
  rcases l with _ | ⟨a, _ | ⟨b, _ | ⟨c, _ | ⟨d, _ | ⟨e, l⟩⟩⟩⟩⟩
  · simp at h
  · simp at h
  · simp at h
  · simp at h
  · exact ⟨a, b, c, d, rfl⟩
  · simp at h
theorem c5 : Try.prog.cellsOf 5 = 1 := by kernel_rfl
theorem b5 : Try.prog.bytesOf 5 = 1 := by kernel_rfl
theorem c60 : Try.prog.cellsOf 60 = 4 := by kernel_rfl
theorem flat58 : (flat Try.prog 10 58).map (fun l => (l.length, l[33]?)) = some (36, some 22) := by kernel_rfl
theorem cells58 : Try.prog.cellsOf 58 = 36 := by kernel_rfl
theorem u8_nat {z : Int} (h : (Lit.int .u8 z).wf = true) : ∃ n : Nat, z = (n : Int) ∧ n < 256 := by
  simp [Lit.wf, IntKind.min, IntKind.max, IntKind.signed, IntKind.bits] at h
  obtain ⟨m, rfl⟩ := Int.eq_ofNat_of_zero_le (show 0 ≤ z by omega)
  exact ⟨m, rfl, by omega⟩
section
variable {H : Type} {enc : TypeId × Value → H} {W : World} {base : Nat} {v : Value} {d : DataW H} {ps : List MemPlace}
/-- bytes at a cell -/
theorem open_bytes {fuel : Nat} {u : Value} {x : DataW H × List MemPlace} (h : DataW.trod enc Try.prog W 0 (fun _ => true) true fuel 35 [u] = some x) (hz : ∀ n ∈ x.1.weights Try.prog 35, n ≤ reachBytes) :
    ∃ (ptr : Option Addr) (bb bo len cap : Nat) (g : Nat → Nat), u = .slice ptr len cap ∧ (0 < len → ptr = some ⟨bb, bo, none⟩) ∧ (∀ i, i < len → W.cell? ⟨bb, bo + i, none⟩ = some (.int .u8 (g i : Int))) ∧ (∀ i, g i < 256) ∧ len ≤ 140737488355328 := by
  rcases open_ints Try.underlying35 Try.underlying5 c5 h with ⟨hcs, hx⟩ | ⟨a, len, cap, zs, hcs, _, hl, hm, hzl, hx, hcell, hwf⟩
  · injection hcs with hcs _
    subst hcs
    exact ⟨none, 0, 0, 0, 0, fun _ => 0, rfl, fun h => absurd h (Nat.lt_irrefl 0), fun i hi => absurd hi (Nat.not_lt_zero i), fun _ => Nat.zero_lt_succ _, Nat.zero_le _⟩
  · injection hcs with hcs _
    subst hcs
    have hlz : len ≤ zs.length := by rw [hzl]; simp; omega
    have hlen : len ≤ 140737488355328 := by
      have h1 : zs.length ∈ x.1.weights Try.prog 35 := by
        rw [hx]
        unfold DataW.weights
        rw [Try.underlying35]
        simp only [List.mem_cons]
        left
        rw [b5]
        simp [lits]
        omega
      have h2 := hz _ h1
      unfold reachBytes at h2
      omega
    have hg : ∀ i, ∃ n : Nat, n < 256 ∧ (i < len → zs.getD i 0 = (n : Int)) := fun i => by
      by_cases hi : i < len
      · obtain ⟨n, h1, h2⟩ := u8_nat (hwf (zs.getD i 0) (by simp [List.getD_eq_getElem?_getD, List.getElem?_eq_getElem (show i < zs.length by omega)]))
        exact ⟨n, h2, fun _ => h1⟩
      · exact ⟨0, by decide, fun h => absurd h hi⟩
    obtain ⟨g, hg2⟩ := Classical.axiomOfChoice hg
    by_cases h0 : 0 < len
    · have hs := no_spot (hcell 0 (by omega))
      obtain ⟨ab, ao, asp⟩ := a
      have : asp = none := by
        unfold Addr.add at hs
        cases asp with
        | none => rfl
        | some x => revert hs; simp
      subst this
      refine ⟨_, ab, ao, len, cap, g, rfl, fun _ => rfl, fun i hi => ?_, fun i => (hg2 i).1, hlen⟩
      have := hcell i (by omega)
      rw [addr_add] at this
      rw [← (hg2 i).2 hi]
      exact this
    · exact ⟨_, 0, 0, len, cap, g, rfl, fun h => absurd h h0, fun i hi => absurd hi (by omega), fun i => (hg2 i).1, hlen⟩
/-- the segments -/
theorem open_segs (hv : Value.okWide Try.prog W .any base 54 v) (h : DataW.Trod enc Try.prog W 0 (fun _ => true) true 54 v d ps) (hz : ∀ n ∈ d.weights Try.prog 54, n ≤ reachBytes) :
    ∃ (p : Option Addr) (b o n c : Nat) (S : List Sg), v = .slice p n c ∧ SgsAt W b o S ∧ S.length = n ∧ (0 < n → p = some ⟨b, o, none⟩) ∧ (∀ s ∈ S, s.len ≤ 140737488355328) := by
  obtain ⟨p, len, cap, rfl⟩ := okWide_slice Try.underlying54 hv
  obtain ⟨fuel, hf⟩ := h
  rcases open_slice Try.underlying54 hf with ⟨hcs, hx⟩ | ⟨a, len', cap', m, n, D, Pl, hcs, hb, hl, hm, hmm, hx, hi⟩
  · simp only [Value.cells] at hcs
    injection hcs with hcs _
    injection hcs with e1 e2 e3
    subst e2
    exact ⟨p, 0, 0, 0, cap, [], rfl, fun j s hj => by simp at hj, rfl, fun h => by omega, fun s hs => by simp at hs⟩
  · simp only [Value.cells] at hcs
    injection hcs with hcs _
    injection hcs with e1 e2 e3
    subst e1 e2 e3
    rw [c60] at hi
    simp only [Prod.mk.injEq] at hx
    have key : ∀ k, ∃ s : Sg, k < len → (∀ i u, (SgC s)[i]? = some u → W.cell? ((a.add (k * 4)).add i) = some u) ∧ SgOk W s ∧ s.len ≤ 140737488355328 := by
      intro k
      by_cases hk : k < len
      · obtain ⟨cs', hc, ht'⟩ := hi k (by rw [hmm]; simp; omega)
        obtain ⟨_, hcl, hat⟩ := World.cells?_some hc
        obtain ⟨ys, n', hn', hy, hlen, hyl, hfs⟩ := DataW.trod_struct Try.underlying60 ht'
        have h0 := hfs 0 _ rfl
        have h1 := hfs 1 _ rfl
        have h2 := hfs 2 _ rfl
        have h3 := hfs 3 _ rfl
        have c3 : Try.prog.cellsOf 3 = 1 := by kernel_rfl
        have c22 : Try.prog.cellsOf 22 = 1 := by kernel_rfl
        have c35 : Try.prog.cellsOf 35 = 1 := by kernel_rfl
        obtain ⟨x0, x1, x2, x3, rfl⟩ : ∃ x0 x1 x2 x3, cs' = [x0, x1, x2, x3] := len4 hcl
        obtain ⟨y0, y1, y2, y3, rfl⟩ : ∃ y0 y1 y2 y3, ys = [y0, y1, y2, y3] := len4 hyl
        simp [c3, c22, c35] at h0 h1 h2 h3
        have a0 := hat 0 (by decide)
        have a1 := hat 1 (by decide)
        have a2 := hat 2 (by decide)
        have a3 := hat 3 (by decide)
        obtain ⟨z0, rfl, l0⟩ := leaf_u32 Try.underlying22 h0
        obtain ⟨z2, rfl, l2⟩ := leaf_u32 Try.underlying22 h2
        obtain ⟨z3, rfl, -⟩ := leaf_i64 Try.underlying3 h3
        have hD : D k = .agg [y0.1, y1.1, y2.1, y3.1] := by
          simp only [Prod.mk.injEq] at hy
          simpa using hy.1
        obtain ⟨ptr, bb, bo, sl, sc, g, rfl, q1, q2, q3, q4⟩ := open_bytes h1 (fun n hn => by
          have hw : n ∈ (D k).weights Try.prog 60 := by
            rw [hD]
            unfold DataW.weights
            rw [Try.underlying60]
            simp [DataW.weightsEach, hn]
          refine hz _ ?_
          rw [hx.1]
          unfold DataW.weights
          rw [Try.underlying54]
          simp only [List.mem_cons, List.mem_append]
          exact .inr (.inl (weights_all (d := D k) (List.mem_map.2 ⟨k, by simpa using hk, rfl⟩) _ hw)))
        refine ⟨⟨z0, z2, z3, ptr, bb, bo, sl, sc, g⟩, fun _ => ⟨fun i u hu => ?_, ⟨l0, l2, q1, q2, q3⟩, q4⟩⟩
        match i, hu with
        | 0, hu => obtain rfl := Option.some.inj hu; exact a0
        | 1, hu => obtain rfl := Option.some.inj hu; exact a1
        | 2, hu => obtain rfl := Option.some.inj hu; exact a2
        | 3, hu => obtain rfl := Option.some.inj hu; exact a3
        | i + 4, hu => simp [SgC] at hu
      · exact ⟨⟨0, 0, 0, none, 0, 0, 0, 0, fun _ => 0⟩, fun h => absurd h hk⟩
    obtain ⟨f, hf2⟩ := Classical.axiomOfChoice key
    by_cases h0 : 0 < len
    · have q := (hf2 0 h0).1 0 _ rfl
      have hs := spot_none q
      obtain ⟨ab, ao, asp⟩ := a
      have : asp = none := by
        unfold Addr.add at hs
        cases asp with
        | none => rfl
        | some x => revert hs; simp
      subst this
      refine ⟨_, ab, ao, len, cap, (List.range len).map f, rfl, fun j s hj => ?_, by simp, fun _ => rfl, fun s hs => ?_⟩
      · rw [List.getElem?_map] at hj
        by_cases hjl : j < len
        · rw [List.getElem?_range hjl] at hj
          obtain rfl := Option.some.inj hj
          have := hf2 j hjl
          refine ⟨fun i u hu => ?_, this.2.1⟩
          have h1 := this.1 i u hu
          rw [addr_add, addr_add] at h1
          exact h1
        · rw [List.getElem?_eq_none (by simp; omega)] at hj; cases hj
      · obtain ⟨j, hj, rfl⟩ := List.mem_map.1 hs
        exact (hf2 j (List.mem_range.1 hj)).2.2
    · exact ⟨_, 0, 0, len, cap, [], rfl, fun j s hj => by simp at hj, by simp; omega, fun h => absurd h h0, fun s hs => by simp at hs⟩
/-- the payload -/
theorem open_pay (hv : Value.okWide Try.prog W .any base 58 v) (h : DataW.Trod enc Try.prog W 0 (fun _ => true) true 58 v d ps) :
    ∃ (cs : Array Value) (bias : Nat), v = .agg cs ∧ cs[33]? = some (.int .u32 (bias : Int)) ∧ bias < 4294967296 := by
  obtain ⟨l, hl, h2⟩ := Option.map_eq_some_iff.1 flat58
  simp only [Prod.mk.injEq] at h2
  obtain ⟨cs, rfl, hs, hv⟩ := open_aggW Try.underlying58 hl (by rw [h2.1]; exact cells58) hv h
  obtain ⟨_, _, u, hu, ht⟩ := hv 33 22 h2.2
  obtain ⟨n, rfl, hn⟩ := leaf_u32 Try.underlying22 ht
  exact ⟨cs, n, rfl, by simpa using hu, hn⟩
end
end Go.Proofs.L
