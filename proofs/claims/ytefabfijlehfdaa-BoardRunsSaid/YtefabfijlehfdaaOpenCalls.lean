/- Proved here: lemmas and contracts (OpenCalls) for the laws of this seat, for all values of the stated types; no further condition. -/
import Derived.Test.YtefabfijlehfdaaBothFeed
import Derived.Deep.Slices
import Derived.Deep.Fields
import Derived.ChangeSame
import Derived.SizedLaws
import Derived.ChangeArms
import Derived.OpenShut
open Go Go.RowKit Go.Lib Go.ChangeShapes Go.WideShapes Go.Deep
namespace Go.Proofs.L
theorem add_none (b o i : Nat) : (⟨b, o, none⟩ : Addr).add i = ⟨b, o + i, none⟩ := by unfold Addr.add; split <;> simp_all
theorem weights_all {H : Type} {P : Program} {e : TypeId} : ∀ {l : List (DataW H)} {d : DataW H}, d ∈ l → ∀ n ∈ d.weights P e, n ∈ DataW.weightsAll P e l
  | x :: l, d, hd, n, hn => by
    simp only [DataW.weightsAll, List.mem_append]
    rcases List.mem_cons.1 hd with rfl | hd
    · exact .inl hn
    · exact .inr (weights_all hd n hn)
theorem spot_none {w : World} {a : Addr} {v : Value} (h : w.cell? a = some v) : a.spot = none := by
  unfold World.cell? at h
  split at h
  · split at h
    · cases h
    · rename_i hs
      cases hsp : a.spot with
      | none => rfl
      | some x => rw [hsp] at hs; simp at hs
  · cases h
theorem len3 {α : Type} {l : List α} (h : l.length = 3) : ∃ a b c, l = [a, b, c] := by
  rcases l with _ | ⟨a, _ | ⟨b, _ | ⟨c, _ | ⟨d, l⟩⟩⟩⟩
  · simp at h
  · simp at h
  · simp at h
  · exact ⟨a, b, c, rfl⟩
  · simp at h
/-- the calls of the law, opened -/
theorem open_calls {H : Type} {enc : TypeId × Value → H} {W : World} {base : Nat} {v : Value} {d : DataW H} {ps : List MemPlace}
    (hv : Value.okWide Try.prog W .any base 36 v) (h : DataW.Trod enc Try.prog W 0 (fun _ => true) true 36 v d ps) (hz : ∀ n ∈ d.weights Try.prog 36, n ≤ reachBytes) :
    ∃ p sb so len cap, v = .slice p len cap ∧ (0 < len → p = some ⟨sb, so, none⟩) ∧ ∀ k, k < len → ∃ (kd wh : Int) (t : ByteArray), t.size ≤ 140737488355328 ∧
      W.cell? ⟨sb, so + k * 3, none⟩ = some (.int .i64 kd) ∧ W.cell? ⟨sb, so + k * 3 + 1, none⟩ = some (.int .i64 wh) ∧ W.cell? ⟨sb, so + k * 3 + 2, none⟩ = some (.string t) := by
  obtain ⟨p, len, cap, rfl⟩ := okWide_slice Try.underlying36 hv
  obtain ⟨fuel, hf⟩ := h
  rcases open_slice Try.underlying36 hf with ⟨hcs, hx⟩ | ⟨a, len', cap', m, n, D, Pl, hcs, hb, hl, hm, hmm, hx, hi⟩
  · simp only [Value.cells] at hcs
    injection hcs with hcs _
    injection hcs with e1 e2 e3
    subst e2
    exact ⟨p, 0, 0, 0, cap, rfl, fun h => by omega, fun k hk => by omega⟩
  · simp only [Value.cells] at hcs
    injection hcs with hcs _
    injection hcs with e1 e2 e3
    subst e1 e2 e3
    have hC : Try.prog.cellsOf 43 = 3 := by kernel_rfl
    rw [hC] at hi
    simp only [Prod.mk.injEq] at hx
    have key : ∀ k, k < len → ∃ (kd wh : Int) (t : ByteArray), t.size ≤ 140737488355328 ∧ W.cell? ((a.add (k * 3)).add 0) = some (.int .i64 kd) ∧ W.cell? ((a.add (k * 3)).add 1) = some (.int .i64 wh) ∧ W.cell? ((a.add (k * 3)).add 2) = some (.string t) := by
      intro k hk
      obtain ⟨cs', hc, ht'⟩ := hi k (by rw [hmm]; simp; omega)
      obtain ⟨_, hcl, hat⟩ := World.cells?_some hc
      obtain ⟨ys, n', hn', hy, hlen, hyl, hfs⟩ := DataW.trod_struct Try.underlying43 ht'
      have h0 := hfs 0 _ rfl
      have h1 := hfs 1 _ rfl
      have h2 := hfs 2 _ rfl
      have c3 : Try.prog.cellsOf 3 = 1 := by kernel_rfl
      have c9 : Try.prog.cellsOf 9 = 1 := by kernel_rfl
      obtain ⟨x0, x1, x2, rfl⟩ : ∃ x0 x1 x2, cs' = [x0, x1, x2] := len3 hcl
      obtain ⟨y0, y1, y2, rfl⟩ : ∃ y0 y1 y2, ys = [y0, y1, y2] := len3 hyl
      simp [c3, c9] at h0
      obtain ⟨z0, hz0, -, -⟩ := DataW.trod_int Try.underlying3 h0
      obtain ⟨z1, hz1, -, -⟩ := DataW.trod_int Try.underlying3 h1
      obtain ⟨t, ht, hyt, -⟩ := DataW.trod_string Try.underlying9 h2
      have a0 := hat 0 (by decide)
      have a1 := hat 1 (by decide)
      have a2 := hat 2 (by decide)
      injection hz0 with hz0 _
      injection hz1 with hz1 _
      injection ht with ht _
      subst hz0 hz1 ht
      refine ⟨z0, z1, t, ?_, a0, a1, a2⟩
      have hD : D k = .agg [y0.1, y1.1, y2.1] := by
        simp only [Prod.mk.injEq] at hy
        simpa using hy.1
      have hw : t.data.toList.length ∈ (D k).weights Try.prog 43 := by
        rw [hD, hyt]
        unfold DataW.weights
        rw [Try.underlying43]
        simp [DataW.weightsEach, DataW.weights]
      have hle : t.data.toList.length ≤ reachBytes := by
        refine hz _ ?_
        rw [hx.1]
        unfold DataW.weights
        rw [Try.underlying36]
        simp only [List.mem_cons, List.mem_append]
        exact .inr (.inl (weights_all (d := D k) (List.mem_map.2 ⟨k, by simpa using hk, rfl⟩) _ hw))
      have : t.size ≤ reachBytes := by simpa using hle
      unfold reachBytes at this
      omega
    by_cases h0 : 0 < len
    · obtain ⟨_, _, _, _, q, _, _⟩ := key 0 h0
      have hs := spot_none q
      obtain ⟨ab, ao, asp⟩ := a
      have : asp = none := by
        unfold Addr.add at hs
        cases asp with
        | none => rfl
        | some x => revert hs; simp
      subst this
      refine ⟨_, ab, ao, len, cap, rfl, fun _ => rfl, fun k hk => ?_⟩
      have := key k hk
      simpa only [add_none, Nat.add_zero] using this
    · exact ⟨_, 0, 0, len, cap, rfl, fun h => absurd h h0, fun k hk => by omega⟩
end Go.Proofs.L
