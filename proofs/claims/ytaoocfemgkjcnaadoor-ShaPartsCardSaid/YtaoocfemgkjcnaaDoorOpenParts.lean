/- Proved here: lemmas and contracts (OpenParts) for the laws of this seat, for all values of the stated types; no further condition. -/
import Derived.Test.YtaoocfemgkjcnaaDoorPartsWalk
import Derived.Test.YtaoocfemgkjcnaaDoorFlat
import Derived.SizedLaws
import Derived.ChangeSame
open Go Go.RowKit Go.Lib Go.ChangeShapes Go.WideShapes Go.Deep
namespace Go.Proofs.L
theorem cap_none {P : Program} {w : World} {r : Reach} {base : Nat} {t e : TypeId} {p : Option Addr} {n c : Nat} (ht : P.underlying t = some (.slice e)) (h : Value.okWide P w r base t (.slice p n c)) : p = none → c = 0 := by
  intro hp
  subst hp
  unfold Value.okWide at h
  rw [ht] at h
  simp only [] at h
  unfold Cell.okWide at h
  rw [ht] at h
  simp only [] at h
  unfold Cell.ok at h
  rw [ht] at h
  match n, c, h with
  | 0, 0, _ => rfl
theorem weights_all {H : Type} {P : Program} {e : TypeId} : ∀ {l : List (DataW H)} {d : DataW H}, d ∈ l → ∀ n ∈ d.weights P e, n ∈ DataW.weightsAll P e l
  | x :: l, d, hd, n, hn => by
    simp only [DataW.weightsAll, List.mem_append]
    rcases List.mem_cons.1 hd with rfl | hd
    · exact .inl hn
    · exact .inr (weights_all hd n hn)
theorem ptOk_mk {W : World} {t : Pt} (h1 : BytesAt W t.b t.o t.L) (h2 : t.L.length = t.k) (h3 : 0 < t.k → t.p = some ⟨t.b, t.o, none⟩) (h4 : t.p = none → t.k = 0 ∧ t.c = 0) (h5 : t.k ≤ 140737488355328) : PtOk W t := And.intro h1 ⟨h2, h3, h4, h5⟩
theorem bytes_nil (W : World) (b o : Nat) : BytesAt W b o [] := fun j c hj => by cases hj
theorem pts_nil (W : World) (b o : Nat) : PtsAt W b o [] := fun j t hj => by cases hj
theorem add_zero (a : Addr) : a.add 0 = a := by
  obtain ⟨b, o, s⟩ := a
  unfold Addr.add
  cases s <;> simp
theorem c22 : Tryd.prog.cellsOf 22 = 1 := by kernel_rfl
theorem c5 : Tryd.prog.cellsOf 5 = 1 := by kernel_rfl
theorem b5 : Tryd.prog.bytesOf 5 = 1 := by kernel_rfl
/-- one part -/
theorem open_part {H : Type} {enc : TypeId × Value → H} {W : World} {fuel : Nat} {u : Value} {x : DataW H × List MemPlace} (h : DataW.trod enc Tryd.prog W 0 (fun _ => true) true fuel 22 [u] = some x) (hz : ∀ n ∈ x.1.weights Tryd.prog 22, n ≤ reachBytes) :
    ∃ t : Pt, u = .slice t.p t.k t.c ∧ PtOk W t := by
  rcases open_ints Tryd.underlying22 Tryd.underlying5 c5 h with ⟨hcs, hx⟩ | ⟨a, len, cap, zs, hcs, _, hl, hm, hzl, hx, hcell, hwf⟩
  · injection hcs with hcs _
    subst hcs
    exact ⟨⟨none, 0, 0, 0, 0, []⟩, rfl, ptOk_mk (bytes_nil _ _ _) rfl (fun h => absurd h (Nat.lt_irrefl 0)) (fun _ => ⟨rfl, rfl⟩) (Nat.zero_le _)⟩
  · injection hcs with hcs _
    subst hcs
    have hlz : len ≤ zs.length := by rw [hzl]; simp; omega
    have hlen : len ≤ 140737488355328 := by
      have h1 : zs.length ∈ x.1.weights Tryd.prog 22 := by
        rw [hx]
        unfold DataW.weights
        rw [Tryd.underlying22]
        simp only [List.mem_cons]
        left
        rw [b5]
        simp [lits]
        omega
      have h2 := hz _ h1
      unfold reachBytes at h2
      omega
    by_cases h0 : 0 < len
    · have hs := no_spot (hcell 0 (by omega))
      obtain ⟨ab, ao, asp⟩ := a
      have : asp = none := by
        unfold Addr.add at hs
        cases asp with
        | none => rfl
        | some x => revert hs; simp
      subst this
      refine ⟨⟨some ⟨ab, ao, none⟩, ab, ao, len, cap, (List.range len).map fun j => (zs.getD j 0).toNat⟩, rfl, ptOk_mk ?_ (by simp) (fun _ => rfl) (fun h => by cases h) hlen⟩
      refine bytes_nums (S := fun j => zs.getD j 0) (fun j hj => ?_) (fun j hj => ?_)
      · have := hcell j (by omega)
        rwa [addr_none] at this
      · refine hwf _ ?_
        simp [List.getD_eq_getElem?_getD, List.getElem?_eq_getElem (show j < zs.length by omega)]
    · obtain rfl : len = 0 := by omega
      exact ⟨⟨some a, 0, 0, 0, cap, []⟩, rfl, ptOk_mk (bytes_nil _ _ _) rfl (fun h => absurd h (Nat.lt_irrefl 0)) (fun h => by cases h) (Nat.zero_le _)⟩
/-- the law's argument -/
theorem open_parts {H : Type} {enc : TypeId × Value → H} {W : World} {base : Nat} {v : Value} {d : DataW H} {ps : List MemPlace}
    (hv : Value.okWide Tryd.prog W .any base 27 v) (h : DataW.Trod enc Tryd.prog W 0 (fun _ => true) true 27 v d ps) (hz : ∀ n ∈ d.weights Tryd.prog 27, n ≤ reachBytes) :
    ∃ (p : Option Addr) (b o n c : Nat) (Ps : List Pt), v = .slice p n c ∧ PtsAt W b o Ps ∧ Ps.length = n ∧ (0 < n → p = some ⟨b, o, none⟩) := by
  obtain ⟨p, len, cap, rfl⟩ := okWide_slice Tryd.underlying27 hv
  obtain ⟨fuel, hf⟩ := h
  rcases open_slice Tryd.underlying27 hf with ⟨hcs, hx⟩ | ⟨a, len', cap', m, n, D, Pl, hcs, hb, hl, hm, hmm, hx, hi⟩
  · simp only [Value.cells] at hcs
    injection hcs with hcs _
    injection hcs with e1 e2 e3
    subst e2
    exact ⟨p, 0, 0, 0, cap, [], rfl, pts_nil _ _ _, rfl, fun h => by omega⟩
  · simp only [Value.cells] at hcs
    injection hcs with hcs _
    injection hcs with e1 e2 e3
    subst e1 e2 e3
    rw [c22] at hi
    simp only [Prod.mk.injEq] at hx
    have key : ∀ k, ∃ t : Pt, k < len → W.cell? (a.add k) = some (.slice t.p t.k t.c) ∧ PtOk W t := by
      intro k
      by_cases hk : k < len
      · obtain ⟨cs', hc, ht'⟩ := hi k (by rw [hmm]; simp; omega)
        obtain ⟨_, hcl, hat⟩ := World.cells?_some hc
        obtain ⟨u, rfl⟩ : ∃ u, cs' = [u] := by
          match cs', hcl with
          | [u], _ => exact ⟨u, rfl⟩
        obtain ⟨t, hu, hok⟩ := open_part ht' (fun y hy => by
          refine hz _ ?_
          rw [hx.1]
          unfold DataW.weights
          rw [Tryd.underlying27]
          simp only [List.mem_cons, List.mem_append]
          exact .inr (.inl (weights_all (d := D k) (List.mem_map.2 ⟨k, by simpa using hk, rfl⟩) _ hy)))
        refine ⟨t, fun _ => ⟨?_, hok⟩⟩
        have := hat 0 (by decide)
        rw [← hu]
        rw [add_zero] at this
        simpa using this
      · exact ⟨⟨none, 0, 0, 0, 0, []⟩, fun h => absurd h hk⟩
    obtain ⟨f, hf2⟩ := Classical.axiomOfChoice key
    by_cases h0 : 0 < len
    · have hs := no_spot (hf2 0 h0).1
      obtain ⟨ab, ao, asp⟩ := a
      have : asp = none := by
        unfold Addr.add at hs
        cases asp with
        | none => rfl
        | some x => revert hs; simp
      subst this
      refine ⟨_, ab, ao, len, cap, (List.range len).map f, rfl, fun j t hj => ?_, by simp, fun _ => rfl⟩
      rw [List.getElem?_map] at hj
      by_cases hjl : j < len
      · rw [List.getElem?_range hjl] at hj
        obtain rfl := Option.some.inj hj
        have := hf2 j hjl
        rwa [addr_none] at this
      · rw [List.getElem?_eq_none (by simp; omega)] at hj
        cases hj
    · obtain rfl : len = 0 := by omega
      exact ⟨_, 0, 0, 0, cap, [], rfl, pts_nil _ _ _, rfl, fun h => absurd h h0⟩
end Go.Proofs.L
