/- Proved here: lemmas and contracts (Lc6) for the laws of this seat, for all values of the stated types; no further condition. -/
import Derived.Test.YtjbplncpcgfaoaaRows
import Derived.Test.YtjbplncpcgfaoaaLc5
import Derived.Test.YtjbplncpcgfaoaaLk10
open Go Go.RowKit Go.Lib Go.ChangeShapes Go.WideShapes Go.Deep
open Go.Proofs.Ytjbplncpcgfaoaa
namespace Go.Proofs.L
/-! LinkCalls: the law's arguments, slices of slices of bytes, of bounded bulk -/
theorem bulk_part {H : Type} {d : DataW H} {l : List (DataW H)} (h : d ∈ l) : Rows.uptoBulk d ≤ Rows.uptoBulkAll l := by
  induction l with
  | nil => cases h
  | cons x r ih =>
    simp only [Rows.uptoBulkAll]
    cases List.mem_cons.1 h with
    | inl e => subst e; omega
    | inr e => have := ih e; omega
theorem bulk_one {H : Type} (d : DataW H) : 1 ≤ Rows.uptoBulk d := by
  cases d with
  | lit l => cases l <;> simp [Rows.uptoBulk]
  | nil => simp [Rows.uptoBulk]
  | ptr d => simp [Rows.uptoBulk]
  | slice elems spare => simp [Rows.uptoBulk]
  | agg parts => simp [Rows.uptoBulk]
  | iface t d => simp [Rows.uptoBulk]
  | map entries => simp [Rows.uptoBulk]
  | held h => simp [Rows.uptoBulk]
theorem bulk_len {H : Type} (l : List (DataW H)) : l.length ≤ Rows.uptoBulkAll l := by
  induction l with
  | nil => simp [Rows.uptoBulkAll]
  | cons x r ih => have := bulk_one x; simp only [Rows.uptoBulkAll, List.length_cons]; omega
theorem bulk_slice {H : Type} (elems spare : List (DataW H)) : Rows.uptoBulkAll elems + 1 ≤ Rows.uptoBulk (.slice elems spare) := by
  simp only [Rows.uptoBulk]
  omega
theorem add_zeroC (a : Addr) : a.add 0 = a := by
  obtain ⟨b, o, s⟩ := a
  unfold Addr.add
  cases s <;> simp
instance : Inhabited By := ⟨zBy⟩
section
variable {H : Type} {enc : TypeId × Value → H} {W : World} {base : Nat} {v : Value} {d : DataW H} {ps : List MemPlace}
theorem slice_bulk {t e : TypeId} {fuel : Nat} {u : Value} {x : DataW H × List MemPlace} (ht : Try.prog.underlying t = some (.slice e)) (h : DataW.trod enc Try.prog W 0 (fun _ => true) true fuel t [u] = some x) (hz : Rows.uptoBulk x.1 ≤ 1048576) :
    ∃ p len cap, u = .slice p len cap ∧ len ≤ 1048576 ∧ (p = none → len = 0 ∧ cap = 0) := by
  rcases open_slice ht h with ⟨hcs, hx⟩ | ⟨a, len, cap, m, n, D, Pl, hcs, hb2, hl, hm, hmm, hx, hi⟩
  · injection hcs with hcs _
    exact ⟨none, 0, 0, hcs, Nat.zero_le _, fun _ => ⟨rfl, rfl⟩⟩
  · injection hcs with hcs _
    refine ⟨some a, len, cap, hcs, ?_, fun h => by cases h⟩
    rw [hx] at hz
    have hz2 : Rows.uptoBulk (DataW.slice (List.map D (List.range len)) (List.map (fun j => D (len + j)) (List.range (m - len)))) ≤ 1048576 := hz
    have h1 := bulk_slice (List.map D (List.range len)) (List.map (fun j => D (len + j)) (List.range (m - len)))
    have h2 := bulk_len (List.map D (List.range len))
    rw [List.length_map, List.length_range] at h2
    omega
theorem open_by {fuel : Nat} {u : Value} {x : DataW H × List MemPlace} (h : DataW.trod enc Try.prog W 0 (fun _ => true) true fuel 36 [u] = some x) (hz : Rows.uptoBulk x.1 ≤ 1048576) :
    ∃ t : By, u = .slice t.p t.n t.c ∧ ByOk W t := by
  obtain ⟨p, b, o, n, c, rfl, hp, hc⟩ := open_cells Try.underlying36 flat5 cells5 (by decide) h
  obtain ⟨p2, n2, c2, he, h1, h2⟩ := slice_bulk Try.underlying36 h hz
  injection he with e1 e2 e3
  subst e1 e2 e3
  obtain ⟨L, hl, hL⟩ := choose_list n (fun j (x : Nat) => W.cell? ⟨b, o + j, none⟩ = some (.int .u8 (x : Int)) ∧ x < 256) (fun k hk => by
    obtain ⟨_, _, u0, h0, t0⟩ := hc k hk 0 5 rfl
    obtain ⟨x0, rfl, l0⟩ := leaf_u8 Try.underlying5 t0
    exact ⟨x0, by simpa using h0, l0⟩)
  exact ⟨⟨p, b, o, n, c, L⟩, rfl, hl, hp, h2, fun j x hx => hL j x hx, by show n ≤ 2000000; omega⟩
theorem cells36 : Try.prog.cellsOf 36 = 1 := by kernel_rfl
set_option maxRecDepth 100000 in
theorem open_bys (hv : Value.okWide Try.prog W .any base 59 v) (h : DataW.Trod enc Try.prog W 0 (fun _ => true) true 59 v d ps) (hz : Rows.uptoBulk d ≤ 1048576) :
    ∃ (p : Option Addr) (b o n c : Nat) (T : List By), v = .slice p n c ∧ BysAt W b o T ∧ T.length = n ∧ (0 < n → p = some ⟨b, o, none⟩) ∧ (p = none → n = 0 ∧ c = 0) ∧ n ≤ 2000000 := by
  obtain ⟨p, len, cap, rfl⟩ := okWide_slice Try.underlying59 hv
  obtain ⟨fuel, hf⟩ := h
  rcases open_slice Try.underlying59 hf with ⟨hcs, hx⟩ | ⟨a, len', cap', m, n, D, Pl, hcs, hb, hl, hm, hmm, hx, hi⟩
  · simp only [Value.cells] at hcs
    injection hcs with hcs _
    injection hcs with e1 e2 e3
    subst e1 e2 e3
    exact ⟨none, 0, 0, 0, 0, [], rfl, fun j s hj => by simp at hj, rfl, fun h => by omega, fun _ => ⟨rfl, rfl⟩, Nat.zero_le _⟩
  · simp only [Value.cells] at hcs
    injection hcs with hcs _
    injection hcs with e1 e2 e3
    subst e1 e2 e3
    rw [cells36] at hi
    simp only [Prod.mk.injEq] at hx
    have hsl := bulk_slice (List.map D (List.range len)) (List.map (fun j => D (len + j)) (List.range (m - len)))
    rw [← hx.1] at hsl
    have hln := bulk_len (List.map D (List.range len))
    rw [List.length_map, List.length_range] at hln
    obtain ⟨L, hL1, hL2⟩ := choose_list len (fun k (s : By) => W.cell? (a.add k) = some (.slice s.p s.n s.c) ∧ ByOk W s) (fun k hk => by
      obtain ⟨cs', hc, ht'⟩ := hi k (by rw [hmm]; simp; omega)
      obtain ⟨_, hcl, hat⟩ := World.cells?_some hc
      obtain ⟨u, rfl⟩ : ∃ u, cs' = [u] := by
        match cs', hcl with
        | [u], _ => exact ⟨u, rfl⟩
      have hD : Rows.uptoBulk (D k) ≤ Rows.uptoBulkAll (List.map D (List.range len)) := bulk_part (List.mem_map.2 ⟨k, by simpa using hk, rfl⟩)
      obtain ⟨t, hu, hok⟩ := open_by ht' (by show Rows.uptoBulk (D k) ≤ 1048576; omega)
      refine ⟨t, ?_, hok⟩
      have := hat 0 (by decide)
      rw [← hu]
      simpa [add_zeroC] using this)
    by_cases h0 : 0 < len
    · obtain ⟨s0, hs0⟩ : ∃ s, L[0]? = some s := ⟨_, List.getElem?_eq_getElem (by rw [hL1]; exact h0)⟩
      have hs := no_spot (hL2 0 s0 hs0).1
      obtain ⟨ab, ao, asp⟩ := a
      have : asp = none := by
        unfold Addr.add at hs
        cases asp with
        | none => rfl
        | some x => revert hs; simp
      subst this
      refine ⟨_, ab, ao, len, cap, L, rfl, fun j s hj => ⟨?_, (hL2 j s hj).2⟩, hL1, fun _ => rfl, (fun h => by cases h), by omega⟩
      have := (hL2 j s hj).1
      rwa [addr_at] at this
    · obtain rfl : len = 0 := by omega
      obtain rfl := List.eq_nil_of_length_eq_zero hL1
      exact ⟨_, 0, 0, 0, cap, [], rfl, fun j s hj => by simp at hj, rfl, fun h => absurd h (Nat.lt_irrefl 0), (fun h => by cases h), Nat.zero_le _⟩
end
end Go.Proofs.L
