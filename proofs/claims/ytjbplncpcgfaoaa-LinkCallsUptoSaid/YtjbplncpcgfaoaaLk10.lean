/- Proved here: lemmas and contracts (Lk10) for the laws of this seat, for all values of the stated types; no further condition. -/
import Derived.Test.YtjbplncpcgfaoaaLk9
import Derived.Test.YtjbplncpcgfaoaaFlat
import Derived.Test.YtjbplncpcgfaoaaClose
import Derived.Deep.Slices
import Derived.Deep.Fields
import Derived.ChangeSame
import Derived.SizedLaws
import Derived.ChangeArms
import Derived.OpenShut
open Go Go.RowKit Go.Lib Go.ChangeShapes Go.WideShapes Go.Deep
namespace Go.Proofs.L
/-! the laws' argument: objects -/
theorem flat5 : flat Try.prog 10 5 = some [5] := by kernel_rfl
theorem flat55 : flat Try.prog 10 55 = some [9, 3, 25] := by kernel_rfl
theorem flat57 : flat Try.prog 10 57 = some [3, 25, 3, 9, 25] := by kernel_rfl
theorem cells5 : Try.prog.cellsOf 5 = 1 := by kernel_rfl
theorem cells55 : Try.prog.cellsOf 55 = 3 := by kernel_rfl
theorem cells57 : Try.prog.cellsOf 57 = 5 := by kernel_rfl
theorem cells53 : Try.prog.cellsOf 53 = 5 := by kernel_rfl
theorem choose_list {α : Type} [Inhabited α] (n : Nat) (P : Nat → α → Prop) (h : ∀ j, j < n → ∃ a, P j a) : ∃ L : List α, L.length = n ∧ ∀ (j : Nat) (a : α), L[j]? = some a → P j a := by
  have hf : ∀ j, ∃ a, j < n → P j a := fun j => by
    by_cases hj : j < n
    · obtain ⟨a, ha⟩ := h j hj; exact ⟨a, fun _ => ha⟩
    · exact ⟨default, fun h => absurd h hj⟩
  refine ⟨(List.range n).map fun j => (hf j).choose, by simp, fun j a ha => ?_⟩
  rw [List.getElem?_map] at ha
  have hj : j < n := by
    rcases Nat.lt_or_ge j n with h | h
    · exact h
    · rw [List.getElem?_eq_none (by simp; omega)] at ha; cases ha
  rw [List.getElem?_range hj] at ha
  injection ha with ha
  subst ha
  exact (hf j).choose_spec hj
instance : Inhabited Df := ⟨⟨⟨#[]⟩, 0, 0⟩⟩
instance : Inhabited Rf := ⟨⟨0, 0, 0, ⟨#[]⟩, 0⟩⟩
instance : Inhabited Ob := ⟨⟨none, 0, 0, 0, 0, [], none, 0, 0, 0, 0, [], 0, none, 0, 0, 0, 0, [], none, 0, 0, 0, 0, []⟩⟩
theorem weights_all {H : Type} {P : Program} {e : TypeId} : ∀ {l : List (DataW H)} {d : DataW H}, d ∈ l → ∀ n ∈ d.weights P e, n ∈ DataW.weightsAll P e l
  | x :: l, d, hd, n, hn => by
    simp only [DataW.weightsAll, List.mem_append]
    rcases List.mem_cons.1 hd with rfl | hd
    · exact .inl hn
    · exact .inr (weights_all hd n hn)
section
variable {H : Type} {enc : TypeId × Value → H} {W : World} {base : Nat} {v : Value} {d : DataW H} {ps : List MemPlace}
theorem slice_len {P : Program} {t e : TypeId} {fuel : Nat} {u : Value} {x : DataW H × List MemPlace} (ht : P.underlying t = some (.slice e)) (hb : 1 ≤ P.bytesOf e) (h : DataW.trod enc P W 0 (fun _ => true) true fuel t [u] = some x) (hz : ∀ n ∈ x.1.weights P t, n ≤ reachBytes) :
    ∃ p len cap, u = .slice p len cap ∧ len ≤ 140737488355328 ∧ (p = none → len = 0 ∧ cap = 0) := by
  rcases open_slice ht h with ⟨hcs, hx⟩ | ⟨a, len, cap, m, n, D, Pl, hcs, hb2, hl, hm, hmm, hx, hi⟩
  · injection hcs with hcs _
    exact ⟨none, 0, 0, hcs, Nat.zero_le _, fun _ => ⟨rfl, rfl⟩⟩
  · injection hcs with hcs _
    refine ⟨some a, len, cap, hcs, ?_, fun h => by cases h⟩
    have h1 : (len + (m - len)) * P.bytesOf e ∈ x.1.weights P t := by
      rw [hx]
      unfold DataW.weights
      rw [ht]
      simp
    have h2 := hz _ h1
    have h3 : len * 1 ≤ (len + (m - len)) * P.bytesOf e := Nat.mul_le_mul (by omega) hb
    unfold reachBytes at h2
    omega
theorem open_u8s {fuel : Nat} {u : Value} {x : DataW H × List MemPlace} (h : DataW.trod enc Try.prog W 0 (fun _ => true) true fuel 36 [u] = some x) (hz : ∀ n ∈ x.1.weights Try.prog 36, n ≤ reachBytes) :
    ∃ (p : Option Addr) (b o n c : Nat) (L : List Nat), u = .slice p n c ∧ (0 < n → p = some ⟨b, o, none⟩) ∧ U8At W b o L ∧ L.length = n ∧ (p = none → n = 0 ∧ c = 0) ∧ n ≤ 140737488355328 := by
  obtain ⟨p, b, o, n, c, rfl, hp, hc⟩ := open_cells Try.underlying36 flat5 cells5 (by decide) h
  obtain ⟨p2, n2, c2, he, h1, h2⟩ := slice_len Try.underlying36 (by decide +kernel) h hz
  injection he with e1 e2 e3
  subst e1 e2 e3
  obtain ⟨L, hl, hL⟩ := choose_list n (fun j (x : Nat) => W.cell? ⟨b, o + j, none⟩ = some (.int .u8 (x : Int)) ∧ x < 256) (fun k hk => by
    obtain ⟨_, _, u0, h0, t0⟩ := hc k hk 0 5 rfl
    obtain ⟨x0, rfl, l0⟩ := leaf_u8 Try.underlying5 t0
    exact ⟨x0, by simpa using h0, l0⟩)
  exact ⟨p, b, o, n, c, L, rfl, hp, fun j x hx => hL j x hx, hl, h2, h1⟩
theorem open_dfs {fuel : Nat} {u : Value} {x : DataW H × List MemPlace} (h : DataW.trod enc Try.prog W 0 (fun _ => true) true fuel 50 [u] = some x) (hz : ∀ n ∈ x.1.weights Try.prog 50, n ≤ reachBytes) :
    ∃ (p : Option Addr) (b o n c : Nat) (L : List Df), u = .slice p n c ∧ (0 < n → p = some ⟨b, o, none⟩) ∧ DfsAt W b o L ∧ L.length = n ∧ n ≤ 140737488355328 := by
  obtain ⟨p, b, o, n, c, rfl, hp, hc⟩ := open_cells Try.underlying50 flat55 cells55 (by decide) h
  obtain ⟨p2, n2, c2, he, h1, h2⟩ := slice_len Try.underlying50 (by decide +kernel) h hz
  injection he with e1 e2 e3
  subst e1 e2 e3
  obtain ⟨L, hl, hL⟩ := choose_list n (fun j (r : Df) => (∀ i u, (DfC r)[i]? = some u → W.cell? ⟨b, o + j * 3 + i, none⟩ = some u) ∧ r.at_ < 4294967296) (fun k hk => by
    obtain ⟨_, _, u0, h0, t0⟩ := hc k hk 0 9 rfl
    obtain ⟨_, _, u1, h1, t1⟩ := hc k hk 1 3 rfl
    obtain ⟨_, _, u2, h2, t2⟩ := hc k hk 2 25 rfl
    obtain ⟨s, hs, -, -⟩ := DataW.trod_string Try.underlying9 t0
    injection hs with hs _
    subst hs
    obtain ⟨x1, rfl, -⟩ := leaf_i64 Try.underlying3 t1
    obtain ⟨x2, rfl, l2⟩ := leaf_u32 Try.underlying25 t2
    refine ⟨⟨s, x1, x2⟩, fun i u hu => ?_, l2⟩
    match i, hu with
    | 0, hu => obtain rfl := Option.some.inj hu; exact h0
    | 1, hu => obtain rfl := Option.some.inj hu; exact h1
    | 2, hu => obtain rfl := Option.some.inj hu; exact h2
    | i + 3, hu => simp [DfC] at hu)
  exact ⟨p, b, o, n, c, L, rfl, hp, fun j r hr => hL j r hr, hl, h1⟩
theorem open_rfs {fuel : Nat} {u : Value} {x : DataW H × List MemPlace} (h : DataW.trod enc Try.prog W 0 (fun _ => true) true fuel 51 [u] = some x) (hz : ∀ n ∈ x.1.weights Try.prog 51, n ≤ reachBytes) :
    ∃ (p : Option Addr) (b o n c : Nat) (L : List Rf), u = .slice p n c ∧ (0 < n → p = some ⟨b, o, none⟩) ∧ RfsAt W b o L ∧ L.length = n ∧ n ≤ 140737488355328 ∧ (∀ r ∈ L, r.name.size ≤ maxLen) := by
  obtain ⟨p, b, o, n, c, rfl, hp, hc⟩ := open_cells Try.underlying51 flat57 cells57 (by decide) h
  obtain ⟨p2, n2, c2, he, h1, h2⟩ := slice_len Try.underlying51 (by decide +kernel) h hz
  injection he with e1 e2 e3
  subst e1 e2 e3
  obtain ⟨L, hl, hL⟩ := choose_list n (fun j (r : Rf) => ((∀ i u, (RfC r)[i]? = some u → W.cell? ⟨b, o + j * 5 + i, none⟩ = some u) ∧ r.at_ < 4294967296 ∧ r.add < 4294967296) ∧ r.name.size ≤ maxLen) (fun k hk => by
    obtain ⟨_, _, u0, h0, t0⟩ := hc k hk 0 3 rfl
    obtain ⟨_, _, u1, h1, t1⟩ := hc k hk 1 25 rfl
    obtain ⟨_, _, u2, h2, t2⟩ := hc k hk 2 3 rfl
    obtain ⟨_, _, u3, h3, t3⟩ := hc k hk 3 9 rfl
    obtain ⟨_, _, u4, h4, t4⟩ := hc k hk 4 25 rfl
    obtain ⟨x0, rfl, -⟩ := leaf_i64 Try.underlying3 t0
    obtain ⟨x1, rfl, l1⟩ := leaf_u32 Try.underlying25 t1
    obtain ⟨x2, rfl, -⟩ := leaf_i64 Try.underlying3 t2
    obtain ⟨s, hs, -, hsz⟩ := DataW.trod_string Try.underlying9 t3
    injection hs with hs _
    subst hs
    obtain ⟨x4, rfl, l4⟩ := leaf_u32 Try.underlying25 t4
    refine ⟨⟨x0, x1, x2, s, x4⟩, ⟨fun i u hu => ?_, l1, l4⟩, hsz⟩
    match i, hu with
    | 0, hu => obtain rfl := Option.some.inj hu; exact h0
    | 1, hu => obtain rfl := Option.some.inj hu; exact h1
    | 2, hu => obtain rfl := Option.some.inj hu; exact h2
    | 3, hu => obtain rfl := Option.some.inj hu; exact h3
    | 4, hu => obtain rfl := Option.some.inj hu; exact h4
    | i + 5, hu => simp [RfC] at hu)
  exact ⟨p, b, o, n, c, L, rfl, hp, fun j r hr => (hL j r hr).1, hl, h1, fun r hr => by
    obtain ⟨j, hj⟩ := List.mem_iff_getElem?.1 hr
    exact (hL j r hj).2⟩
theorem len5' {α : Type} {l : List α} (h : l.length = 5) : ∃ a b c d e, l = [a, b, c, d, e] := by
  rcases l with _ | ⟨a, _ | ⟨b, _ | ⟨c, _ | ⟨d, _ | ⟨e, _ | ⟨f, l⟩⟩⟩⟩⟩⟩
  · simp at h
  · simp at h
  · simp at h
  · simp at h
  · simp at h
  · exact ⟨a, b, c, d, e, rfl⟩
  · simp at h
set_option maxRecDepth 100000 in
/-- the objects -/
theorem open_objs (hv : Value.okWide Try.prog W .any base 22 v) (h : DataW.Trod enc Try.prog W 0 (fun _ => true) true 22 v d ps) (hz : ∀ n ∈ d.weights Try.prog 22, n ≤ reachBytes) :
    ∃ (p : Option Addr) (b o n c : Nat) (L : List Ob), v = .slice p n c ∧ ObsAt W b o L ∧ L.length = n ∧ (0 < n → p = some ⟨b, o, none⟩) ∧ (∀ s ∈ L, LongO s) ∧ (∀ s ∈ L, ∀ r ∈ s.R, r.name.size ≤ maxLen) := by
  obtain ⟨p, len, cap, rfl⟩ := okWide_slice Try.underlying22 hv
  obtain ⟨fuel, hf⟩ := h
  rcases open_slice Try.underlying22 hf with ⟨hcs, hx⟩ | ⟨a, len', cap', m, n, D, Pl, hcs, hb, hl, hm, hmm, hx, hi⟩
  · simp only [Value.cells] at hcs
    injection hcs with hcs _
    injection hcs with e1 e2 e3
    subst e2
    exact ⟨p, 0, 0, 0, cap, [], rfl, fun j s hj => by simp at hj, rfl, fun h => by omega, fun s hs => by simp at hs, fun s hs => by simp at hs⟩
  · simp only [Value.cells] at hcs
    injection hcs with hcs _
    injection hcs with e1 e2 e3
    subst e1 e2 e3
    rw [cells53] at hi
    simp only [Prod.mk.injEq] at hx
    obtain ⟨L, hL1, hL2⟩ := choose_list len (fun k (s : Ob) => ((∀ i u, (obA s).toList[i]? = some u → W.cell? ((a.add (k * 5)).add i) = some u) ∧ ObOk W s) ∧ LongO s ∧ ∀ r ∈ s.R, r.name.size ≤ maxLen) (fun k hk => by
      obtain ⟨cs', hc, ht'⟩ := hi k (by rw [hmm]; simp; omega)
      obtain ⟨_, hcl, hat⟩ := World.cells?_some hc
      obtain ⟨ys, n', hn', hy, hlen, hyl, hfs⟩ := DataW.trod_struct Try.underlying53 ht'
      have h0 := hfs 0 _ rfl
      have h1 := hfs 1 _ rfl
      have h2 := hfs 2 _ rfl
      have h3 := hfs 3 _ rfl
      have h4 := hfs 4 _ rfl
      have c36 : Try.prog.cellsOf 36 = 1 := by kernel_rfl
      have c25 : Try.prog.cellsOf 25 = 1 := by kernel_rfl
      have c50 : Try.prog.cellsOf 50 = 1 := by kernel_rfl
      have c51 : Try.prog.cellsOf 51 = 1 := by kernel_rfl
      obtain ⟨x0, x1, x2, x3, x4, rfl⟩ : ∃ x0 x1 x2 x3 x4, cs' = [x0, x1, x2, x3, x4] := len5' hcl
      obtain ⟨y0, y1, y2, y3, y4, rfl⟩ : ∃ y0 y1 y2 y3 y4, ys = [y0, y1, y2, y3, y4] := len5' hyl
      simp [c36, c25, c50, c51] at h0 h1 h2 h3 h4
      have a0 := hat 0 (by decide)
      have a1 := hat 1 (by decide)
      have a2 := hat 2 (by decide)
      have a3 := hat 3 (by decide)
      have a4 := hat 4 (by decide)
      have hD : D k = .agg [y0.1, y1.1, y2.1, y3.1, y4.1] := by
        simp only [Prod.mk.injEq] at hy
        simpa using hy.1
      have up : ∀ n, n ∈ (D k).weights Try.prog 53 → n ≤ reachBytes := fun n hn => by
        refine hz _ ?_
        rw [hx.1]
        unfold DataW.weights
        rw [Try.underlying22]
        simp only [List.mem_cons, List.mem_append]
        exact .inr (.inl (weights_all (d := D k) (List.mem_map.2 ⟨k, by simpa using hk, rfl⟩) _ hn))
      have hw : (D k).weights Try.prog 53 = y0.1.weights Try.prog 36 ++ (y1.1.weights Try.prog 36 ++ (y2.1.weights Try.prog 25 ++ (y3.1.weights Try.prog 50 ++ (y4.1.weights Try.prog 51 ++ [])))) := by
        rw [hD]
        rw [DataW.weights]
        rw [Try.underlying53]
        simp [DataW.weightsEach]
      rw [hw] at up
      obtain ⟨z2, rfl, l2⟩ := leaf_u32 Try.underlying25 h2
      obtain ⟨p0, b0, o0, n0, c0, L0, rfl, q01, q02, q03, q04, q05⟩ := open_u8s h0 (fun n hn => up n (by simp [hn]))
      obtain ⟨p1, b1, o1, n1, c1, L1, rfl, q11, q12, q13, q14, q15⟩ := open_u8s h1 (fun n hn => up n (by simp [hn]))
      obtain ⟨p3, b3, o3, n3, c3, L3, rfl, q31, q32, q33, q34⟩ := open_dfs h3 (fun n hn => up n (by simp [hn]))
      obtain ⟨p4, b4, o4, n4, c4, L4, rfl, q41, q42, q43, q44, q45⟩ := open_rfs h4 (fun n hn => up n (by simp [hn]))
      refine ⟨⟨p0, b0, o0, n0, c0, L0, p1, b1, o1, n1, c1, L1, z2, p3, b3, o3, n3, c3, L3, p4, b4, o4, n4, c4, L4⟩, ⟨fun i u hu => ?_, ⟨l2, q03, q01, q04, q02, q13, q11, q14, q12, q33, q31, q32, q43, q41, q42⟩⟩, ⟨q05, q15, q34, q44⟩, q45⟩
      match i, hu with
      | 0, hu => obtain rfl := Option.some.inj hu; exact a0
      | 1, hu => obtain rfl := Option.some.inj hu; exact a1
      | 2, hu => obtain rfl := Option.some.inj hu; exact a2
      | 3, hu => obtain rfl := Option.some.inj hu; exact a3
      | 4, hu => obtain rfl := Option.some.inj hu; exact a4
      | i + 5, hu => simp [obA] at hu)
    have hlong : ∀ s ∈ L, LongO s := fun s hs => by
      obtain ⟨j, hj⟩ := List.mem_iff_getElem?.1 hs
      exact (hL2 j s hj).2.1
    have hnm : ∀ s ∈ L, ∀ r ∈ s.R, r.name.size ≤ maxLen := fun s hs => by
      obtain ⟨j, hj⟩ := List.mem_iff_getElem?.1 hs
      exact (hL2 j s hj).2.2
    by_cases h0 : 0 < len
    · obtain ⟨s0, hs0⟩ : ∃ s, L[0]? = some s := ⟨_, List.getElem?_eq_getElem (by rw [hL1]; exact h0)⟩
      have hs := no_spot ((hL2 0 s0 hs0).1.1 0 _ rfl)
      obtain ⟨ab, ao, asp⟩ := a
      have : asp = none := by
        unfold Addr.add at hs
        cases asp with
        | none => rfl
        | some x => revert hs; simp
      subst this
      refine ⟨_, ab, ao, len, cap, L, rfl, fun j s hj => ⟨fun i u hu => ?_, (hL2 j s hj).1.2⟩, hL1, fun _ => rfl, hlong, hnm⟩
      have := (hL2 j s hj).1.1 i u hu
      simpa only [addr_none] using this
    · obtain rfl : len = 0 := by omega
      obtain rfl := List.eq_nil_of_length_eq_zero hL1
      exact ⟨_, 0, 0, 0, cap, [], rfl, fun j s hj => by simp at hj, rfl, fun h => absurd h (Nat.lt_irrefl 0), fun s hs => by simp at hs, fun s hs => by simp at hs⟩
end
end Go.Proofs.L
