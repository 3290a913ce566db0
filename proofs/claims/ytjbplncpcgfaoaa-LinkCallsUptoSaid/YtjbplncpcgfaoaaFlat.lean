/- Proved here: lemmas and contracts (Flat) for the laws of this seat, for all values of the stated types; no further condition. -/
import Derived.Test.YtjbplncpcgfaoaaOpen
import Derived.Deep.Slices
import Derived.ChangeArms
import Derived.OpenShut
open Go Go.RowKit Go.ChangeShapes Go.WideShapes Go.Deep
namespace Go.Proofs.L
/-! openers of law arguments whose types are structs and arrays, nested: the leaves' types, cell for cell -/
mutual
def flat (P : Program) : Nat → TypeId → Option (List TypeId)
  | 0, _ => none
  | k + 1, t => match P.underlying t with
    | some (.struct fs) => flatFs P k 0 fs.toList
    | some (.array n e) => match flat P k e with
      | some l => if P.cellsOf e = l.length then some ((List.replicate n l).flatten) else none
      | none => none
    | some _ => some [t]
    | none => none
def flatFs (P : Program) : Nat → Nat → List Field → Option (List TypeId)
  | _, _, [] => some []
  | 0, _, _ => none
  | k + 1, off, f :: fs => match flat P k f.type with
    | some l => if f.offset = off ∧ P.cellsOf f.type = l.length then (flatFs P k (off + l.length) fs).map (l ++ ·) else none
    | none => none
end
section
variable {H : Type} {enc : TypeId × Value → H} {P : Program} {w : World} {base : Nat} {spare : Nat → Bool} {held : Bool}
/-- every cell at its leaf -/
def Leaves (enc : TypeId × Value → H) (P : Program) (w : World) (base : Nat) (spare : Nat → Bool) (held : Bool) (l : List TypeId) (cs : List Value) : Prop :=
  ∀ (i : Nat) (ty : TypeId), l[i]? = some ty → ∃ n y u, cs[i]? = some u ∧ DataW.trod enc P w base spare held n ty [u] = some y
theorem leaves_append {l1 l2 : List TypeId} {cs : List Value} (h1 : Leaves enc P w base spare held l1 (cs.take l1.length)) (h2 : Leaves enc P w base spare held l2 (cs.drop l1.length)) : Leaves enc P w base spare held (l1 ++ l2) cs := by
  intro i ty hi
  by_cases h : i < l1.length
  · rw [List.getElem?_append_left h] at hi
    obtain ⟨n, y, u, hu, hy⟩ := h1 i ty hi
    rw [List.getElem?_take, if_pos h] at hu
    exact ⟨n, y, u, hu, hy⟩
  · rw [List.getElem?_append_right (by omega)] at hi
    obtain ⟨n, y, u, hu, hy⟩ := h2 _ ty hi
    rw [List.getElem?_drop, show l1.length + (i - l1.length) = i by omega] at hu
    exact ⟨n, y, u, hu, hy⟩
theorem leaves_rep {l : List TypeId} : ∀ (n : Nat) (cs : List Value), (∀ i, i < n → Leaves enc P w base spare held l ((cs.drop (i * l.length)).take l.length)) → Leaves enc P w base spare held ((List.replicate n l).flatten) cs
  | 0, cs, _ => by intro i ty hi; simp at hi
  | n + 1, cs, h => by
    rw [List.replicate_succ, List.flatten_cons]
    refine leaves_append (by have := h 0 (by omega); simpa using this) (leaves_rep n _ fun i hi => ?_)
    have := h (i + 1) (by omega)
    rw [List.drop_drop]
    rwa [show (i + 1) * l.length = l.length + i * l.length by rw [Nat.add_mul, Nat.one_mul, Nat.add_comm]] at this
mutual
theorem flat_trod : ∀ (k : Nat) (t : TypeId) (l : List TypeId) (fuel : Nat) (cs : List Value) (x : DataW H × List MemPlace), flat P k t = some l → cs.length = l.length → DataW.trod enc P w base spare held fuel t cs = some x → Leaves enc P w base spare held l cs
  | 0, t, l, fuel, cs, x, hf, _, _ => by simp [flat] at hf
  | k + 1, t, l, fuel, cs, x, hf, hl, h => by
    unfold flat at hf
    cases hu : P.underlying t with
    | none => rw [hu] at hf; cases hf
    | some d =>
      rw [hu] at hf
      have leaf : some [t] = some l → Leaves enc P w base spare held l cs := by
        intro hf
        injection hf with hf
        subst hf
        intro i ty hi
        cases i with
        | succ i => simp at hi
        | zero =>
          simp at hi
          subst hi
          rcases cs with _ | ⟨u, _ | ⟨v, cs⟩⟩
          · simp at hl
          · exact ⟨fuel, x, u, rfl, h⟩
          · simp at hl
      cases d with
      | struct fs =>
        dsimp only at hf
        obtain ⟨xs, n, -, -, hlen, hxl, hfs⟩ := DataW.trod_struct hu h
        refine flatFs_trod k 0 fs.toList l n cs hf (by simpa using hl) (fun i f hi => ?_)
        have h1 := hfs i f (by simpa using hi)
        have hlt : i < xs.length := by
          rw [hxl]
          have := (List.getElem?_eq_some_iff.1 hi).1
          simpa using this
        exact ⟨n, xs[i], by rw [h1, List.getElem?_eq_getElem hlt]⟩
      | array n e =>
        dsimp only at hf
        cases hfe : flat P k e with
        | none => rw [hfe] at hf; cases hf
        | some le =>
          rw [hfe] at hf
          dsimp only at hf
          split at hf
          · rename_i hc
            injection hf with hf
            subst hf
            obtain ⟨xs, m, -, -, hlen, hxl, hel⟩ := DataW.trod_array hu h
            rw [hc] at hel
            refine leaves_rep n cs fun i hi => ?_
            have h1 := hel i hi
            refine flat_trod k e le m _ (xs[i]'(by omega)) hfe ?_ (by rw [h1, List.getElem?_eq_getElem (by omega)])
            have hl2 : cs.length = n * le.length := by
              rw [hl]; simp [List.length_flatten]
            rw [List.length_take, List.length_drop, hl2]
            have : (i + 1) * le.length ≤ n * le.length := Nat.mul_le_mul_right _ hi
            rw [Nat.add_mul, Nat.one_mul] at this
            omega
          · cases hf
      | _ => exact leaf hf
theorem flatFs_trod : ∀ (k off : Nat) (fs : List Field) (l : List TypeId) (_n : Nat) (cs : List Value), flatFs P k off fs = some l → cs.length = off + l.length → (∀ (i : Nat) (f : Field), fs[i]? = some f → ∃ n y, DataW.trod enc P w base spare held n f.type ((cs.drop f.offset).take (P.cellsOf f.type)) = some y) → Leaves enc P w base spare held l (cs.drop off)
  | k, off, [], l, n, cs, hf, hl, h => by
    unfold flatFs at hf
    injection hf with hf
    subst hf
    intro i ty hi; simp at hi
  | 0, off, f :: fs, l, n, cs, hf, hl, h => by simp [flatFs] at hf
  | k + 1, off, f :: fs, l, n, cs, hf, hl, h => by
    unfold flatFs at hf
    cases hfe : flat P k f.type with
    | none => rw [hfe] at hf; cases hf
    | some lf =>
      rw [hfe] at hf
      dsimp only at hf
      split at hf
      · rename_i hc
        obtain ⟨ho, hc⟩ := hc
        cases hr : flatFs P k (off + lf.length) fs with
        | none => rw [hr] at hf; cases hf
        | some lr =>
          rw [hr] at hf
          simp at hf
          subst hf
          simp at hl
          obtain ⟨n1, y, hy⟩ := h 0 f rfl
          rw [ho, hc] at hy
          refine leaves_append ?_ ?_
          · exact flat_trod k f.type lf n1 _ y hfe (by rw [List.length_take, List.length_drop]; omega) hy
          · rw [List.drop_drop]
            exact flatFs_trod k (off + lf.length) fs lr n cs hr (by omega) (fun i g hi => h (i + 1) g (by simpa using hi))
      · cases hf
end
/-- a slice of structs at a cell: where it lies, and its cells' leaves -/
theorem open_cells {t e : TypeId} {l : List TypeId} {fuel k : Nat} {v : Value} {x : DataW H × List MemPlace} (ht : P.underlying t = some (.slice e)) (hk : flat P k e = some l) (hc : P.cellsOf e = l.length) (h0 : 0 < l.length)
    (h : DataW.trod enc P w base spare held fuel t [v] = some x) :
    ∃ (p : Option Addr) (b o len cap : Nat), v = .slice p len cap ∧ (0 < len → p = some ⟨b, o, none⟩) ∧
      ∀ j, j < len → ∀ (i : Nat) (ty : TypeId), l[i]? = some ty → ∃ n y u, w.cell? ⟨b, o + j * l.length + i, none⟩ = some u ∧ DataW.trod enc P w base spare held n ty [u] = some y := by
  rcases open_slice ht h with ⟨hcs, hx⟩ | ⟨a, len, cap, m, n, D, Pl, hcs, hb, hl, hm, hmm, hx, hi⟩
  · injection hcs with hcs _
    subst hcs
    exact ⟨none, 0, 0, 0, 0, rfl, fun h => by omega, fun j hj => by omega⟩
  · injection hcs with hcs _
    subst hcs
    have key : ∀ j, j < len → ∀ (i : Nat) (ty : TypeId), l[i]? = some ty → ∃ n y u, w.cell? ((a.add (j * l.length)).add i) = some u ∧ DataW.trod enc P w base spare held n ty [u] = some y := by
      intro j hj i ty hty
      obtain ⟨cs', hcc, ht'⟩ := hi j (by rw [hmm]; split <;> omega)
      rw [hc] at hcc
      obtain ⟨_, hcl, hat⟩ := World.cells?_some hcc
      obtain ⟨n', y, u, hu, hy⟩ := flat_trod k e l n cs' _ hk hcl ht' i ty hty
      exact ⟨n', y, u, by rw [hat i (List.getElem?_eq_some_iff.1 hty).1]; exact hu, hy⟩
    by_cases hlen : 0 < len
    · obtain ⟨ty, hty⟩ : ∃ ty, l[0]? = some ty := ⟨_, List.getElem?_eq_getElem h0⟩
      obtain ⟨_, _, u, q, _⟩ := key 0 hlen 0 ty hty
      have hs := no_spot q
      obtain ⟨ab, ao, asp⟩ := a
      have : asp = none := by
        unfold Addr.add at hs
        cases asp with
        | none => rfl
        | some x => revert hs; simp
      subst this
      refine ⟨_, ab, ao, len, cap, rfl, fun _ => rfl, fun j hj i ty hty => ?_⟩
      have := key j hj i ty hty
      simpa only [addr_none] using this
    · exact ⟨_, 0, 0, len, cap, rfl, fun h => absurd h hlen, fun j hj => by omega⟩
theorem leaf_u32 {t : TypeId} {fuel : Nat} {v : Value} {x : DataW H × List MemPlace} (ht : P.underlying t = some (.int .u32)) (h : DataW.trod enc P w base spare held fuel t [v] = some x) : ∃ n : Nat, v = .int .u32 (n : Int) ∧ n < 4294967296 := by
  obtain ⟨i, hi, -, hw⟩ := DataW.trod_int ht h
  injection hi with hi _
  have hb := wf_u32 hw
  obtain ⟨n, rfl⟩ := Int.eq_ofNat_of_zero_le hb.1
  exact ⟨n, hi, by omega⟩
theorem leaf_u8 {t : TypeId} {fuel : Nat} {v : Value} {x : DataW H × List MemPlace} (ht : P.underlying t = some (.int .u8)) (h : DataW.trod enc P w base spare held fuel t [v] = some x) : ∃ n : Nat, v = .int .u8 (n : Int) ∧ n < 256 := by
  obtain ⟨i, hi, -, hw⟩ := DataW.trod_int ht h
  injection hi with hi _
  have hb := wf_u8 hw
  obtain ⟨n, rfl⟩ := Int.eq_ofNat_of_zero_le hb.1
  exact ⟨n, hi, by omega⟩
theorem leaf_i64 {t : TypeId} {fuel : Nat} {v : Value} {x : DataW H × List MemPlace} (ht : P.underlying t = some (.int .i64)) (h : DataW.trod enc P w base spare held fuel t [v] = some x) : ∃ i : Int, v = .int .i64 i ∧ -9223372036854775808 ≤ i ∧ i < 9223372036854775808 := by
  obtain ⟨i, hi, -, hw⟩ := DataW.trod_int ht h
  injection hi with hi _
  exact ⟨i, hi, wf_i64 hw⟩
/-- a slice argument of a law -/
theorem open_cellsW {t e : TypeId} {l : List TypeId} {k : Nat} {v : Value} {d : DataW H} {ps : List MemPlace} (ht : P.underlying t = some (.slice e)) (hk : flat P k e = some l) (hc : P.cellsOf e = l.length) (h0 : 0 < l.length)
    (hv : Value.okWide P w .any base t v) (h : DataW.Trod enc P w 0 (fun _ => true) true t v d ps) :
    ∃ (p : Option Addr) (b o len cap : Nat), v = .slice p len cap ∧ (0 < len → p = some ⟨b, o, none⟩) ∧
      ∀ j, j < len → ∀ (i : Nat) (ty : TypeId), l[i]? = some ty → ∃ n y u, w.cell? ⟨b, o + j * l.length + i, none⟩ = some u ∧ DataW.trod enc P w 0 (fun _ => true) true n ty [u] = some y := by
  obtain ⟨p, len, cap, rfl⟩ := okWide_slice ht hv
  obtain ⟨fuel, hf⟩ := h
  simp only [Value.cells] at hf
  obtain ⟨p', b, o, len', cap', hv', hp, hcs⟩ := open_cells ht hk hc h0 hf
  exact ⟨p', b, o, len', cap', hv', hp, hcs⟩
/-- a struct argument of a law -/
theorem open_aggW {t : TypeId} {fs : Array Field} {l : List TypeId} {k : Nat} {v : Value} {d : DataW H} {ps : List MemPlace} (ht : P.underlying t = some (.struct fs)) (hk : flat P k t = some l) (hc : P.cellsOf t = l.length)
    (hv : Value.okWide P w .any base t v) (h : DataW.Trod enc P w 0 (fun _ => true) true t v d ps) :
    ∃ cs : Array Value, v = .agg cs ∧ cs.size = l.length ∧ Leaves enc P w 0 (fun _ => true) true l cs.toList := by
  obtain ⟨cs, rfl, hs⟩ := okWide_struct ht hv
  obtain ⟨fuel, hf⟩ := h
  simp only [Value.cells] at hf
  exact ⟨cs, rfl, by omega, flat_trod k t l fuel _ _ hk (by simp; omega) hf⟩
end
end Go.Proofs.L
