/- Proved here: lemmas and contracts (Rr10) for the laws of this seat, for all values of the stated types; no further condition. -/
import Derived.Test.YtjiiojbenbldlaaOpen
import Derived.Deep.Slices
import Derived.ChangeArms
import Derived.OpenShut
import Derived.Test.YtjiiojbenbldlaaRr9
open Go Go.RowKit Go.ChangeShapes Go.WideShapes Go.Deep
namespace Go.Proofs.L
/-! openers of law arguments whose types are structs and arrays, nested: the leaves' types, cell for cell -/
mutual
def flat (P : Program) : Nat → TypeId → Option (List TypeId)
  | 0, _ => none
  | k + 1, t => match P.underlying t with
    | some (.struct fs) => flatFs P k 0 fs.toList
    | some (.array n e) => match flat P k e with
      | some l => if P.cellsOf e = l.length then some ((List.replicate n l).flatten) else none
      | none => none
    | some _ => some [t]
    | none => none
def flatFs (P : Program) : Nat → Nat → List Field → Option (List TypeId)
  | _, _, [] => some []
  | 0, _, _ => none
  | k + 1, off, f :: fs => match flat P k f.type with
    | some l => if f.offset = off ∧ P.cellsOf f.type = l.length then (flatFs P k (off + l.length) fs).map (l ++ ·) else none
    | none => none
end
section
variable {H : Type} {enc : TypeId × Value → H} {P : Program} {w : World} {base : Nat} {spare : Nat → Bool} {held : Bool}
/-- every cell at its leaf -/
def Leaves (enc : TypeId × Value → H) (P : Program) (w : World) (base : Nat) (spare : Nat → Bool) (held : Bool) (l : List TypeId) (cs : List Value) : Prop :=
  ∀ (i : Nat) (ty : TypeId), l[i]? = some ty → ∃ n y u, cs[i]? = some u ∧ DataW.trod enc P w base spare held n ty [u] = some y
theorem leaves_append {l1 l2 : List TypeId} {cs : List Value} (h1 : Leaves enc P w base spare held l1 (cs.take l1.length)) (h2 : Leaves enc P w base spare held l2 (cs.drop l1.length)) : Leaves enc P w base spare held (l1 ++ l2) cs := by
  intro i ty hi
  by_cases h : i < l1.length
  · rw [List.getElem?_append_left h] at hi
    obtain ⟨n, y, u, hu, hy⟩ := h1 i ty hi
    rw [List.getElem?_take, if_pos h] at hu
    exact ⟨n, y, u, hu, hy⟩
  · rw [List.getElem?_append_right (by omega)] at hi
    obtain ⟨n, y, u, hu, hy⟩ := h2 _ ty hi
    rw [List.getElem?_drop, show l1.length + (i - l1.length) = i by omega] at hu
    exact ⟨n, y, u, hu, hy⟩
theorem leaves_rep {l : List TypeId} : ∀ (n : Nat) (cs : List Value), (∀ i, i < n → Leaves enc P w base spare held l ((cs.drop (i * l.length)).take l.length)) → Leaves enc P w base spare held ((List.replicate n l).flatten) cs
  | 0, cs, _ => by intro i ty hi; simp at hi
  | n + 1, cs, h => by
    rw [List.replicate_succ, List.flatten_cons]
    refine leaves_append (by have := h 0 (by omega); simpa using this) (leaves_rep n _ fun i hi => ?_)
    have := h (i + 1) (by omega)
    rw [List.drop_drop]
    rwa [show (i + 1) * l.length = l.length + i * l.length by rw [Nat.add_mul, Nat.one_mul, Nat.add_comm]] at this
mutual
theorem flat_trod : ∀ (k : Nat) (t : TypeId) (l : List TypeId) (fuel : Nat) (cs : List Value) (x : DataW H × List MemPlace), flat P k t = some l → cs.length = l.length → DataW.trod enc P w base spare held fuel t cs = some x → Leaves enc P w base spare held l cs
  | 0, t, l, fuel, cs, x, hf, _, _ => by simp [flat] at hf
  | k + 1, t, l, fuel, cs, x, hf, hl, h => by
    unfold flat at hf
    cases hu : P.underlying t with
    | none => rw [hu] at hf; cases hf
    | some d =>
      rw [hu] at hf
      have leaf : some [t] = some l → Leaves enc P w base spare held l cs := by
        intro hf
        injection hf with hf
        subst hf
        intro i ty hi
        cases i with
        | succ i => simp at hi
        | zero =>
          simp at hi
          subst hi
          rcases cs with _ | ⟨u, _ | ⟨v, cs⟩⟩
          · simp at hl
          · exact ⟨fuel, x, u, rfl, h⟩
          · simp at hl
      cases d with
      | struct fs =>
        dsimp only at hf
        obtain ⟨xs, n, -, -, hlen, hxl, hfs⟩ := DataW.trod_struct hu h
        refine flatFs_trod k 0 fs.toList l n cs hf (by simpa using hl) (fun i f hi => ?_)
        have h1 := hfs i f (by simpa using hi)
        have hlt : i < xs.length := by
          rw [hxl]
          have := (List.getElem?_eq_some_iff.1 hi).1
          simpa using this
        exact ⟨n, xs[i], by rw [h1, List.getElem?_eq_getElem hlt]⟩
      | array n e =>
        dsimp only at hf
        cases hfe : flat P k e with
        | none => rw [hfe] at hf; cases hf
        | some le =>
          rw [hfe] at hf
          dsimp only at hf
          split at hf
          · rename_i hc
            injection hf with hf
            subst hf
            obtain ⟨xs, m, -, -, hlen, hxl, hel⟩ := DataW.trod_array hu h
            rw [hc] at hel
            refine leaves_rep n cs fun i hi => ?_
            have h1 := hel i hi
            refine flat_trod k e le m _ (xs[i]'(by omega)) hfe ?_ (by rw [h1, List.getElem?_eq_getElem (by omega)])
            have hl2 : cs.length = n * le.length := by
              rw [hl]; simp [List.length_flatten]
            rw [List.length_take, List.length_drop, hl2]
            have : (i + 1) * le.length ≤ n * le.length := Nat.mul_le_mul_right _ hi
            rw [Nat.add_mul, Nat.one_mul] at this
            omega
          · cases hf
      | _ => exact leaf hf
theorem flatFs_trod : ∀ (k off : Nat) (fs : List Field) (l : List TypeId) (n : Nat) (cs : List Value), flatFs P k off fs = some l → cs.length = off + l.length → (∀ (i : Nat) (f : Field), fs[i]? = some f → ∃ n y, DataW.trod enc P w base spare held n f.type ((cs.drop f.offset).take (P.cellsOf f.type)) = some y) → Leaves enc P w base spare held l (cs.drop off)
  | k, off, [], l, n, cs, hf, hl, h => by
    unfold flatFs at hf
    injection hf with hf
    subst hf
    intro i ty hi; simp at hi
  | 0, off, f :: fs, l, n, cs, hf, hl, h => by simp [flatFs] at hf
  | k + 1, off, f :: fs, l, n, cs, hf, hl, h => by
    unfold flatFs at hf
    cases hfe : flat P k f.type with
    | none => rw [hfe] at hf; cases hf
    | some lf =>
      rw [hfe] at hf
      dsimp only at hf
      split at hf
      · rename_i hc
        obtain ⟨ho, hc⟩ := hc
        cases hr : flatFs P k (off + lf.length) fs with
        | none => rw [hr] at hf; cases hf
        | some lr =>
          rw [hr] at hf
          simp at hf
          subst hf
          simp at hl
          obtain ⟨n1, y, hy⟩ := h 0 f rfl
          rw [ho, hc] at hy
          refine leaves_append ?_ ?_
          · exact flat_trod k f.type lf n1 _ y hfe (by rw [List.length_take, List.length_drop]; omega) hy
          · rw [List.drop_drop]
            exact flatFs_trod k (off + lf.length) fs lr n cs hr (by omega) (fun i g hi => h (i + 1) g (by simpa using hi))
      · cases hf
end
/-- a slice of structs at a cell: where it lies, and its cells' leaves -/
theorem open_cells {t e : TypeId} {l : List TypeId} {fuel k : Nat} {v : Value} {x : DataW H × List MemPlace} (ht : P.underlying t = some (.slice e)) (hk : flat P k e = some l) (hc : P.cellsOf e = l.length) (h0 : 0 < l.length)
    (h : DataW.trod enc P w base spare held fuel t [v] = some x) :
    ∃ (p : Option Addr) (b o len cap : Nat), v = .slice p len cap ∧ (0 < len → p = some ⟨b, o, none⟩) ∧
      ∀ j, j < len → ∀ (i : Nat) (ty : TypeId), l[i]? = some ty → ∃ n y u, w.cell? ⟨b, o + j * l.length + i, none⟩ = some u ∧ DataW.trod enc P w base spare held n ty [u] = some y := by
  rcases open_slice ht h with ⟨hcs, hx⟩ | ⟨a, len, cap, m, n, D, Pl, hcs, hb, hl, hm, hmm, hx, hi⟩
  · injection hcs with hcs _
    subst hcs
    exact ⟨none, 0, 0, 0, 0, rfl, fun h => by omega, fun j hj => by omega⟩
  · injection hcs with hcs _
    subst hcs
    have key : ∀ j, j < len → ∀ (i : Nat) (ty : TypeId), l[i]? = some ty → ∃ n y u, w.cell? ((a.add (j * l.length)).add i) = some u ∧ DataW.trod enc P w base spare held n ty [u] = some y := by
      intro j hj i ty hty
      obtain ⟨cs', hcc, ht'⟩ := hi j (by rw [hmm]; split <;> omega)
      rw [hc] at hcc
      obtain ⟨_, hcl, hat⟩ := World.cells?_some hcc
      obtain ⟨n', y, u, hu, hy⟩ := flat_trod k e l n cs' _ hk hcl ht' i ty hty
      exact ⟨n', y, u, by rw [hat i (List.getElem?_eq_some_iff.1 hty).1]; exact hu, hy⟩
    by_cases hlen : 0 < len
    · obtain ⟨ty, hty⟩ : ∃ ty, l[0]? = some ty := ⟨_, List.getElem?_eq_getElem h0⟩
      obtain ⟨_, _, u, q, _⟩ := key 0 hlen 0 ty hty
      have hs := no_spot q
      obtain ⟨ab, ao, asp⟩ := a
      have : asp = none := by
        unfold Addr.add at hs
        cases asp with
        | none => rfl
        | some x => revert hs; simp
      subst this
      refine ⟨_, ab, ao, len, cap, rfl, fun _ => rfl, fun j hj i ty hty => ?_⟩
      have := key j hj i ty hty
      simpa only [addr_none] using this
    · exact ⟨_, 0, 0, len, cap, rfl, fun h => absurd h hlen, fun j hj => by omega⟩
theorem leaf_u32 {t : TypeId} {fuel : Nat} {v : Value} {x : DataW H × List MemPlace} (ht : P.underlying t = some (.int .u32)) (h : DataW.trod enc P w base spare held fuel t [v] = some x) : ∃ n : Nat, v = .int .u32 (n : Int) ∧ n < 4294967296 := by
  obtain ⟨i, hi, -, hw⟩ := DataW.trod_int ht h
  injection hi with hi _
  have hb := wf_u32 hw
  obtain ⟨n, rfl⟩ := Int.eq_ofNat_of_zero_le hb.1
  exact ⟨n, hi, by omega⟩
theorem leaf_u8 {t : TypeId} {fuel : Nat} {v : Value} {x : DataW H × List MemPlace} (ht : P.underlying t = some (.int .u8)) (h : DataW.trod enc P w base spare held fuel t [v] = some x) : ∃ n : Nat, v = .int .u8 (n : Int) ∧ n < 256 := by
  obtain ⟨i, hi, -, hw⟩ := DataW.trod_int ht h
  injection hi with hi _
  have hb := wf_u8 hw
  obtain ⟨n, rfl⟩ := Int.eq_ofNat_of_zero_le hb.1
  exact ⟨n, hi, by omega⟩
theorem leaf_i64 {t : TypeId} {fuel : Nat} {v : Value} {x : DataW H × List MemPlace} (ht : P.underlying t = some (.int .i64)) (h : DataW.trod enc P w base spare held fuel t [v] = some x) : ∃ i : Int, v = .int .i64 i ∧ -9223372036854775808 ≤ i ∧ i < 9223372036854775808 := by
  obtain ⟨i, hi, -, hw⟩ := DataW.trod_int ht h
  injection hi with hi _
  exact ⟨i, hi, wf_i64 hw⟩
/-- a slice argument of a law -/
theorem open_cellsW {t e : TypeId} {l : List TypeId} {k : Nat} {v : Value} {d : DataW H} {ps : List MemPlace} (ht : P.underlying t = some (.slice e)) (hk : flat P k e = some l) (hc : P.cellsOf e = l.length) (h0 : 0 < l.length)
    (hv : Value.okWide P w .any base t v) (h : DataW.Trod enc P w 0 (fun _ => true) true t v d ps) :
    ∃ (p : Option Addr) (b o len cap : Nat), v = .slice p len cap ∧ (0 < len → p = some ⟨b, o, none⟩) ∧
      ∀ j, j < len → ∀ (i : Nat) (ty : TypeId), l[i]? = some ty → ∃ n y u, w.cell? ⟨b, o + j * l.length + i, none⟩ = some u ∧ DataW.trod enc P w 0 (fun _ => true) true n ty [u] = some y := by
  obtain ⟨p, len, cap, rfl⟩ := okWide_slice ht hv
  obtain ⟨fuel, hf⟩ := h
  simp only [Value.cells] at hf
  obtain ⟨p', b, o, len', cap', hv', hp, hcs⟩ := open_cells ht hk hc h0 hf
  exact ⟨p', b, o, len', cap', hv', hp, hcs⟩
/-- a struct argument of a law -/
theorem open_aggW {t : TypeId} {fs : Array Field} {l : List TypeId} {k : Nat} {v : Value} {d : DataW H} {ps : List MemPlace} (ht : P.underlying t = some (.struct fs)) (hk : flat P k t = some l) (hc : P.cellsOf t = l.length)
    (hv : Value.okWide P w .any base t v) (h : DataW.Trod enc P w 0 (fun _ => true) true t v d ps) :
    ∃ cs : Array Value, v = .agg cs ∧ cs.size = l.length ∧ Leaves enc P w 0 (fun _ => true) true l cs.toList := by
  obtain ⟨cs, rfl, hs⟩ := okWide_struct ht hv
  obtain ⟨fuel, hf⟩ := h
  simp only [Value.cells] at hf
  exact ⟨cs, rfl, by omega, flat_trod k t l fuel _ _ hk (by simp; omega) hf⟩
end
end Go.Proofs.L

open Go Go.RowKit Go.Lib Go.ChangeShapes Go.WideShapes
namespace Go.Proofs.L
/-! the law's argument: a Job -/
theorem flat26 : flat Try.prog 10 26 = some [22, 22, 23, 24, 3] := by kernel_rfl
theorem flat24 : flat Try.prog 10 24 = some [24] := by kernel_rfl
theorem flat32 : flat Try.prog 10 32 = some [24, 3, 3, 24] := by kernel_rfl
theorem cells26 : Try.prog.cellsOf 26 = 5 := by kernel_rfl
theorem cells24 : Try.prog.cellsOf 24 = 1 := by kernel_rfl
theorem cells32 : Try.prog.cellsOf 32 = 4 := by kernel_rfl
theorem arr5 {α : Type} (cs : Array α) (h : cs.size = 5) {a b c d e : α} (h0 : cs.toList[0]? = some a) (h1 : cs.toList[1]? = some b) (h2 : cs.toList[2]? = some c) (h3 : cs.toList[3]? = some d) (h4 : cs.toList[4]? = some e) : cs = #[a, b, c, d, e] := by
  obtain ⟨l⟩ := cs
  simp only [List.size_toArray] at h
  match l, h with
  | [p, q, r, s, t], _ => simp_all
theorem choose_list {α : Type} [Inhabited α] (n : Nat) (P : Nat → α → Prop) (h : ∀ j, j < n → ∃ a, P j a) : ∃ L : List α, L.length = n ∧ ∀ (j : Nat) (a : α), L[j]? = some a → P j a := by
  have hf : ∀ j, ∃ a, j < n → P j a := fun j => by
    by_cases hj : j < n
    · obtain ⟨a, ha⟩ := h j hj; exact ⟨a, fun _ => ha⟩
    · exact ⟨default, fun h => absurd h hj⟩
  refine ⟨(List.range n).map fun j => (hf j).choose, by simp, fun j a ha => ?_⟩
  rw [List.getElem?_map] at ha
  have hj : j < n := by
    rcases Nat.lt_or_ge j n with h | h
    · exact h
    · rw [List.getElem?_eq_none (by simp; omega)] at ha; cases ha
  rw [List.getElem?_range hj] at ha
  injection ha with ha
  subst ha
  exact (hf j).choose_spec hj
instance : Inhabited Rl := ⟨⟨0, 0, 0, 0⟩⟩
section
variable {H : Type} {enc : TypeId × Value → H} {W : World} {base : Nat} {v : Value} {d : DataW H} {ps : List MemPlace}
theorem open_u32s {fuel : Nat} {u : Value} {x : DataW H × List MemPlace} (h : DataW.trod enc Try.prog W 0 (fun _ => true) true fuel 22 [u] = some x) :
    ∃ (p : Option Addr) (b o n c : Nat) (L : List Nat), u = .slice p n c ∧ (0 < n → p = some ⟨b, o, none⟩) ∧ NatAt W .u32 b o L ∧ L.length = n := by
  obtain ⟨p, b, o, n, c, rfl, hp, hc⟩ := open_cells Try.underlying22 flat24 cells24 (by decide) h
  obtain ⟨L, hl, hL⟩ := choose_list n (fun j (x : Nat) => W.cell? ⟨b, o + j, none⟩ = some (.int .u32 (x : Int)) ∧ x < 4294967296) (fun k hk => by
    obtain ⟨_, _, u0, h0, t0⟩ := hc k hk 0 24 rfl
    obtain ⟨x0, rfl, l0⟩ := leaf_u32 Try.underlying24 t0
    exact ⟨x0, by simpa using h0, l0⟩)
  exact ⟨p, b, o, n, c, L, rfl, hp, fun j x hx => hL j x hx, hl⟩
theorem open_rlas {fuel : Nat} {u : Value} {x : DataW H × List MemPlace} (h : DataW.trod enc Try.prog W 0 (fun _ => true) true fuel 23 [u] = some x) :
    ∃ (p : Option Addr) (b o n c : Nat) (L : List Rl), u = .slice p n c ∧ (0 < n → p = some ⟨b, o, none⟩) ∧ RlsAt W b o L ∧ L.length = n := by
  obtain ⟨p, b, o, n, c, rfl, hp, hc⟩ := open_cells Try.underlying23 flat32 cells32 (by decide) h
  obtain ⟨L, hl, hL⟩ := choose_list n (fun j (r : Rl) => (∀ i u, (RlC r)[i]? = some u → W.cell? ⟨b, o + j * 4 + i, none⟩ = some u) ∧ r.at_ < 4294967296 ∧ r.add < 4294967296) (fun k hk => by
    obtain ⟨_, _, u0, h0, t0⟩ := hc k hk 0 24 rfl
    obtain ⟨_, _, u1, h1, t1⟩ := hc k hk 1 3 rfl
    obtain ⟨_, _, u2, h2, t2⟩ := hc k hk 2 3 rfl
    obtain ⟨_, _, u3, h3, t3⟩ := hc k hk 3 24 rfl
    obtain ⟨x0, rfl, l0⟩ := leaf_u32 Try.underlying24 t0
    obtain ⟨x1, rfl, -⟩ := leaf_i64 Try.underlying3 t1
    obtain ⟨x2, rfl, -⟩ := leaf_i64 Try.underlying3 t2
    obtain ⟨x3, rfl, l3⟩ := leaf_u32 Try.underlying24 t3
    refine ⟨⟨x0, x1, x2, x3⟩, fun i u hu => ?_, l0, l3⟩
    match i, hu with
    | 0, hu => obtain rfl := Option.some.inj hu; exact h0
    | 1, hu => obtain rfl := Option.some.inj hu; exact h1
    | 2, hu => obtain rfl := Option.some.inj hu; exact h2
    | 3, hu => obtain rfl := Option.some.inj hu; exact h3
    | i + 4, hu => simp [RlC] at hu)
  exact ⟨p, b, o, n, c, L, rfl, hp, fun j r hr => hL j r hr, hl⟩
theorem open_job (hv : Value.okWide Try.prog W .any base 26 v) (h : DataW.Trod enc Try.prog W 0 (fun _ => true) true 26 v d ps) :
    ∃ (j : Jb) (Ws : List Nat) (Rs : List Rl) (Ys : List Nat), v = .agg (jobA j) ∧ NatAt W .u32 j.bW j.oW Ws ∧ Ws.length = j.nW ∧ (0 < j.nW → j.pW = some ⟨j.bW, j.oW, none⟩) ∧ FileOk W j.v Rs Ys ∧ j.v.e = .int .u32 0 ∧ j.v.sg = .slice none 0 0 := by
  obtain ⟨cs, rfl, hs, hl⟩ := open_aggW Try.underlying26 flat26 cells26 hv h
  obtain ⟨_, _, u0, h0, t0⟩ := hl 0 22 rfl
  obtain ⟨_, _, u1, h1, t1⟩ := hl 1 22 rfl
  obtain ⟨_, _, u2, h2, t2⟩ := hl 2 23 rfl
  obtain ⟨_, _, u3, h3, t3⟩ := hl 3 24 rfl
  obtain ⟨_, _, u4, h4, t4⟩ := hl 4 3 rfl
  obtain ⟨p0, b0, o0, n0, c0, Ws, rfl, hp0, hW, hWn⟩ := open_u32s t0
  obtain ⟨p1, b1, o1, n1, c1, Ys, rfl, hp1, hY, hYn⟩ := open_u32s t1
  obtain ⟨p2, b2, o2, n2, c2, Rs, rfl, hp2, hR, hRn⟩ := open_rlas t2
  obtain ⟨m, rfl, -⟩ := leaf_u32 Try.underlying24 t3
  obtain ⟨sp, rfl, -⟩ := leaf_i64 Try.underlying3 t4
  exact ⟨⟨p0, b0, o0, n0, c0, ⟨.int .u32 0, .slice none 0 0, p2, b2, o2, n2, c2, p1, b1, o1, n1, c1, 0, none, 0, 0, 0, 0, .nilIface⟩, m, sp⟩, Ws, Rs, Ys, by rw [arr5 cs hs h0 h1 h2 h3 h4]; rfl, hW, hWn, hp0, ⟨hR, hRn, hp2, hY, hYn, hp1⟩, rfl, rfl⟩
end
end Go.Proofs.L
