/- Proved here: lemmas and contracts (Part) for the laws of this seat, for all values of the stated types; no further condition. -/
import Derived.Test.YtjbplncpcgfaoaaWin
import Derived.Test.YtjbplncpcgfaoaaRegT
open Go Go.RowKit
namespace Go.Proofs.L
/-! loads and stores of a part of a row: a struct or an array within a bigger block -/
theorem addr_add (b o j : Nat) : (⟨b, o, none⟩ : Addr).add j = ⟨b, o + j, none⟩ := by unfold Addr.add; split <;> simp_all
theorem aggT_isAgg {P : Program} {T n : Nat} (hT : aggT P T n) (w : World) : (isAgg T).run P w = .ok true w := by
  obtain ⟨d, h1, h2, h3⟩ := hT
  unfold isAgg
  rw [Sem.run_bind, run_underlying h1 w]
  cases d <;> first | rfl | cases h2
theorem aggT_size {P : Program} {T n : Nat} (hT : aggT P T n) (w : World) : (sizeOf T).run P w = .ok n w := by
  obtain ⟨d, h1, h2, h3⟩ := hT
  unfold sizeOf typeInfo
  cases hq : P.info? T with
  | none => simp [hq] at h3
  | some i => have : i.size = n := by simpa [hq] using h3
              simp [hq, this]
theorem loadVar_part {P : Program} {T n : Nat} (hT : aggT P T n) (b o : Nat) (cs : List Value) (w : World) (hl : cs.length = n) (h : ∀ j u, cs[j]? = some u → w.cell? ⟨b, o + j, none⟩ = some u) :
    (loadVar T ⟨b, o, none⟩).run P w = .ok (.agg cs.toArray) w := by
  have hl2 := run_loadCells_list (P := P) w ⟨b, o, none⟩ cs (fun j v hv => by rw [addr_add]; exact h j v hv)
  rw [hl] at hl2
  unfold loadVar
  rw [Sem.run_bind, aggT_isAgg hT]
  simp only [Result.andThen_ok, if_true]
  rw [Sem.run_bind, aggT_size hT]
  simp only [Result.andThen_ok, Sem.run_bind, hl2, Sem.run_pure]
theorem exec_load_part {P : Program} {T n : Nat} (hT : aggT P T n) {ρ : Operand → Value} {x : Operand} {b o : Nat} {cs : List Value} {w : World} (hx : ρ x = .pointer (some ⟨b, o, none⟩)) (hl : cs.length = n) (h : ∀ j u, cs[j]? = some u → w.cell? ⟨b, o + j, none⟩ = some u) (d t p af g) :
    Sem.run P (execOp ρ { dst := d, op := .load T x, type := t, pos := p, after := af, guard := g }) w = .ok (.value (.agg cs.toArray)) w := by
  have e : (Instr.loadAt T (.pointer (some ⟨b, o, none⟩))).run P w = .ok (.agg cs.toArray) w := by
    rw [← loadVar_part hT b o cs w hl h]; simp [Instr.loadAt, Instr.sureAddr]
  simp [execOp, hx, e]
theorem exec_store_part {P : Program} {T n : Nat} (hT : aggT P T n) {ρ : Operand → Value} {x y : Operand} {b o : Nat} {vs : Array Value} {w : World} (hx : ρ x = .pointer (some ⟨b, o, none⟩)) (hy : ρ y = .agg vs) (hl : vs.size = n)
    (hc : ∀ j, j < n → (w.cell? ⟨b, o + j, none⟩).isSome = true) (hf : ∀ j, j < n → w.frozen? ⟨b, o + j, none⟩ = false) (h1 : allOne vs = true) (d t p af g) :
    Sem.run P (execOp ρ { dst := d, op := .store T x y, type := t, pos := p, after := af, guard := g }) w = .ok .skip (w.setCells b o vs.toList) := by
  have hst := run_storeCells_cells (P := P) b o vs.toList 0 w (fun j hj => by rw [Nat.add_zero]; exact hc j (by simpa [hl] using hj)) (fun j hj => by rw [Nat.add_zero]; exact hf j (by simpa [hl] using hj)) (fun v hv => by
    unfold allOne at h1; exact (List.all_eq_true.1 h1) v hv)
  have e : (Instr.storeAt T (.pointer (some ⟨b, o, none⟩)) (.agg vs)).run P w = .ok () (w.setCells b o vs.toList) := by
    simp [Instr.storeAt, Instr.sureAddr, storeVar, Sem.run_bind, aggT_size hT, Value.cells, hl]
    simpa using hst
  simp [execOp, hx, hy, e]
theorem wpList_load_part {P : Program} {ops : Array Oper} {rest : List Oper} {o : Oper} {a : Act} {Q : Exit → Act → World → Prop} {w : World} {T n b f : Nat} (hT : aggT P T n) (cs : List Value) (hg : o.guard = none) (x : Operand) (ho : o.op = .load T x)
    (hx : a.eval x = .pointer (some ⟨b, f, none⟩)) (hl : cs.length = n) (h : ∀ j u, cs[j]? = some u → w.cell? ⟨b, f + j, none⟩ = some u)
    (hr : wpList P ops Q rest (a.put o.dst (.agg cs.toArray)) w) : wpList P ops Q (o :: rest) a w :=
  wpList_plain hg fun K hK => by
    obtain ⟨d, op, t, p, af, g⟩ := o
    simp only at ho hg
    subst ho hg
    unfold Oper.wp
    rw [exec_load_part hT hx hl h]
    exact hK _ _ hr
theorem wpList_store_part {P : Program} {ops : Array Oper} {rest : List Oper} {o : Oper} {a : Act} {Q : Exit → Act → World → Prop} {w : World} {T n b f : Nat} (hT : aggT P T n) (vs : Array Value) (hg : o.guard = none) (hd : o.dst = none) (x y : Operand) (ho : o.op = .store T x y)
    (hx : a.eval x = .pointer (some ⟨b, f, none⟩)) (hy : a.eval y = .agg vs) (hl : vs.size = n) (hc : ∀ j, j < n → (w.cell? ⟨b, f + j, none⟩).isSome = true) (hf : ∀ j, j < n → w.frozen? ⟨b, f + j, none⟩ = false) (h1 : allOne vs = true)
    (hr : wpList P ops Q rest a (w.setCells b f vs.toList)) : wpList P ops Q (o :: rest) a w :=
  wpList_plain hg fun K hK => by
    obtain ⟨d, op, t, p, af, g⟩ := o
    simp only at ho hg hd
    subst ho hg hd
    unfold Oper.wp
    rw [exec_store_part hT hx hy hl hc hf h1]
    exact hK _ _ hr
theorem win_setCells {w : World} {sz n cap g f : Nat} {xs : List Value} (h : Win w sz (.slice (some ⟨g, f, none⟩) n cap) n xs) (k : Nat) (vs : List Value) (hk : k + vs.length ≤ n * sz) :
    Win (w.setCells g (f + k) vs) sz (.slice (some ⟨g, f, none⟩) n cap) n (xs.take k ++ vs ++ xs.drop (k + vs.length)) := by
  have hxl := h.1
  rcases h.2 with ⟨h0, _⟩ | ⟨g', o', cap', he, hcap, hg, h1, h2⟩
  · cases h0
  · injection he with e1 e2 e3
    injection e1 with e1
    injection e1 with e1 e4
    subst e1 e4 e3
    have hle : n * sz ≤ cap * sz := Nat.mul_le_mul_right _ hcap
    refine ⟨by simp; omega, .inr ⟨g, f, cap, rfl, hcap, Nat.lt_of_lt_of_le hg (chg_setCells g vs (f + k) w).size, fun j u hu => ?_, fun j hj => ?_⟩⟩
    · by_cases hin : k ≤ j ∧ j < k + vs.length
      · have h3 := World.cell?_setCells_in g vs (f + k) w (fun i hi => by have := (h2 (k + i) (by omega)).1; rwa [← Nat.add_assoc] at this) (j - k) (by omega)
        rw [show f + k + (j - k) = f + j by omega] at h3
        rw [h3, ← hu, List.getElem?_append_left (by simp; omega), List.getElem?_append_right (by simp; omega), List.length_take, Nat.min_eq_left (by omega), List.getElem?_eq_getElem (by omega)]
      · rw [World.cell?_setCells_out g vs _ w _ (fun _ _ => by simp; omega)]
        refine h1 j u ?_
        rw [← hu]
        by_cases hj : j < k
        · rw [List.getElem?_append_left (by simp; omega), List.getElem?_append_left (by simp; omega), List.getElem?_take]
          simp [hj]
        · rw [List.getElem?_append_right (by simp; omega), List.getElem?_drop]
          congr 1; simp; omega
    · rw [World.frozen?_setCells]
      refine ⟨?_, (h2 j hj).2⟩
      by_cases hin : k ≤ j ∧ j < k + vs.length
      · have h3 := World.cell?_setCells_in g vs (f + k) w (fun i hi => by have := (h2 (k + i) (by omega)).1; rwa [← Nat.add_assoc] at this) (j - k) (by omega)
        rw [show f + k + (j - k) = f + j by omega] at h3
        rw [h3]; rfl
      · rw [World.cell?_setCells_out g vs _ w _ (fun _ _ => by simp; omega)]
        exact (h2 j hj).1
theorem win_setCell {w : World} {sz n cap g f : Nat} {xs : List Value} (h : Win w sz (.slice (some ⟨g, f, none⟩) n cap) n xs) (k : Nat) (v : Value) (hk : k < n * sz) :
    Win (w.setCell ⟨g, f + k, none⟩ v) sz (.slice (some ⟨g, f, none⟩) n cap) n (xs.set k v) := by
  have := win_setCells h k [v] (by simp; omega)
  simp only [World.setCells, List.length_singleton] at this
  rw [List.set_eq_take_append_cons_drop, if_pos (by rw [h.1]; exact hk)]
  simpa using this
theorem Win.cell {w : World} {sz n cap g f : Nat} {xs : List Value} (h : Win w sz (.slice (some ⟨g, f, none⟩) n cap) n xs) (j : Nat) (u : Value) (hu : xs[j]? = some u) : w.cell? ⟨g, f + j, none⟩ = some u := by
  rcases h.2 with ⟨h0, _⟩ | ⟨g', o', cap', he, hcap, hg, h1, h2⟩
  · cases h0
  · injection he with e1 e2 e3
    injection e1 with e1
    injection e1 with e1 e4
    subst e1 e4 e3
    exact h1 j u hu
theorem Win.room {w : World} {sz n cap g f : Nat} {xs : List Value} (h : Win w sz (.slice (some ⟨g, f, none⟩) n cap) n xs) (j : Nat) (hj : j < n * sz) : (w.cell? ⟨g, f + j, none⟩).isSome = true ∧ w.frozen? ⟨g, f + j, none⟩ = false := by
  rcases h.2 with ⟨h0, _⟩ | ⟨g', o', cap', he, hcap, hg, h1, h2⟩
  · cases h0
  · injection he with e1 e2 e3
    injection e1 with e1
    injection e1 with e1 e4
    subst e1 e4 e3
    exact h2 j (Nat.lt_of_lt_of_le hj (Nat.mul_le_mul_right _ hcap))
end Go.Proofs.L
namespace Go.Proofs.L
open Go Go.RowKit
theorem exec_store_new {P : Program} {T n : Nat} (hT : aggT P T n) {ρ : Operand → Value} {x y : Operand} {c vs : Array Value} {t' : TypeId} {w : World} (hx : ρ x = .pointer (some ⟨w.heap.size, 0, none⟩)) (hy : ρ y = .agg vs) (hc : c.size = n) (hl : vs.size = n) (h1 : allOne vs = true) (d t p af g) :
    Sem.run P (execOp ρ { dst := d, op := .store T x y, type := t, pos := p, after := af, guard := g }) (w.alloc (.cells c t')) = .ok .skip (w.alloc (.cells vs t')) := by
  rw [exec_store_row hT, hx, hy]
  show (storeR P n T _ _ vs ((w.alloc (.cells c t')).row? w.heap.size)).andThen _ = _
  rw [row_alloc_at _ _ _ _ rfl, storeR_some P n T _ _ vs c hc hl h1, setRow_alloc_at _ _ _ _ _ rfl]
  rfl
theorem wpList_store_new {P : Program} {ops : Array Oper} {rest : List Oper} {o : Oper} {a : Act} {Q : Exit → Act → World → Prop} {w : World} {T n : Nat} {t' : TypeId} (hT : aggT P T n) {c vs : Array Value} (x y : Operand) (ho : o.op = .store T x y) (hg : o.guard = none) (hd : o.dst = none)
    (hx : a.eval x = .pointer (some ⟨w.heap.size, 0, none⟩)) (hy : a.eval y = .agg vs) (hc : c.size = n) (hl : vs.size = n) (h1 : allOne vs = true)
    (hr : wpList P ops Q rest a (w.alloc (.cells vs t'))) : wpList P ops Q (o :: rest) a (w.alloc (.cells c t')) :=
  wpList_plain hg fun K hK => by
    obtain ⟨d, op, t, p, af, g⟩ := o
    simp only at ho hg hd
    subst ho hg hd
    unfold Oper.wp
    rw [exec_store_new hT hx hy hc hl h1]
    exact hK _ _ hr
end Go.Proofs.L
namespace Go.Proofs.L
open Go Go.RowKit
theorem wpT_load_part {P : Program} {Q : Exit → Act → World → Prop} {ops : Array Oper} {S : World → Prop} {r : List (Nat × Nat)} {a : Act} {w : World} {i : Nat} {o : Oper} {T n b f : Nat} (hT : aggT P T n) (cs : List Value) (d : Option Tmp) (x : Operand)
    (ho : ops[i]? = some o) (hd : o.dst = d) (hop : o.op = .load T x) (hw : Region.wanted o (yielded ops a.tmps) = true) (hx : a.eval x = .pointer (some ⟨b, f, none⟩)) (hl : cs.length = n)
    (h : ∀ w', S w' → ∀ j u, cs[j]? = some u → w'.cell? ⟨b, f + j, none⟩ = some u) (hr : wpT P ops Q S r (a.put d (.agg cs.toArray)) w) : wpT P ops Q S ((i, 1) :: r) a w := by
  refine wpT_readD d ho hd hw (fun w' hS => ?_) hr
  obtain ⟨d', op, t, p, af, g⟩ := o
  simp only at hop
  subst hop
  exact exec_load_part hT hx hl (h w' hS) _ _ _ _ _
end Go.Proofs.L
namespace Go.Proofs.L
open Go Go.RowKit
theorem wpList_store_row {P : Program} {ops : Array Oper} {rest : List Oper} {o : Oper} {a : Act} {Q : Exit → Act → World → Prop} {w : World} {T n b : Nat} (hT : aggT P T n) {cs vs : Array Value} (x y : Operand) (ho : o.op = .store T x y) (hg : o.guard = none) (hd : o.dst = none)
    (hx : a.eval x = .pointer (some ⟨b, 0, none⟩)) (hy : a.eval y = .agg vs) (hr : w.row? b = some cs) (hc : cs.size = n) (hl : vs.size = n) (h1 : allOne vs = true)
    (h : wpList P ops Q rest a (w.setRow b vs)) : wpList P ops Q (o :: rest) a w :=
  wpList_plain hg fun K hK => by
    obtain ⟨d, op, t, p, af, g⟩ := o
    simp only at ho hg hd
    subst ho hg hd
    unfold Oper.wp
    have e : Sem.run P (execOp a.eval { dst := none, op := .store T x y, type := t, pos := p, after := af, guard := none }) w = .ok .skip (w.setRow b vs) := by
      rw [exec_store_row hT, hx, hy]
      show (storeR P n T _ _ vs (w.row? b)).andThen _ = _
      rw [hr, storeR_some P n T _ _ vs cs hc hl h1]
      rfl
    rw [e]
    exact hK _ _ h
end Go.Proofs.L
