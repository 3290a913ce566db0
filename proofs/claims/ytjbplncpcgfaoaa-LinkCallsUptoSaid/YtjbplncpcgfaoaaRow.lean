/- Proved here: lemmas and contracts (Row) for the laws of this seat, for all values of the stated types; no further condition. -/
import Derived.WalkKit
import Derived.LoopTactic
import Derived.WalkSpells
import Derived.WalkLawsBesides
import Derived.Deep.QuietTactic
import Derived.BigQuiet
import Derived.Outline
import Derived.ChangeAlike
import Derived.RegionTactic
import Derived.Laws.CopyRow
namespace Go
open Go.RowKit
/-- the cells of block b, where it is an unfrozen row of cells -/
def World.row? (w : World) (b : Nat) : Option (Array Value) :=
  match w.heap[b]? with
  | some (.cells c _ (0, 0)) => some c
  | _ => none
theorem row_iff {w : World} {b : Nat} {cs : Array Value} : w.row? b = some cs ↔ ∃ t, w.heap[b]? = some (.cells cs t (0, 0)) := by
  unfold World.row?
  constructor
  · intro h
    split at h
    · rename_i c t hc; cases h; exact ⟨t, hc⟩
    · cases h
  · rintro ⟨t, h⟩; rw [h]; rfl
theorem row_lt {w : World} {b : Nat} {cs : Array Value} (h : w.row? b = some cs) : b < w.heap.size := by
  obtain ⟨t, h⟩ := row_iff.1 h
  by_cases hb : b < w.heap.size
  · exact hb
  · simp [Array.getElem?_eq_none (Nat.le_of_not_lt hb)] at h
theorem row_cell {w : World} {b : Nat} {cs : Array Value} (h : w.row? b = some cs) (i : Nat) : w.cell? ⟨b, i, none⟩ = cs[i]? := by
  obtain ⟨t, h⟩ := row_iff.1 h
  simp [World.cell?, h]
theorem row_free {w : World} {b : Nat} {cs : Array Value} (h : w.row? b = some cs) (i : Nat) : w.frozen? ⟨b, i, none⟩ = false := by
  obtain ⟨t, h⟩ := row_iff.1 h
  simp [World.frozen?, h]
@[go_sem] theorem row_drew (w : World) (b : Nat) : w.drew.row? b = w.row? b := rfl
@[go_sem] theorem row_alloc_at (w : World) (c : Array Value) (t : TypeId) (n : Nat) (hn : n = w.heap.size) : (w.alloc (.cells c t)).row? n = some c := by
  subst hn; unfold World.row? World.alloc; simp
@[go_sem] theorem row_alloc_past (w : World) (o : Obj) (n : Nat) (hn : n < w.heap.size) : (w.alloc o).row? n = w.row? n := by
  unfold World.row?; rw [Below.heap_alloc w o n hn]
theorem row_setCell_same (w : World) (b i : Nat) (v : Value) : (w.setCell ⟨b, i, none⟩ v).row? b = (w.row? b).map (·.setIfInBounds i v) := by
  unfold World.row? World.setCell
  simp only [Array.getElem?_modify, ↓reduceIte]
  cases w.heap[b]? with
  | none => simp
  | some o =>
    cases o <;> simp
    rename_i f
    obtain ⟨x, y⟩ := f
    cases x <;> cases y <;> simp
theorem row_setCell_other (w : World) (a : Addr) (b : Nat) (v : Value) (h : b ≠ a.block) : (w.setCell a v).row? b = w.row? b := by
  unfold World.row?; rw [Below.heap_setCell w a v b h]
@[go_sem] theorem row_setCell (w : World) (b i b' : Nat) (v : Value) : (w.setCell ⟨b, i, none⟩ v).row? b' = if b' = b then (w.row? b').map (·.setIfInBounds i v) else w.row? b' := by
  split
  · rename_i h; subst h; exact row_setCell_same w b' i v
  · rename_i h; exact row_setCell_other w _ b' v h
@[go_sem] theorem row_setRow (w : World) (b b' : Nat) (cs : Array Value) : (w.setRow b cs).row? b' = if b' = b then (w.row? b').map (fun _ => cs) else w.row? b' := by
  split
  · rename_i h; subst h
    unfold World.row? World.setRow
    simp only [Array.getElem?_modify, ↓reduceIte]
    cases w.heap[b']? with
    | none => simp
    | some o =>
      cases o <;> simp
      rename_i f
      obtain ⟨x, y⟩ := f
      cases x <;> cases y <;> simp
  · rename_i h
    unfold World.row?; rw [setRow_other w b b' cs h]
theorem row_below {n : Nat} {w w' : World} (h : Below n w w') (b : Nat) (hb : b < n) : w'.row? b = w.row? b := by
  unfold World.row?; rw [h.block b hb]
theorem row_drewN (w : World) (k b : Nat) : (w.drewN k).row? b = w.row? b := by
  induction k generalizing w with
  | zero => rfl
  | succ k ih => exact ih w.drew
attribute [go_sem] row_drewN
/-- what a load of a whole row comes to -/
def loadR (P : Program) (n : Nat) (T : TypeId) (w : World) (b : Nat) : Option (Array Value) → Result Value
  | some cs => if cs.size = n then .ok (.agg cs) w else (loadVar T ⟨b, 0, none⟩).run P w
  | none => (loadVar T ⟨b, 0, none⟩).run P w
theorem loadR_some (P : Program) (n T w b cs) (h : cs.size = n) : loadR P n T w b (some cs) = .ok (.agg cs) w := by simp [loadR, h]
def aggD : TypeDesc → Bool
  | .struct _ | .array _ _ => true
  | _ => false
def aggT (P : Program) (T n : Nat) : Prop := ∃ d, P.underlying T = some d ∧ aggD d = true ∧ (P.info? T).map (·.size) = some n
def aggB (P : Program) (T n : Nat) : Bool := match P.underlying T with
  | some d => aggD d && (P.info? T).map (·.size) == some n
  | none => false
theorem aggT_of {P : Program} {T n : Nat} (h : aggB P T n = true) : aggT P T n := by
  unfold aggB at h
  split at h
  · rename_i d hd; simp at h; exact ⟨d, hd, h.1, by simpa using h.2⟩
  · cases h
theorem loadVar_row {P : Program} {T n : Nat} (hT : aggT P T n) (b : Nat) (w : World) : (loadVar T ⟨b, 0, none⟩).run P w = loadR P n T w b (w.row? b) := by
  obtain ⟨d, h1, h2, h3⟩ := hT
  cases hr : w.row? b with
  | none => rfl
  | some cs =>
    unfold loadR
    dsimp only
    split
    · rename_i hs
      obtain ⟨t, ht⟩ := row_iff.1 hr
      exact run_loadVar_row w b t T cs (0, 0) d ht h1 (by cases d <;> first | rfl | cases h2) (by rw [h3, hs])
    · rfl
theorem loadAt_row {P : Program} {T n : Nat} (hT : aggT P T n) (b : Nat) (w : World) : (Instr.loadAt T (.pointer (some ⟨b, 0, none⟩))).run P w = loadR P n T w b (w.row? b) := by
  rw [← loadVar_row hT]
  simp [Instr.loadAt, Instr.sureAddr]
def allOne (vs : Array Value) : Bool := vs.toList.all Value.oneCell'
/-- what a store of a whole row comes to -/
def storeR (P : Program) (n : Nat) (T : TypeId) (w : World) (b : Nat) (vs : Array Value) : Option (Array Value) → Result Unit
  | some cs => if cs.size = n ∧ vs.size = n ∧ allOne vs = true then .ok () (w.setRow b vs) else (storeVar T ⟨b, 0, none⟩ (.agg vs)).run P w
  | none => (storeVar T ⟨b, 0, none⟩ (.agg vs)).run P w
theorem storeR_some (P : Program) (n T w b vs cs) (h : cs.size = n) (h' : vs.size = n) (h1 : allOne vs = true) : storeR P n T w b vs (some cs) = .ok () (w.setRow b vs) := by simp [storeR, h, h', h1]
theorem storeVar_row {P : Program} {T n : Nat} (hT : aggT P T n) (b : Nat) (vs : Array Value) (w : World) :
    (storeVar T ⟨b, 0, none⟩ (.agg vs)).run P w = storeR P n T w b vs (w.row? b) := by
  obtain ⟨d, h1, h2, h3⟩ := hT
  cases hr : w.row? b with
  | none => rfl
  | some cs =>
    unfold storeR
    dsimp only
    split
    · rename_i hs
      obtain ⟨hs1, hs2, hs3⟩ := hs
      obtain ⟨t, ht⟩ := row_iff.1 hr
      have hst := run_storeCells_at P b 0 t vs.toList 0 cs w ht (by simp; omega) (by intro v hv; exact (List.all_eq_true.1 hs3) v hv)
      cases hq : P.info? T with
      | none => simp [hq] at h3
      | some i =>
        have hsz : i.size = n := by simpa [hq] using h3
        have e : (cs.toList.take (0 + 0) ++ vs.toList ++ cs.toList.drop (0 + 0 + vs.toList.length)).toArray = vs := by
          simp [List.drop_eq_nil_of_le, hs1, hs2]
        rw [e] at hst
        simp [storeVar, sizeOf, typeInfo, hq, hsz, Value.cells, hs2, Sem.run_bind, hst]
    · rfl
theorem storeAt_row {P : Program} {T n : Nat} (hT : aggT P T n) (b : Nat) (vs : Array Value) (w : World) :
    (Instr.storeAt T (.pointer (some ⟨b, 0, none⟩)) (.agg vs)).run P w = storeR P n T w b vs (w.row? b) := by
  rw [← storeVar_row hT]
  simp [Instr.storeAt, Instr.sureAddr]
/-- a load of a row, by the address's value -/
def loadElse (P : Program) (T : TypeId) (w : World) (v : Value) : Result Next := Sem.run P (do pure (Next.value (← Instr.loadAt T v))) w
def loadV (P : Program) (n : Nat) (T : TypeId) (w : World) : Value → Result Next
  | .pointer (some ⟨b, 0, none⟩) => (loadR P n T w b (w.row? b)).andThen fun v w => .ok (.value v) w
  | v => loadElse P T w v
theorem exec_load_row {P : Program} {T n : Nat} (hT : aggT P T n) (ρ : Operand → Value) (x : Operand) (d : Option Tmp) (t : TypeId) (p : String) (af : Array Edge) (g : Option (Nat × Bool)) (w : World) :
    Sem.run P (execOp ρ { dst := d, op := .load T x, type := t, pos := p, after := af, guard := g }) w = loadV P n T w (ρ x) := by
  unfold loadV
  split
  · rename_i b hb
    rw [← loadAt_row hT]
    simp [execOp, hb]
  · rfl
def storeElse (P : Program) (T : TypeId) (w : World) (a v : Value) : Result Next := Sem.run P (do Instr.storeAt T a v; pure Next.skip) w
def storeV (P : Program) (n : Nat) (T : TypeId) (w : World) : Value → Value → Result Next
  | .pointer (some ⟨b, 0, none⟩), .agg vs => (storeR P n T w b vs (w.row? b)).andThen fun _ w => .ok .skip w
  | a, v => storeElse P T w a v
theorem exec_store_row {P : Program} {T n : Nat} (hT : aggT P T n) (ρ : Operand → Value) (x y : Operand) (d : Option Tmp) (t : TypeId) (p : String) (af : Array Edge) (g : Option (Nat × Bool)) (w : World) :
    Sem.run P (execOp ρ { dst := d, op := .store T x y, type := t, pos := p, after := af, guard := g }) w = storeV P n T w (ρ x) (ρ y) := by
  unfold storeV
  split
  · rename_i b vs hb hv
    rw [← storeAt_row hT]
    simp [execOp, hb, hv]
  · rfl
attribute [go_sem] loadR storeR loadV storeV loadElse storeElse
@[go_sem] theorem setRow_alloc_at (w : World) (c vs : Array Value) (t : TypeId) (n : Nat) (hn : n = w.heap.size) : (w.alloc (.cells c t)).setRow n vs = w.alloc (.cells vs t) := by
  subst hn
  unfold World.setRow World.alloc
  congr 1
  apply Array.ext_getElem?
  intro k
  rw [Array.getElem?_modify]
  by_cases hk : w.heap.size = k
  · subst hk; simp
  · have hk' : k ≠ w.heap.size := fun e => hk e.symm
    simp [hk, hk', Array.getElem?_push]
@[go_sem] theorem setRow_alloc_past (w : World) (o : Obj) (vs : Array Value) (n : Nat) (hn : n < w.heap.size) : (w.alloc o).setRow n vs = (w.setRow n vs).alloc o := by
  unfold World.setRow World.alloc
  congr 1
  apply Array.ext_getElem?
  intro k
  simp only [Array.getElem?_modify, Array.getElem?_push, Array.size_modify]
  by_cases hk : k = w.heap.size
  · subst hk; simp [Nat.ne_of_lt hn]
  · simp [hk]
@[go_sem] theorem setRow_drew (w : World) (n : Nat) (vs : Array Value) : w.drew.setRow n vs = (w.setRow n vs).drew := rfl
/-- a list of integers of one kind, as cells -/
def cellsK (k : IntKind) (l : List Int) : Array Value := (l.map (Value.int k)).toArray
@[go_sem] theorem cellsK_size (k l) : (cellsK k l).size = l.length := by simp [cellsK]
@[go_sem] theorem cellsK_all (k l) : allOne (cellsK k l) = true := by simp [cellsK, allOne, Value.oneCell']
/-- the number at place i (0 beyond the end) -/
def at' (l : List Int) (i : Nat) : Int := l.getD i 0
theorem cellsK_get (k : IntKind) (l : List Int) (i : Nat) (h : i < l.length) : (cellsK k l)[i]? = some (.int k (at' l i)) := by
  simp [cellsK, at', h]
theorem cellsK_set (k : IntKind) (l : List Int) (i : Nat) (v : Int) : (cellsK k l).setIfInBounds i (.int k v) = cellsK k (l.set i v) := by
  simp [cellsK, List.map_set]
end Go
namespace Go
open Go.RowKit
theorem row_int {w : World} {b : Nat} {k : IntKind} {l : List Int} (h : w.row? b = some (cellsK k l)) (i : Nat) (hi : i < l.length) : w.cell? ⟨b, i, none⟩ = some (.int k (at' l i)) := by
  rw [row_cell h, cellsK_get _ _ _ hi]
theorem ext_row {W w : World} (h : Below W.heap.size W w) : ∀ b, b < W.heap.size → w.row? b = W.row? b := fun b hb => row_below h b hb
theorem ext_lt {W w : World} (h : Below W.heap.size W w) : ∀ b, b < W.heap.size → (b < w.heap.size) = True := fun _b hb => eq_true (Nat.lt_of_lt_of_le hb h.size)
@[go_sem] theorem lt_succ_of {a b : Nat} (h : a < b) : (a < b + 1) = True := by simp; omega
@[go_sem] theorem ne_of_lt_l {a b : Nat} (h : a < b) : (a = b) = False := by simp; omega
@[go_sem] theorem ne_of_lt_r {a b : Nat} (h : a < b) : (b = a) = False := by simp; omega
theorem below_setRow' {n : Nat} {a w : World} (h : Below n a w) {b : Nat} (hb : n ≤ b) (cs : Array Value) : Below n a (w.setRow b cs) :=
  h.trans ⟨rfl, rfl, rfl, by simp [World.setRow], fun k hk => setRow_other w b k cs (by omega)⟩
theorem below_drewN' {n : Nat} {a w : World} (h : Below n a w) (k : Nat) : Below n a (w.drewN k) := ⟨h.os, h.tape, h.output, h.size, h.block⟩
theorem below_call {n : Nat} {a w w1 : World} (h : Below n a w) (hn : n ≤ w.heap.size) (hc : Below w.heap.size w w1) : Below n a w1 := h.trans (hc.mono hn)
end Go
namespace Go
open Go.RowKit
theorem ret_cell2 {P : Program} {fn : Func} {T n : Nat} {p u : Tmp} (hres : fn.results = #[.cell p T, .tmp u]) (hT : aggT P T n) {tmps : Array Value} {w : World} {b : Nat} {cs : Array Value} {v : Value}
    (hp : tmps.getD p undef = .pointer (some ⟨b, 0, none⟩)) (hr : w.row? b = some cs) (hs : cs.size = n) (h2 : tmps.getD u undef = v) : (results fn tmps).run P w = .ok (.tuple #[.agg cs, v]) w := by
  rw [results_cell_tmp hres, hp, h2]
  have e : (asAddr (.pointer (some ⟨b, 0, none⟩))).run P w = .ok ⟨b, 0, none⟩ w := rfl
  rw [e]
  simp only [Result.andThen_ok]
  rw [loadVar_row hT, hr, loadR_some _ _ _ _ _ _ hs]
  rfl
theorem ret_cell1 {P : Program} {fn : Func} {T n : Nat} {p : Tmp} (hres : fn.results = #[.cell p T]) (hT : aggT P T n) {tmps : Array Value} {w : World} {b : Nat} {cs : Array Value}
    (hp : tmps.getD p undef = .pointer (some ⟨b, 0, none⟩)) (hr : w.row? b = some cs) (hs : cs.size = n) : (results fn tmps).run P w = .ok (.agg cs) w := by
  have hp' : tmps[p]?.getD undef = .pointer (some ⟨b, 0, none⟩) := by simpa using hp
  simp [results, hres, hp', asAddr, loadVar_row hT, hr, loadR_some _ _ _ _ _ _ hs]
end Go
namespace Go
open Go.RowKit
theorem ext {W w : World} (h : Below W.heap.size W w) : (∀ b, b < W.heap.size → w.row? b = W.row? b) ∧ (∀ b i, b < W.heap.size → w.cell? ⟨b, i, none⟩ = W.cell? ⟨b, i, none⟩) ∧
    (∀ b i, b < W.heap.size → w.frozen? ⟨b, i, none⟩ = W.frozen? ⟨b, i, none⟩) ∧ (∀ b, b < W.heap.size → (b < w.heap.size) = True) :=
  ⟨ext_row h, fun b i hb => h.cell (p := ⟨b, i, none⟩) hb, fun b i hb => h.frozen (p := ⟨b, i, none⟩) hb, ext_lt h⟩
end Go
namespace Go
open Go.RowKit
/-- what certain blocks hold -/
@[go_sem] def RowsOf (w : World) : List (Nat × Array Value) → Prop
  | [] => True
  | x :: l => (w.row? x.1 = some x.2 ∧ x.1 < w.heap.size) ∧ RowsOf w l
theorem RowsOf.keep {W w : World} (h : Below W.heap.size W w) : ∀ {l : List (Nat × Array Value)}, RowsOf W l → RowsOf w l
  | [], _ => trivial
  | x :: _l, h1 => ⟨⟨(row_below h x.1 h1.1.2).trans h1.1.1, Nat.lt_of_lt_of_le h1.1.2 h.size⟩, RowsOf.keep h h1.2⟩
end Go
