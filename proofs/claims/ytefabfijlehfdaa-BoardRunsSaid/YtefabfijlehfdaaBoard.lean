/- Proved here: lemmas and contracts (Board) for the laws of this seat, for all values of the stated types; no further condition. -/
import Derived.Test.YtefabfijlehfdaaProg
import Derived.Test.YtefabfijlehfdaaRow
import Derived.Test.YtefabfijlehfdaaRegT
import Derived.Test.YtefabfijlehfdaaMem
import Derived.KernelRfl
import Derived.Lib.Hide
import Derived.OwnWalk
open Go Go.RowKit Go.Lib
namespace Go.Proofs.L
def lineC (l : Int × ByteArray) : List Value := [.int .i64 l.1, .string l.2]
def linesC (L : List (Int × ByteArray)) : List Value := L.flatMap lineC
def used (L : List (Int × ByteArray)) : Nat := (L.map fun l => l.2.size).sum
def strC (I : List ByteArray) : Array Value := (I.map Value.string).toArray
/-- what a board is in memory -/
structure Bd (w : World) (bb ib : Nat) (lv : Value) (L : List (Int × ByteArray)) (I : List ByteArray) : Prop where
  row : w.row? bb = some #[lv, .int .i64 (used L : Int), .slice (some ⟨ib, 0, none⟩) I.length I.length]
  ins : w.row? ib = some (strC I)
  own : w.ownsRow 0 31 2 lv L.length (linesC L)
  ne : bb ≠ ib
  apart : ∀ k, lv.ownBlock = some k → k ≠ bb ∧ k ≠ ib
  len1 : 1 ≤ I.length
  len4 : I.length ≤ 4
  small : ∀ s ∈ I, s.size ≤ 64
  texts : ∀ l ∈ L, 1 ≤ l.2.size ∧ l.2.size ≤ 64
  fits : used L ≤ 256
/-- its blocks -/
def fpB (bb ib : Nat) (lv : Value) : List Nat := bb :: ib :: (lv.ownBlock).toList
theorem Bd.lt {w bb ib lv L I} (h : Bd w bb ib lv L I) : ∀ k ∈ fpB bb ib lv, k < w.heap.size := by
  intro k hk
  simp only [fpB, List.mem_cons] at hk
  rcases hk with rfl | rfl | hk
  · exact row_lt h.row
  · exact row_lt h.ins
  · exact (h.own.lt k (by simpa using hk)).2
theorem ownsRow_chg {E : List Nat} {w w' : World} {base e size n : Nat} {v : Value} {xs : List Value} (h : w.ownsRow base e size v n xs) (hc : Chg E w w') (hE : ∀ k, v.ownBlock = some k → k ∉ E) : w'.ownsRow base e size v n xs := by
  refine ⟨h.1, ?_⟩
  rcases h.2 with hn | ⟨g, cap, cur, rfl, hb, hgg, rest⟩
  · exact .inl hn
  · exact .inr ⟨g, cap, cur, rfl, hb, by rw [hc.block g (Array.getElem?_eq_some_iff.1 hgg).1 (hE g rfl)]; exact hgg, rest⟩
theorem Bd.keep {E w w' bb ib lv L I} (h : Bd w bb ib lv L I) (hc : Chg E w w') (hE : ∀ k ∈ fpB bb ib lv, k ∉ E) : Bd w' bb ib lv L I :=
  { h with
    row := by rw [hc.row (row_lt h.row) (hE bb (by simp [fpB]))]; exact h.row
    ins := by rw [hc.row (row_lt h.ins) (hE ib (by simp [fpB]))]; exact h.ins
    own := ownsRow_chg h.own hc (fun k hk => hE k (by simp [fpB, hk])) }
theorem strC_get (I : List ByteArray) (i : Nat) (h : i < I.length) : (strC I)[i]? = some (.string I[i]) := by simp [strC, h]
theorem Bd.c0 {w bb ib lv L I} (h : Bd w bb ib lv L I) : w.cell? ⟨bb, 0, none⟩ = some lv := by rw [row_cell h.row]; rfl
theorem Bd.c1 {w bb ib lv L I} (h : Bd w bb ib lv L I) : w.cell? ⟨bb, 1, none⟩ = some (.int .i64 (used L : Int)) := by rw [row_cell h.row]; rfl
theorem Bd.c2 {w bb ib lv L I} (h : Bd w bb ib lv L I) : w.cell? ⟨bb, 2, none⟩ = some (.slice (some ⟨ib, 0, none⟩) I.length I.length) := by rw [row_cell h.row]; rfl
theorem Bd.ci {w bb ib lv L I} (h : Bd w bb ib lv L I) (i : Nat) (hi : i < I.length) : w.cell? ⟨ib, i, none⟩ = some (.string I[i]) := by rw [row_cell h.ins, strC_get _ _ hi]
theorem has_nil (i : Int) (w : World) : Calls Try.prog 18 #[.pointer none, .int .i64 i] w fun e w' => e = .returned (.bool false) ∧ w' = w := by
  go_enter Try.func18, Try.ntmps18
  go_wp2
  go_ret
  exact ⟨rfl, rfl⟩
def inB (i : Int) (n : Nat) : Bool := decide (0 ≤ i) && decide (i < n)
theorem has_any {w bb ib lv L I} (h : Bd w bb ib lv L I) (i : Int) : Calls Try.prog 18 #[.pointer (some ⟨bb, 0, none⟩), .int .i64 i] w fun e w' => e = .returned (.bool (inB i I.length)) ∧ w' = w := by
  have c2 := h.c2
  have l4 := h.len4
  obtain ⟨n, hn⟩ : ∃ n, n = I.length := ⟨_, rfl⟩
  rw [← hn] at c2 l4 ⊢
  clear h hn
  by_cases h0 : 0 ≤ i
  · have d0 : decide (i ≥ 0) = true := by simpa using h0
    go_enter Try.func18, Try.ntmps18
    go_wp2
    go_ret
    exact ⟨by simp [inB, h0], rfl⟩
  · have d0 : decide (i ≥ 0) = false := by simpa using h0
    go_enter Try.func18, Try.ntmps18
    go_wp2
    go_ret
    have h1 : ¬ 0 ≤ i := by omega
    exact ⟨by simp [inB, h1], rfl⟩
end Go.Proofs.L
