/- Proved here: lemmas and contracts (Post) for the laws of this seat, for all values of the stated types; no further condition. -/
import Derived.Test.YteikhmabgnpljaaProg
import Derived.Test.YteikhmabgnpljaaRow
import Derived.Test.YteikhmabgnpljaaRegT
import Derived.Test.YteikhmabgnpljaaMem
import Derived.Test.YteikhmabgnpljaaComm
import Derived.KernelRfl
import Derived.Lib.Hide
import Derived.OwnWalk
import Derived.Conc.LoneSelectN
import Derived.Conc.SmallLaws
open Go Go.RowKit Go.Lib Go.Conc
namespace Go.Proofs.L
/-- a letter as a value -/
def letV (l : Int × ByteArray) : Value := .agg #[.int .i64 l.1, .string l.2]
def bufC (L : List (Int × ByteArray)) : Array Value := (L.map letV).toArray
def chansC (C : List Nat) : List Value := C.map fun c => .chan (some c)
/-- what a box is in memory -/
def BoxAt (w : World) (c : Nat) (L : List (Int × ByteArray)) : Prop := ∃ s r, w.heap[c]? = some (.chan 4 (bufC L) false s r false)
/-- what a post is in memory -/
structure Po (w : World) (pb g cap : Nat) (C : List Nat) (B : List (List (Int × ByteArray))) : Prop where
  row : w.row? pb = some #[.slice (some ⟨g, 0, none⟩) C.length cap]
  inn : ∀ i (h : i < C.length), w.cell? ⟨g, i, none⟩ = some (.chan (some C[i]))
  glt : g < w.heap.size
  len : B.length = C.length
  box : ∀ i (h : i < C.length), BoxAt w C[i] (B.getD i [])
  nd : C.Nodup
  len1 : 1 ≤ C.length
  len4 : C.length ≤ 4
  ne : pb ≠ g
  apart : pb ∉ C ∧ g ∉ C
  small : ∀ L ∈ B, L.length ≤ 4
def fpP (pb g : Nat) (C : List Nat) : List Nat := pb :: g :: C
theorem BoxAt.lt {w c L} (h : BoxAt w c L) : c < w.heap.size := by
  obtain ⟨s, r, h⟩ := h
  by_cases hb : c < w.heap.size
  · exact hb
  · simp [Array.getElem?_eq_none (Nat.le_of_not_lt hb)] at h
theorem Po.lt {w pb g cap C B} (h : Po w pb g cap C B) : ∀ k ∈ fpP pb g C, k < w.heap.size := by
  intro k hk
  simp only [fpP, List.mem_cons] at hk
  rcases hk with rfl | rfl | hk
  · exact row_lt h.row
  · exact h.glt
  · obtain ⟨i, hi, rfl⟩ := List.mem_iff_getElem.1 hk
    exact (h.box i hi).lt
theorem cell_of_block {w w' : World} {g i : Nat} (h : w'.heap[g]? = w.heap[g]?) : w'.cell? ⟨g, i, none⟩ = w.cell? ⟨g, i, none⟩ := by
  simp only [World.cell?, h]
theorem Po.keep {E w w' pb g cap C B} (h : Po w pb g cap C B) (hc : Chg E w w') (hE : ∀ k ∈ fpP pb g C, k ∉ E) : Po w' pb g cap C B :=
  { h with
    row := by rw [hc.row (row_lt h.row) (hE pb (by simp [fpP]))]; exact h.row
    inn := fun i hi => by rw [cell_of_block (hc.block g h.glt (hE g (by simp [fpP])))]; exact h.inn i hi
    glt := Nat.lt_of_lt_of_le h.glt hc.size
    box := fun i hi => by
      obtain ⟨s, r, hb⟩ := h.box i hi
      exact ⟨s, r, by rw [hc.block _ (h.box i hi).lt (hE _ (by simp [fpP]))]; exact hb⟩ }
theorem Po.c0 {w pb g cap C B} (h : Po w pb g cap C B) : w.cell? ⟨pb, 0, none⟩ = some (.slice (some ⟨g, 0, none⟩) C.length cap) := by rw [row_cell h.row]; rfl
theorem box_nil (i : Int) (w : World) : Calls Try.prog 14 #[.pointer none, .int .i64 i] w fun e w' => e = .returned (.chan none) ∧ w' = w := by
  go_enter Try.func14, Try.ntmps14
  go_wp2
  go_ret
  exact ⟨rfl, rfl⟩
theorem box_out {w pb g cap C B} (h : Po w pb g cap C B) (i : Int) (hi : ¬ (0 ≤ i ∧ i < C.length)) : Calls Try.prog 14 #[.pointer (some ⟨pb, 0, none⟩), .int .i64 i] w fun e w' => e = .returned (.chan none) ∧ w' = w := by
  have c0 := h.c0
  obtain ⟨n, hn⟩ : ∃ n, n = C.length := ⟨_, rfl⟩
  rw [← hn] at c0 hi
  clear h hn
  by_cases h0 : i < 0
  · have d0 : decide (i < 0) = true := by simpa using h0
    go_enter Try.func14, Try.ntmps14
    go_wp2
    go_ret
    exact ⟨rfl, rfl⟩
  · have d0 : decide (i < 0) = false := by simpa using h0
    have d1 : decide ((n : Int) ≤ i) = true := by simp; omega
    have d2 : decide (i ≥ (n : Int)) = true := by simp; omega
    go_enter Try.func14, Try.ntmps14
    go_wp2
    go_ret
    exact ⟨rfl, rfl⟩
theorem box_in {w pb g cap C B} (h : Po w pb g cap C B) (i : Nat) (hi : i < C.length) : Calls Try.prog 14 #[.pointer (some ⟨pb, 0, none⟩), .int .i64 i] w fun e w' => e = .returned (.chan (some C[i])) ∧ w' = w := by
  have c0 := h.c0
  have c1 := h.inn i hi
  have l4 := h.len4
  obtain ⟨c, hcc⟩ : ∃ c, c = C[i] := ⟨_, rfl⟩
  rw [← hcc] at c1 ⊢
  obtain ⟨n, hn⟩ : ∃ n, n = C.length := ⟨_, rfl⟩
  rw [← hn] at c0 l4 hi
  clear h hn hcc
  have d1 : decide ((n : Int) ≤ i) = false := by simp; omega
  have d2 : decide ((i : Int) ≥ (n : Int)) = false := by simp; omega
  have d3 : decide ((i : Int) < 0) = false := by simp
  go_enter Try.func14, Try.ntmps14
  go_wp2
  go_ret
  exact ⟨rfl, rfl⟩
end Go.Proofs.L
