/- Proved here: lemmas and contracts (RefPost) for the laws of this seat, for all values of the stated types; no further condition. -/
import Derived.Test.YteikhmabgnpljaaOrderBase
import Derived.Test.YteikhmabgnpljaaWin
open Go Go.RowKit Go.Lib Go.Conc
namespace Go.Proofs.L
/-- the reference post in memory -/
structure Rp (w : World) (rb rg : Nat) (V : List Value) (B : List (List (Int × ByteArray))) : Prop where
  row : w.row? rb = some #[.slice (some ⟨rg, 0, none⟩) V.length V.length]
  inn : w.row? rg = some V.toArray
  len : B.length = V.length
  win : ∀ i (h : i < V.length), Win w 2 V[i] (B.getD i []).length (letsC (B.getD i []))
  sep : ∀ i j (hi : i < V.length) (hj : j < V.length), i ≠ j → ∀ k, V[i].ownBlock = some k → V[j].ownBlock ≠ some k
  apart : ∀ i (h : i < V.length), ∀ k, V[i].ownBlock = some k → k ≠ rb ∧ k ≠ rg
  ne : rb ≠ rg
  len1 : 1 ≤ V.length
  len4 : V.length ≤ 4
  small : ∀ L ∈ B, L.length ≤ 4
def fpR (rb rg : Nat) (V : List Value) : List Nat := rb :: rg :: V.filterMap Value.ownBlock
theorem mem_fpR {rb rg : Nat} {V : List Value} {k : Nat} : k ∈ fpR rb rg V ↔ k = rb ∨ k = rg ∨ ∃ i, ∃ h : i < V.length, V[i].ownBlock = some k := by
  simp only [fpR, List.mem_cons, List.mem_filterMap]
  constructor
  · rintro (h | h | ⟨v, hv, hk⟩)
    · exact .inl h
    · exact .inr (.inl h)
    · obtain ⟨i, hi, rfl⟩ := List.mem_iff_getElem.1 hv
      exact .inr (.inr ⟨i, hi, hk⟩)
  · rintro (h | h | ⟨i, hi, hk⟩)
    · exact .inl h
    · exact .inr (.inl h)
    · exact .inr (.inr ⟨V[i], List.getElem_mem hi, hk⟩)
theorem Rp.lt {w rb rg V B} (h : Rp w rb rg V B) : ∀ k ∈ fpR rb rg V, k < w.heap.size := by
  intro k hk
  rcases mem_fpR.1 hk with rfl | rfl | ⟨i, hi, hk⟩
  · exact row_lt h.row
  · exact row_lt h.inn
  · exact (h.win i hi).lt k hk
theorem Rp.keep {E w w' rb rg V B} (h : Rp w rb rg V B) (hc : Chg E w w') (hE : ∀ k ∈ fpR rb rg V, k ∉ E) : Rp w' rb rg V B :=
  { h with
    row := by rw [hc.row (row_lt h.row) (hE rb (by simp [fpR]))]; exact h.row
    inn := by rw [hc.row (row_lt h.inn) (hE rg (by simp [fpR]))]; exact h.inn
    win := fun i hi => (h.win i hi).keep hc (fun k hk => hE k (mem_fpR.2 (.inr (.inr ⟨i, hi, hk⟩)))) }
theorem Rp.c0 {w rb rg V B} (h : Rp w rb rg V B) : w.cell? ⟨rb, 0, none⟩ = some (.slice (some ⟨rg, 0, none⟩) V.length V.length) := by rw [row_cell h.row]; rfl
theorem Rp.ci {w rb rg V B} (h : Rp w rb rg V B) (i : Nat) (hi : i < V.length) : w.cell? ⟨rg, i, none⟩ = some V[i] := by rw [row_cell h.inn]; simp [hi]
theorem Rp.getL {w rb rg V B} (h : Rp w rb rg V B) (i : Nat) (hi : i < V.length) : (B.getD i []).length ≤ 4 := by
  have hb : i < B.length := by rw [h.len]; exact hi
  have : B.getD i [] ∈ B := by simp [List.getD_eq_getElem?_getD, hb]
  exact h.small _ this
/-- box i anew: its window v' is in the row, its cells are in memory -/
theorem Rp.setBox {w w' rb rg V B} (h : Rp w rb rg V B) (i : Nat) (hi : i < V.length) {v' : Value} {L : List (Int × ByteArray)} (hw : Win w' 2 v' L.length (letsC L)) (hr : w'.row? rg = some (V.set i v').toArray)
    {E : List Nat} (hc : Chg E w w') (hE : ∀ k ∈ E, k = rg ∨ V[i].ownBlock = some k) (hv : v'.ownBlock = V[i].ownBlock ∨ v'.ownBlock = none ∨ ∃ H, v'.ownBlock = some H ∧ w.heap.size ≤ H) (hL : L.length ≤ 4) : Rp w' rb rg (V.set i v') (B.set i L) := by
  have hrb : rb ∉ E := fun hm => by
    rcases hE _ hm with e | e
    · exact h.ne e
    · exact (h.apart i hi _ e).1 rfl
  have hlt := h.lt
  refine ⟨by rw [List.length_set, hc.row (row_lt h.row) hrb]; exact h.row, hr, by simp [h.len], fun j hj => ?_, fun a b ha hb hab k hk => ?_, fun j hj k hk => ?_, h.ne, by simpa using h.len1, by simpa using h.len4, fun M hM => ?_⟩
  · simp only [List.length_set] at hj
    by_cases e : i = j
    · subst e
      have : i < B.length := by rw [h.len]; exact hj
      simpa [List.getD_eq_getElem?_getD, this] using hw
    · have hb' := h.win j hj
      rw [List.getD_eq_getElem?_getD] at hb' ⊢
      rw [List.getElem?_set_ne e]
      simp only [List.getElem_set_ne e]
      refine hb'.keep hc (fun k hk hm => ?_)
      rcases hE k hm with e2 | e2
      · exact (h.apart j hj k hk).2 e2
      · exact h.sep i j hi hj e k e2 hk
  · simp only [List.length_set] at ha hb
    by_cases ea : i = a
    · subst ea
      simp only [List.getElem_set_self] at hk
      simp only [List.getElem_set_ne hab]
      rcases hv with hv | hv | ⟨H, hv, hH⟩
      · exact h.sep i b ha hb hab k (by rw [← hv]; exact hk)
      · rw [hv] at hk; cases hk
      · rw [hv] at hk; cases hk
        intro hk2
        have := hlt k (mem_fpR.2 (.inr (.inr ⟨b, hb, hk2⟩))); omega
    · simp only [List.getElem_set_ne ea] at hk
      by_cases eb : i = b
      · subst eb
        simp only [List.getElem_set_self]
        rcases hv with hv | hv | ⟨H, hv, hH⟩
        · rw [hv]; exact h.sep a i ha hb hab k hk
        · rw [hv]; simp
        · rw [hv]
          intro hk2
          cases hk2
          have := hlt k (mem_fpR.2 (.inr (.inr ⟨a, ha, hk⟩))); omega
      · simp only [List.getElem_set_ne eb]
        exact h.sep a b ha hb hab k hk
  · simp only [List.length_set] at hj
    by_cases e : i = j
    · subst e
      simp only [List.getElem_set_self] at hk
      rcases hv with hv | hv | ⟨H, hv, hH⟩
      · exact h.apart i hj k (by rw [← hv]; exact hk)
      · rw [hv] at hk; cases hk
      · rw [hv] at hk; cases hk
        have h1 := hlt rb (by simp [fpR])
        have h2 := hlt rg (by simp [fpR])
        constructor <;> omega
    · simp only [List.getElem_set_ne e] at hk
      exact h.apart j hj k hk
  · rcases List.mem_or_eq_of_mem_set hM with hM | rfl
    · exact h.small M hM
    · exact hL
def rletW (w : World) (l : Int × ByteArray) : World := w.alloc (.cells #[.int .i64 l.1, .string l.2] 43)
theorem rletW_chg (w l) : Chg [] w (rletW w l) := (Chg.refl _ _).alloc _
theorem rsend_out {w rb rg V B} (h : Rp w rb rg V B) (i : Int) (hi : ¬ (0 ≤ i ∧ i < V.length)) (l : Int × ByteArray) :
    Calls Try.prog 11 #[.pointer (some ⟨rb, 0, none⟩), .int .i64 i, letV l] w fun e w' => e = .returned (.int .i64 1) ∧ w' = rletW w l := by
  have c0 := h.c0
  have hlt := row_lt h.row
  obtain ⟨n, hn⟩ : ∃ n, n = V.length := ⟨_, rfl⟩
  rw [← hn] at c0 hi
  clear h hn
  unfold letV
  by_cases h0 : i < 0
  · have d0 : decide (i < 0) = true := by simpa using h0
    go_enter Try.func11, Try.ntmps11
    go_wp2
    go_ret
    exact ⟨rfl, rfl⟩
  · have d0 : decide (i < 0) = false := by simpa using h0
    have d1 : decide ((n : Int) ≤ i) = true := by simp; omega
    have d2 : decide (i ≥ (n : Int)) = true := by simp; omega
    go_enter Try.func11, Try.ntmps11
    go_wp2
    go_ret
    exact ⟨rfl, rfl⟩
theorem rsend_text {w rb rg V B} (h : Rp w rb rg V B) (i : Nat) (hi : i < V.length) (l : Int × ByteArray) (ht : ¬ (1 ≤ l.2.size ∧ l.2.size ≤ 16)) :
    Calls Try.prog 11 #[.pointer (some ⟨rb, 0, none⟩), .int .i64 i, letV l] w fun e w' => e = .returned (.int .i64 1) ∧ w' = rletW w l := by
  have c0 := h.c0
  have hlt := row_lt h.row
  obtain ⟨n, hn⟩ : ∃ n, n = V.length := ⟨_, rfl⟩
  rw [← hn] at c0 hi
  clear h hn
  unfold letV
  have d0 : decide ((i : Int) < 0) = false := by simp
  have d1 : decide ((n : Int) ≤ i) = false := by simp; omega
  have d2 : decide ((i : Int) ≥ (n : Int)) = false := by simp; omega
  obtain ⟨m, hm⟩ : ∃ m, m = l.2.size := ⟨_, rfl⟩
  rw [← hm] at ht
  by_cases h1 : 1 ≤ m
  · have e1 : decide ((m : Int) < 1) = false := by simp; omega
    have e2 : decide ((m : Int) > 16) = true := by simp; omega
    have e3 : decide (16 < (m : Int)) = true := by simp; omega
    rw [hm] at e1 e2 e3
    clear ht hm h1
    go_enter Try.func11, Try.ntmps11
    go_wp2
    go_ret
    exact ⟨rfl, rfl⟩
  · have e1 : decide ((m : Int) < 1) = true := by simp; omega
    rw [hm] at e1
    clear ht hm h1
    go_enter Try.func11, Try.ntmps11
    go_wp2
    go_ret
    exact ⟨rfl, rfl⟩
theorem rsend_full {w rb rg V B} (h : Rp w rb rg V B) (i : Nat) (hi : i < V.length) (l : Int × ByteArray) (ht : 1 ≤ l.2.size ∧ l.2.size ≤ 16) (hl : (B.getD i []).length = 4) :
    Calls Try.prog 11 #[.pointer (some ⟨rb, 0, none⟩), .int .i64 i, letV l] w fun e w' => e = .returned (.int .i64 16) ∧ w' = rletW w l := by
  have c0 := h.c0
  have ci := h.ci i hi
  have hlt := row_lt h.row
  have hlt2 := row_lt h.inn
  obtain ⟨p, cap, hv, -⟩ := (h.win i hi).form
  rw [hv, hl] at ci
  obtain ⟨n, hn⟩ : ∃ n, n = V.length := ⟨_, rfl⟩
  rw [← hn] at c0 hi
  clear h hn hl hv
  unfold letV
  have d0 : decide ((i : Int) < 0) = false := by simp
  have d1 : decide ((n : Int) ≤ i) = false := by simp; omega
  have d2 : decide ((i : Int) ≥ (n : Int)) = false := by simp; omega
  obtain ⟨m, hm⟩ : ∃ m, m = l.2.size := ⟨_, rfl⟩
  rw [← hm] at ht
  have e1 : decide ((m : Int) < 1) = false := by simp; omega
  have e2 : decide ((m : Int) > 16) = false := by simp; omega
  have e3 : decide (16 < (m : Int)) = false := by simp; omega
  rw [hm] at e1 e2 e3
  clear ht hm
  go_enter Try.func11, Try.ntmps11
  go_wp2
  go_ret
  exact ⟨rfl, rfl⟩
end Go.Proofs.L
