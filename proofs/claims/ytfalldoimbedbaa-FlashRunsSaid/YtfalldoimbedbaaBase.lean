/- Proved here: lemmas and contracts (Base) for the laws of this seat, for all values of the stated types; no further condition. -/
import Derived.Test.YtfalldoimbedbaaProg
import Derived.StillTailTactics
import Derived.Lib.Hide
import Derived.OwnWalk
import Derived.Deep.DeepCutAuto
import Derived.Deep.CutBlock
import Derived.Test.YtfalldoimbedbaaRow
import Derived.Test.YtfalldoimbedbaaRegT
import Derived.Test.YtfalldoimbedbaaMem
open Go Go.RowKit Go.Lib
namespace Go.Proofs.L
theorem u32w (x : Int) : IntKind.u32.wrap x = x % 4294967296 := by simp [IntKind.wrap, IntKind.bits, IntKind.signed]
theorem u32b (a : Nat) (h : a < 4294967296) : (BitVec.ofInt 32 (a : Int)).toNat = a := by
  rw [BitVec.ofInt_natCast, BitVec.toNat_ofNat]; exact Nat.mod_eq_of_lt h
theorem and32 (a b : Nat) (ha : a < 4294967296) (hb : b < 4294967296) : bits .and .u32 (a : Int) (b : Int) = ((a &&& b : Nat) : Int) := by
  show IntKind.u32.wrap ((BitVec.ofInt 32 (a : Int) &&& BitVec.ofInt 32 (b : Int)).toNat : Int) = _
  rw [BitVec.toNat_and, u32b a ha, u32b b hb, u32w]
  have := Nat.lt_of_le_of_lt (Nat.and_le_left (n := a) (m := b)) ha
  omega
theorem or32 (a b : Nat) (ha : a < 4294967296) (hb : b < 4294967296) : bits .or .u32 (a : Int) (b : Int) = ((a ||| b : Nat) : Int) := by
  show IntKind.u32.wrap ((BitVec.ofInt 32 (a : Int) ||| BitVec.ofInt 32 (b : Int)).toNat : Int) = _
  rw [BitVec.toNat_or, u32b a ha, u32b b hb, u32w]
  have := Nat.or_lt_two_pow (n := 32) ha hb
  omega
theorem not32 (m : Nat) (hm : m < 4294967296) : bits .xor .u32 IntKind.u32.max (m : Int) = ((4294967295 - m : Nat) : Int) := by
  show IntKind.u32.wrap ((BitVec.ofInt 32 IntKind.u32.max ^^^ BitVec.ofInt 32 (m : Int)).toNat : Int) = _
  have h : (BitVec.ofInt 32 IntKind.u32.max) = BitVec.allOnes 32 := by decide
  rw [h, BitVec.allOnes_xor, BitVec.toNat_not, u32b m hm, u32w]
  omega
/-- the numbers of the law on shifts -/
theorem and_lt (a b : Nat) (ha : a < 4294967296) : a &&& b < 4294967296 := Nat.lt_of_le_of_lt Nat.and_le_left ha
theorem or_lt (a b : Nat) (ha : a < 4294967296) (hb : b < 4294967296) : a ||| b < 4294967296 := Nat.or_lt_two_pow (n := 32) ha hb
/-- the state of a flash: words, power, mask, dead -/
structure FS where
  f : Nat → Nat
  fu : Int
  tn : Nat
  de : Bool
structure FS.Ok (S : FS) : Prop where
  f : ∀ i, S.f i < 4294967296
  tn : S.tn < 4294967296
  fu : S.fu < 9223372036854775808
def wordsC (f : Nat → Nat) : List Value := (List.range 32).map fun i => .int .u32 (f i)
def flC (S : FS) : Array Value := (wordsC S.f ++ [Value.int IntKind.i64 S.fu, Value.int IntKind.u32 (S.tn : Int), Value.bool S.de]).toArray
theorem wordsC_len (f) : (wordsC f).length = 32 := by simp [wordsC]
theorem flC_size (S) : (flC S).size = 35 := by simp [flC, wordsC_len]
theorem flC_get (S : FS) (i : Nat) (h : i < 32) : (flC S)[i]? = some (.int .u32 (S.f i)) := by
  simp [flC, wordsC, List.getElem?_append, h]
theorem flC_32 (S : FS) : (flC S)[32]? = some (.int .i64 S.fu) := by simp [flC, wordsC, List.getElem?_append]
theorem flC_33 (S : FS) : (flC S)[33]? = some (.int .u32 S.tn) := by simp [flC, wordsC, List.getElem?_append]
theorem flC_34 (S : FS) : (flC S)[34]? = some (.bool S.de) := by simp [flC, wordsC, List.getElem?_append]
theorem wordsC_set (f : Nat → Nat) (i v : Nat) : (wordsC f).set i (.int .u32 (v : Int)) = wordsC (up f i v) := by
  apply List.ext_getElem
  · simp [wordsC]
  · intro j h1 h2
    rw [List.getElem_set]
    simp only [wordsC, List.getElem_map, List.getElem_range, up]
    by_cases h : i = j
    · subst h; simp
    · rw [if_neg h, if_neg (fun e => h e.symm)]
theorem flC_set (S : FS) (i v : Nat) (h : i < 32) : (flC S).setIfInBounds i (.int .u32 (v : Int)) = flC { S with f := up S.f i v } := by
  simp only [flC, List.setIfInBounds_toArray]
  rw [List.set_append_left _ _ (by rw [wordsC_len]; exact h), wordsC_set]
theorem flC_set32 (S : FS) (x : Int) : (flC S).setIfInBounds 32 (.int .i64 x) = flC { S with fu := x } := by
  simp only [flC, List.setIfInBounds_toArray]
  rw [List.set_append_right _ _ (by rw [wordsC_len]; omega), wordsC_len]; rfl
theorem flC_set33 (S : FS) (x : Nat) : (flC S).setIfInBounds 33 (.int .u32 (x : Int)) = flC { S with tn := x } := by
  simp only [flC, List.setIfInBounds_toArray]
  rw [List.set_append_right _ _ (by rw [wordsC_len]; omega), wordsC_len]; rfl
theorem flC_set34 (S : FS) (x : Bool) : (flC S).setIfInBounds 34 (.bool x) = flC { S with de := x } := by
  simp only [flC, List.setIfInBounds_toArray]
  rw [List.set_append_right _ _ (by rw [wordsC_len]; omega), wordsC_len]; rfl
/-- a flash in memory -/
def Fl (w : World) (b : Nat) (S : FS) : Prop := w.row? b = some (flC S)
theorem Fl.lt {w b S} (h : Fl w b S) : b < w.heap.size := row_lt h
theorem Fl.ci {w b S} (h : Fl w b S) (i : Nat) (hi : i < 32) : w.cell? ⟨b, i, none⟩ = some (.int .u32 (S.f i)) := by rw [row_cell h, flC_get S i hi]
theorem Fl.c32 {w b S} (h : Fl w b S) : w.cell? ⟨b, 32, none⟩ = some (.int .i64 S.fu) := by rw [row_cell h, flC_32]
theorem Fl.c33 {w b S} (h : Fl w b S) : w.cell? ⟨b, 33, none⟩ = some (.int .u32 S.tn) := by rw [row_cell h, flC_33]
theorem Fl.c34 {w b S} (h : Fl w b S) : w.cell? ⟨b, 34, none⟩ = some (.bool S.de) := by rw [row_cell h, flC_34]
theorem Fl.fr {w b S} (h : Fl w b S) (i : Nat) : w.frozen? ⟨b, i, none⟩ = false := row_free h i
theorem Fl.keep {E w w' b S} (h : Fl w b S) (hc : Chg E w w') (hE : b ∉ E) : Fl w' b S := by
  unfold Fl; rw [hc.row (row_lt h) hE]; exact h
theorem Fl.set {w b S} (h : Fl w b S) (i v : Nat) (hi : i < 32) : Fl (w.setCell ⟨b, i, none⟩ (.int .u32 (v : Int))) b { S with f := up S.f i v } := by
  unfold Fl; rw [row_setCell_same, h, Option.map_some, flC_set S i v hi]
theorem Fl.set32 {w b S} (h : Fl w b S) (x : Int) : Fl (w.setCell ⟨b, 32, none⟩ (.int .i64 x)) b { S with fu := x } := by
  unfold Fl; rw [row_setCell_same, h, Option.map_some, flC_set32]
theorem Fl.set33 {w b S} (h : Fl w b S) (x : Nat) : Fl (w.setCell ⟨b, 33, none⟩ (.int .u32 (x : Int))) b { S with tn := x } := by
  unfold Fl; rw [row_setCell_same, h, Option.map_some, flC_set33]
theorem Fl.set34 {w b S} (h : Fl w b S) (x : Bool) : Fl (w.setCell ⟨b, 34, none⟩ (.bool x)) b { S with de := x } := by
  unfold Fl; rw [row_setCell_same, h, Option.map_some, flC_set34]
theorem chg_set (w : World) (b i : Nat) (v : Value) : Chg [b] w (w.setCell ⟨b, i, none⟩ v) := (Chg.refl _ _).setCell (Or.inl (by simp)) _
def FS.okB (S : FS) : Bool := !S.de && decide (S.fu ≠ 0)
def FS.lastB (S : FS) : Bool := !S.de && decide (S.fu = 0)
def FS.step (S : FS) : FS := if S.de then S else if S.fu = 0 then { S with de := true } else if 0 < S.fu then { S with fu := S.fu - 1 } else S
theorem FS.step_f (S : FS) : S.step.f = S.f := by
  unfold FS.step
  repeat' split
  all_goals rfl
theorem FS.step_to (S : FS) : S.step.tn = S.tn := by
  unfold FS.step
  repeat' split
  all_goals rfl
theorem FS.Ok.step {S : FS} (h : S.Ok) : S.step.Ok := by
  refine ⟨by rw [S.step_f]; exact h.f, by rw [S.step_to]; exact h.tn, ?_⟩
  have := h.fu
  unfold FS.step
  split
  · exact this
  · split
    · exact this
    · split
      · show S.fu - 1 < _; omega
      · exact this
theorem read_out (pv : Value) (i : Int) (hi : pv = .pointer none ∨ ((∃ b, pv = .pointer (some ⟨b, 0, none⟩)) ∧ ¬ (0 ≤ i ∧ i < 32))) (w : World) : Calls Try.prog 11 #[pv, .int .i64 i] w fun e w' => e = .returned (.int .u32 0) ∧ w' = w := by
  rcases hi with rfl | ⟨⟨b, rfl⟩, hi⟩
  · go_enter Try.func11, Try.ntmps11
    go_wp2
    go_ret
    exact ⟨rfl, rfl⟩
  · by_cases h0 : i < 0
    · have d0 : decide (i < 0) = true := by simpa using h0
      go_enter Try.func11, Try.ntmps11
      go_wp2
      go_ret
      exact ⟨rfl, rfl⟩
    · have d0 : decide (i < 0) = false := by simpa using h0
      have d1 : decide (32 ≤ i) = true := by simp; omega
      have d2 : decide (i ≥ 32) = true := by simp; omega
      go_enter Try.func11, Try.ntmps11
      go_wp2
      go_ret
      exact ⟨rfl, rfl⟩
theorem read_in {w b S} (h : Fl w b S) (i : Nat) (hi : i < 32) : Calls Try.prog 11 #[.pointer (some ⟨b, 0, none⟩), .int .i64 i] w fun e w' => e = .returned (.int .u32 (S.f i)) ∧ w' = w := by
  have ci := h.ci i hi
  have d0 : decide ((i : Int) < 0) = false := by simp
  have d1 : decide (32 ≤ (i : Int)) = false := by simp; omega
  have d2 : decide ((i : Int) ≥ 32) = false := by simp; omega
  clear h
  go_enter Try.func11, Try.ntmps11
  go_wp2
  go_ret
  exact ⟨rfl, rfl⟩
theorem step_any {w b S} (h : Fl w b S) (hS : S.Ok) : Calls Try.prog 24 #[.pointer (some ⟨b, 0, none⟩)] w fun e w' => e = .returned (.tuple #[.bool S.okB, .bool S.lastB]) ∧ Fl w' b S.step ∧ Chg [b] w w' := by
  have c2 := h.c32
  have c4 := h.c34
  have f2 := h.fr 32
  have f4 := h.fr 34
  have H := Lib.hid h
  have hfu := hS.fu
  clear h hS
  obtain ⟨fu, hf⟩ : ∃ x, x = S.fu := ⟨_, rfl⟩
  rw [← hf] at c2 hfu
  cases hd : S.de with
  | true =>
    rw [hd] at c4
    go_enter Try.func24, Try.ntmps24
    go_wp2
    go_ret2
    exact ⟨by simp [FS.okB, FS.lastB, hd], by simpa [FS.step, hd] using H.out, Chg.refl _ _⟩
  | false =>
    rw [hd] at c4
    by_cases h0 : fu = 0
    · subst h0
      go_enter Try.func24, Try.ntmps24
      go_wp2
      go_ret2
      exact ⟨by simp [FS.okB, FS.lastB, hd, ← hf], by simpa [FS.step, hd, ← hf] using H.out.set34 true, chg_set _ _ _ _⟩
    · have e0 : (fu == 0) = false := by simpa using h0
      by_cases h1 : 0 < fu
      · have d1 : decide (fu > 0) = true := by simpa using h1
        have d2 : decide (0 < fu) = true := by simpa using h1
        have e1 : wrap64 (fu - 1) = fu - 1 := IntWalk.wrap64_in _ ⟨by omega, by omega⟩
        go_enter Try.func24, Try.ntmps24
        go_wp2
        go_ret2
        exact ⟨by simp [FS.okB, FS.lastB, hd, ← hf, h0], by simpa [FS.step, hd, ← hf, h0, h1] using H.out.set32 (fu - 1), chg_set _ _ _ _⟩
      · have d1 : decide (fu > 0) = false := by simpa using h1
        have d2 : decide (0 < fu) = false := by simpa using h1
        go_enter Try.func24, Try.ntmps24
        go_wp2
        go_ret2
        exact ⟨by simp [FS.okB, FS.lastB, hd, ← hf, h0], by
          have : S.step = S := by unfold FS.step; rw [hd, ← hf, if_neg (by simp), if_neg h0, if_neg (by omega)]
          rw [this]; exact H.out, Chg.refl _ _⟩
end Go.Proofs.L
