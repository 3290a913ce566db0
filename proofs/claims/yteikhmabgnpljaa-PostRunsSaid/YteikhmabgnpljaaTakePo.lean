/- Proved here: lemmas and contracts (TakePo) for the laws of this seat, for all values of the stated types; no further condition. -/
import Derived.Test.YteikhmabgnpljaaSendPo
open Go Go.RowKit Go.Lib Go.Conc
namespace Go.Proofs.L
theorem Po.keep0 {w w' pb g cap C B} (h : Po w pb g cap C B) (hc : Chg [] w w') : Po w' pb g cap C B := h.keep hc (by simp)
theorem take_out {w pb g cap C B} (h : Po w pb g cap C B) (i : Int) (hi : ¬ (0 ≤ i ∧ i < C.length)) :
    Calls Try.prog 9 #[.pointer (some ⟨pb, 0, none⟩), .int .i64 i] w fun e w' => e = .returned (.tuple #[zV, .int .i64 1]) ∧ Po w' pb g cap C B ∧ Chg [] w w' :=
  (take_none (box_out h.takeW i hi)).mono fun e w' ⟨he, hc⟩ => ⟨he, h.keep0 hc, hc⟩
theorem take_em {w pb g cap C B} (h : Po w pb g cap C B) (i : Nat) (hi : i < C.length) (hl : B.getD i [] = []) :
    Calls Try.prog 9 #[.pointer (some ⟨pb, 0, none⟩), .int .i64 i] w fun e w' => e = .returned (.tuple #[zV, .int .i64 17]) ∧ Po w' pb g cap C B ∧ Chg [] w w' :=
  (take_empty (by rw [← hl]; exact h.box i hi) (box_in h.takeW i hi)).mono fun e w' ⟨he, hc⟩ => ⟨he, h.keep0 hc, hc⟩
theorem take_ok {w pb g cap C B} (h : Po w pb g cap C B) (i : Nat) (hi : i < C.length) (l : Int × ByteArray) (L) (hl : B.getD i [] = l :: L) :
    Calls Try.prog 9 #[.pointer (some ⟨pb, 0, none⟩), .int .i64 i] w fun e w' => e = .returned (.tuple #[letV l, .int .i64 0]) ∧ Po w' pb g cap C (B.set i L) ∧ Chg [C[i]] w w' :=
  (take_some l L (by rw [← hl]; exact h.box i hi) (box_in h.takeW i hi)).mono fun e w' ⟨he, hb, hc⟩ => ⟨he, h.setBox i hi hb hc (by have := h.getL i hi; rw [hl] at this; simp at this; omega), hc⟩
theorem set_self {α} (B : List α) (i : Nat) (d : α) (hi : i < B.length) : B.set i (B.getD i d) = B := by
  rw [List.getD_eq_getElem?_getD, List.getElem?_eq_getElem hi]; simp
theorem all_in {w pb g cap C B} (h : Po w pb g cap C B) (i : Nat) (hi : i < C.length) :
    Calls Try.prog 13 #[.pointer (some ⟨pb, 0, none⟩), .int .i64 i] w fun e w' => ∃ v, e = .returned v ∧ w'.ownsRow w.heap.size 30 2 v (B.getD i []).length (letsC (B.getD i [])) ∧ Po w' pb g cap C B ∧ Chg [C[i]] w w' :=
  (all_some _ (h.box i hi) (h.getL i hi) (box_in h i hi)).mono fun e w' ⟨v, he, ho, hb, hc⟩ => ⟨v, he, ho, by have := h.setBox i hi hb hc (h.getL i hi); rwa [set_self _ _ _ (by rw [h.len]; exact hi)] at this, hc⟩
theorem all_out {w pb g cap C B} (h : Po w pb g cap C B) (i : Int) (hi : ¬ (0 ≤ i ∧ i < C.length)) :
    Calls Try.prog 13 #[.pointer (some ⟨pb, 0, none⟩), .int .i64 i] w fun e w' => e = .returned (.slice none 0 0) ∧ w' = w := all_none (box_out h i hi)
end Go.Proofs.L
