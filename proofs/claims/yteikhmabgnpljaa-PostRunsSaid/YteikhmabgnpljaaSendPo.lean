/- Proved here: lemmas and contracts (SendPo) for the laws of this seat, for all values of the stated types; no further condition. -/
import Derived.Test.YteikhmabgnpljaaSetBox
open Go Go.RowKit Go.Lib Go.Conc
namespace Go.Proofs.L
theorem Po.getL {w pb g cap C B} (h : Po w pb g cap C B) (i : Nat) (hi : i < C.length) : (B.getD i []).length ≤ 4 := by
  have hb : i < B.length := by rw [h.len]; exact hi
  have : B.getD i [] ∈ B := by simp [List.getD_eq_getElem?_getD, hb]
  exact h.small _ this
theorem Po.letW {w pb g cap C B} (h : Po w pb g cap C B) (l) : Po (letW w l) pb g cap C B := h.keep (letW_chg w l) (by simp)
theorem Po.takeW {w pb g cap C B} (h : Po w pb g cap C B) : Po (takeW w) pb g cap C B := h.keep (takeW_chg w) (by simp)
theorem send_ok {w pb g cap C B} (h : Po w pb g cap C B) (i : Nat) (hi : i < C.length) (l : Int × ByteArray) (h1 : 1 ≤ l.2.size) (h16 : l.2.size ≤ 16) (hl : (B.getD i []).length < 4) :
    Calls Try.prog 8 #[.pointer (some ⟨pb, 0, none⟩), .int .i64 i, letV l] w fun e w' => e = .returned (.int .i64 0) ∧ Po w' pb g cap C (B.set i (B.getD i [] ++ [l])) ∧ Chg [C[i]] w w' :=
  (send_room l _ h1 h16 (box_in (h.letW l) i hi) (h.box i hi) hl).mono fun e w' ⟨he, hb, hc⟩ => ⟨he, h.setBox i hi hb hc (by rw [List.length_append]; simp only [List.length_singleton]; omega), hc⟩
theorem send_fu {w pb g cap C B} (h : Po w pb g cap C B) (i : Nat) (hi : i < C.length) (l : Int × ByteArray) (h1 : 1 ≤ l.2.size) (h16 : l.2.size ≤ 16) (hl : (B.getD i []).length = 4) :
    Calls Try.prog 8 #[.pointer (some ⟨pb, 0, none⟩), .int .i64 i, letV l] w fun e w' => e = .returned (.int .i64 16) ∧ Po w' pb g cap C B ∧ Chg [] w w' :=
  (send_full l _ h1 h16 (box_in (h.letW l) i hi) (h.box i hi) hl).mono fun e w' ⟨he, hw⟩ => ⟨he, by rw [hw]; exact h.letW l, by rw [hw]; exact letW_chg w l⟩
theorem send_bad {w pb g cap C B} (h : Po w pb g cap C B) (i : Int) (l : Int × ByteArray) (hb : ¬ (0 ≤ i ∧ i < C.length) ∨ ¬ (1 ≤ l.2.size ∧ l.2.size ≤ 16)) :
    Calls Try.prog 8 #[.pointer (some ⟨pb, 0, none⟩), .int .i64 i, letV l] w fun e w' => e = .returned (.int .i64 1) ∧ Po w' pb g cap C B ∧ Chg [] w w' := by
  by_cases hi : 0 ≤ i ∧ i < C.length
  · obtain ⟨k, rfl⟩ := Int.eq_ofNat_of_zero_le hi.1
    have hk : k < C.length := by omega
    exact (send_text l (by rcases hb with hb | hb; exact absurd hi hb; exact hb) (box_in (h.letW l) k hk)).mono fun e w' ⟨he, hw⟩ => ⟨he, by rw [hw]; exact h.letW l, by rw [hw]; exact letW_chg w l⟩
  · exact (send_none l (box_out (h.letW l) i hi)).mono fun e w' ⟨he, hw⟩ => ⟨he, by rw [hw]; exact h.letW l, by rw [hw]; exact letW_chg w l⟩
end Go.Proofs.L
