/- Proved here: lemmas and contracts (Lines) for the laws of this seat, for all values of the stated types; no further condition. -/
import Derived.Test.YtefabfijlehfdaaSay
import Derived.Laws.AppendOwnNone
open Go Go.RowKit Go.Lib
namespace Go.Proofs.L
theorem linesC_len (L : List (Int × ByteArray)) : (linesC L).length = L.length * 2 := by
  induction L with
  | nil => rfl
  | cons x L ih => simp [linesC, lineC] at ih ⊢; omega
theorem linesC_one (L : List (Int × ByteArray)) : ∀ u ∈ linesC L, u.oneCell' = true := by
  intro u hu
  simp only [linesC, List.mem_flatMap, lineC] at hu
  obtain ⟨l, _, hl⟩ := hu
  simp at hl
  rcases hl with rfl | rfl <;> rfl
set_option maxRecDepth 100000 in
theorem lines_any {w bb ib lv L I} (h : Bd w bb ib lv L I) :
    Calls Try.prog 10 #[.pointer (some ⟨bb, 0, none⟩)] w fun e w' => ∃ v', e = .returned v' ∧ w'.ownsRow w.heap.size 31 2 v' L.length (linesC L) ∧ Below w.heap.size w w' := by
  obtain ⟨i0, hi0, hz0, hz1, hz2⟩ := info_parts info31
  have c0 := h.c0
  have hl := len_used L h.texts
  have hf := h.fits
  rcases h.own.2 with ⟨hv, hn⟩ | ⟨g, cap, cur, hv, -, hg, -⟩
  · have hL : L = [] := List.eq_nil_of_length_eq_zero hn
    subst hL hv
    clear h hl hf hn
    go_enter Try.func10, Try.ntmps10
    go_wp2_with (at_builtin; refine wpList_append_own_none rfl _ _ 28 rfl w.heap.size 31 i0 2 Try.underlying28 hi0 (.slice none 0 0) 0 [] rfl (World.ownsRow_nil _ _ _ _) rfl ?_)
    go_ret
    exact ⟨_, rfl, World.ownsRow_nil _ _ _ _, Below.refl _ _⟩
  · have hc := h.own.cells (g := g) (by rw [hv]; rfl)
    rw [hv] at c0
    have HC := Lib.hid hc
    clear h hc hg
    go_enter Try.func10, Try.ntmps10
    go_wp2_with (at_builtin; refine wpList_append_own _ rfl _ _ 28 rfl w.heap.size 31 i0 (.agg #[.int .i64 0, .string ⟨#[]⟩]) 2 24 Try.underlying28 hi0 hz0 hz1 hz2 rfl (by decide) (.slice none 0 0) 0 [] rfl (World.ownsRow_nil _ _ _ _) ⟨g, 0, none⟩ L.length cap (linesC L) rfl (linesC_len L) HC.out (linesC_one L) (by unfold maxLen; omega) (by omega) (Nat.le_refl _) ?_)
    intro v' w' h1 h2 h3
    go_wp2
    go_ret
    exact ⟨v', rfl, h1, ⟨h2.os, h2.tape, h2.output, h2.size, fun k hk => h2.block k hk (by simp [Value.ownBlock])⟩⟩
theorem clear_any {w bb ib lv L I} (h : Bd w bb ib lv L I) :
    Calls Try.prog 16 #[.pointer (some ⟨bb, 0, none⟩)] w fun e w' => e = .returned (.tuple #[]) ∧ Bd w' bb ib (.slice none 0 0) [] I ∧ Chg [bb] w w' := by
  have c0 := h.c0
  have c1 := h.c1
  have f0 := h.cfb 0
  have f1 := h.cfb 1
  have hB : Bd ((w.setCell ⟨bb, 0, none⟩ (.slice none 0 0)).setCell ⟨bb, 1, none⟩ (.int .i64 0)) bb ib (.slice none 0 0) [] I := by
    refine ⟨?_, ?_, World.ownsRow_nil _ _ _ _, h.ne, fun k hk => by simp [Value.ownBlock] at hk, h.len1, h.len4, h.small, fun l hl => by simp at hl, by simp [used]⟩
    · rw [row_setCell, if_pos rfl, row_setCell, if_pos rfl, h.row]; simp [used]
    · rw [row_setCell, if_neg (fun e => h.ne e.symm), row_setCell, if_neg (fun e => h.ne e.symm), h.ins]
  have HB := Lib.hid hB
  clear hB h
  go_enter Try.func16, Try.ntmps16
  go_wp2
  go_end0
  exact ⟨rfl, HB.out, ((chg_set _ _ _ _).setCell (Or.inl (by simp)) _)⟩
end Go.Proofs.L
