/- Proved here: lemmas and contracts (RefSay) for the laws of this seat, for all values of the stated types; no further condition. -/
import Derived.Test.YtefabfijlehfdaaRefHear
open Go Go.RowKit Go.Lib
namespace Go.Proofs.L
theorem info3 : (Try.prog.info? 3).map (fun i => (i.zero, i.size, i.bytes)) = some (some (.int .i64 0), 1, 8) := by kernel_rfl
theorem info9 : (Try.prog.info? 9).map (fun i => (i.zero, i.size, i.bytes)) = some (some (.string ⟨#[]⟩), 1, 16) := by kernel_rfl
theorem Chg.weak {E E' : List Nat} {a b : World} (h : Chg E a b) (hs : ∀ k ∈ E, k ∈ E') : Chg E' a b := ⟨h.os, h.tape, h.output, h.size, fun k hk hE => h.block k hk (fun hm => hE (hs k hm))⟩
theorem rsay_long {w bb ib wv tv L I} (h : Rf w bb ib wv tv L I) (k : Nat) (t : ByteArray) (hk : k < I.length) (ht : 64 < t.size) :
    Calls Try.prog 13 #[.pointer (some ⟨bb, 0, none⟩), .int .i64 (k : Int), .string t] w fun e w' => e = .returned (.int .i64 1) ∧ w' = w := by
  have c2 := h.c2
  have l4 := h.len4
  obtain ⟨n, hn⟩ : ∃ n, n = I.length := ⟨_, rfl⟩
  rw [← hn] at c2 l4 hk
  have d0 : decide ((k : Int) < 0) = false := by simp
  have d1 : decide ((k : Int) ≥ (n : Int)) = false := by simp; omega
  have d2 : decide (n ≤ k) = false := by simp; omega
  have e1 : decide ((t.size : Int) > 64) = true := by simp; omega
  have e2 : decide (64 < (t.size : Int)) = true := by simp; omega
  clear h hn
  go_enter Try.func13, Try.ntmps13
  go_wp2
  go_ret
  exact ⟨rfl, rfl⟩
theorem rsay_full {w bb ib wv tv L I} (h : Rf w bb ib wv tv L I) (k : Nat) (t : ByteArray) (hk : k < I.length) (ht : t.size ≤ 64) (hf : 256 < used L + t.size) :
    Calls Try.prog 13 #[.pointer (some ⟨bb, 0, none⟩), .int .i64 (k : Int), .string t] w fun e w' => e = .returned (.int .i64 16) ∧ w' = w := by
  have hu := used_any h
  have hfit := h.fits
  have c2 := h.c2
  have l4 := h.len4
  obtain ⟨n, hn⟩ : ∃ n, n = I.length := ⟨_, rfl⟩
  rw [← hn] at c2 l4 hk
  obtain ⟨u, hu'⟩ : ∃ u, u = used L := ⟨_, rfl⟩
  rw [← hu'] at hu hf hfit
  have d0 : decide ((k : Int) < 0) = false := by simp
  have d1 : decide ((k : Int) ≥ (n : Int)) = false := by simp; omega
  have d2 : decide (n ≤ k) = false := by simp; omega
  have e1 : decide ((t.size : Int) > 64) = false := by simp; omega
  have e2 : decide (64 < (t.size : Int)) = false := by simp; omega
  have e3 : decide ((u : Int) + t.size > 256) = true := by simp; omega
  have e4 : decide (256 < (u : Int) + t.size) = true := by simp; omega
  have HU := Lib.hid hu
  clear h hn hu hu'
  go_enter Try.func13, Try.ntmps13
  go_wp2_with fail
  refine HU.out.mono ?_
  rintro e w1 ⟨rfl, rfl⟩
  go_wp2
  go_ret
  exact ⟨rfl, rfl⟩
theorem rsay_empty {w bb ib wv tv L I} (h : Rf w bb ib wv tv L I) (k : Nat) (t : ByteArray) (hk : k < I.length) (ht : t.size = 0) :
    Calls Try.prog 13 #[.pointer (some ⟨bb, 0, none⟩), .int .i64 (k : Int), .string t] w fun e w' => e = .returned (.int .i64 0) ∧ w' = w := by
  have hu := used_any h
  have hfit := h.fits
  have c2 := h.c2
  have l4 := h.len4
  obtain ⟨n, hn⟩ : ∃ n, n = I.length := ⟨_, rfl⟩
  rw [← hn] at c2 l4 hk
  obtain ⟨u, hu'⟩ : ∃ u, u = used L := ⟨_, rfl⟩
  rw [← hu'] at hu hfit
  have d0 : decide ((k : Int) < 0) = false := by simp
  have d1 : decide ((k : Int) ≥ (n : Int)) = false := by simp; omega
  have d2 : decide (n ≤ k) = false := by simp; omega
  have e1 : decide ((t.size : Int) > 64) = false := by simp; omega
  have e2 : decide (64 < (t.size : Int)) = false := by simp; omega
  have e3 : decide ((u : Int) + t.size > 256) = false := by simp; omega
  have e4 : decide (256 < (u : Int) + t.size) = false := by simp; omega
  have f2 := toL_of ht
  have f3 : (!t.toList.isEmpty) = false := by rw [isE_of ht]; rfl
  have HU := Lib.hid hu
  clear h hn hu hu'
  go_enter Try.func13, Try.ntmps13
  go_wp2_with fail
  refine HU.out.mono ?_
  rintro e w1 ⟨rfl, rfl⟩
  go_wp2
  go_ret
  exact ⟨rfl, rfl⟩
set_option maxRecDepth 100000 in
set_option maxHeartbeats 1600000 in
theorem rsay_ok {w bb ib wv tv L I} (h : Rf w bb ib wv tv L I) (k : Nat) (t : ByteArray) (hk : k < I.length) (ht : 0 < t.size) (ht2 : t.size ≤ 64) (hf : used L + t.size ≤ 256) :
    Calls Try.prog 13 #[.pointer (some ⟨bb, 0, none⟩), .int .i64 (k : Int), .string t] w fun e w' => e = .returned (.int .i64 0) ∧ ∃ wv' tv', Rf w' bb ib wv' tv' (L ++ [((k : Int), t)]) I ∧ Chg (bb :: (wv.ownBlock.toList ++ tv.ownBlock.toList)) w w' ∧
      (∀ j, wv'.ownBlock = some j → wv.ownBlock = some j ∨ w.heap.size ≤ j) ∧ (∀ j, tv'.ownBlock = some j → tv.ownBlock = some j ∨ w.heap.size ≤ j) := by
  have hu := used_any h
  have hfit := h.fits
  have hl := len_used L h.texts
  have c0 := h.c0
  have c1 := h.c1
  have c2 := h.c2
  have l4 := h.len4
  have f0 := h.cfb 0
  have f1 := h.cfb 1
  have hbb := row_lt h.row
  have hib := row_lt h.ins
  have nb1 : some bb ≠ wv.ownBlock := fun e => (h.apart bb e.symm).1 rfl
  have nb2 : some bb ≠ tv.ownBlock := fun e => (h.apartT bb e.symm).1 rfl
  have hH := Lib.hid h
  obtain ⟨i3, a1, a2, a3, a4⟩ := info_parts info3
  obtain ⟨i9, b1, b2, b3, b4⟩ := info_parts info9
  obtain ⟨n, hn⟩ : ∃ n, n = I.length := ⟨_, rfl⟩
  rw [← hn] at c2 l4
  have hk2 : k < n := by omega
  have own := Lib.hid h.own
  have ownT := Lib.hid h.ownT
  obtain ⟨m, hm⟩ : ∃ m, m = L.length := ⟨_, rfl⟩
  rw [← hm] at own ownT hl
  obtain ⟨u, hu'⟩ : ∃ u, u = used L := ⟨_, rfl⟩
  rw [← hu'] at hu hfit hf hl
  have d0 : decide ((k : Int) < 0) = false := by simp
  have d1 : decide ((k : Int) ≥ (n : Int)) = false := by simp; omega
  have d2 : decide (n ≤ k) = false := by simp; omega
  have e1 : decide ((t.size : Int) > 64) = false := by simp; omega
  have e2 : decide (64 < (t.size : Int)) = false := by simp; omega
  have e3 : decide ((u : Int) + t.size > 256) = false := by simp; omega
  have e4 : decide (256 < (u : Int) + t.size) = false := by simp; omega
  have g2 := toL_ne ht
  have g3 : (!t.toList.isEmpty) = true := by rw [isE_ne ht]; rfl
  have HU := Lib.hid hu
  have HN := Lib.hid hn
  have HM := Lib.hid hm
  have HU2 := Lib.hid hu'
  have NB1 := Lib.hid nb1
  have NB2 := Lib.hid nb2
  have hm256 : m ≤ 256 := by omega
  clear h hn hu hu' hm nb1 nb2 hk
  go_enter Try.func13, Try.ntmps13
  go_wp2_with fail
  refine HU.out.mono ?_
  rintro e w1 ⟨rfl, rfl⟩
  go_wp2_with (at_builtin; refine wpList_append_lies _ rfl _ _ 39 rfl 0 3 i3 (.int .i64 0) 1 8 Try.underlying39 a1 a2 a3 a4 rfl (by decide) wv m (whoC L) rfl (own.out.alloc _) ⟨w1.heap.size, 0, none⟩ 1 1 [.int .i64 (k : Int)] rfl rfl (World.news_of_block (cs := #[.int .i64 (k : Int)]) (t := 3) (fr := (0, 0)) (heap_alloc_new _ _)) (by simp [Value.oneCell']) (by omega) (by unfold maxLen; omega) (by omega) (Nat.zero_le _) (w1.heap.size + 1) (by simp) ?_)
  intro g1 cap1 w2 hown2 hg2 hat2 hlt2
  have c0' : w2.cell? ⟨bb, 0, none⟩ = some wv := hg2.cell (by go_simp) NB1.out
  have c1' : w2.cell? ⟨bb, 1, none⟩ = some tv := hg2.cell (by go_simp) NB1.out
  have f0' : w2.frozen? ⟨bb, 0, none⟩ = false := (World.frozen?_of_block (hg2.block bb (by simp; omega) NB1.out)).trans (by go_simp)
  have f1' : w2.frozen? ⟨bb, 1, none⟩ = false := (World.frozen?_of_block (hg2.block bb (by simp; omega) NB1.out)).trans (by go_simp)
  have hC2 : Chg wv.ownBlock.toList w1 w2 := ((Chg.refl _ _).alloc _).trans (chg_grown hg2)
  have O2 := Lib.hid hown2
  have C2 := Lib.hid hC2
  have A2 := Lib.hid hat2
  have hs2 := C2.out.size
  clear hown2 hC2 hat2 hg2 c0 c1 f0 f1
  have hT2 : (w2.setCell ⟨bb, 0, none⟩ (.slice (some ⟨g1, 0, none⟩) (m + 1) cap1)).ownsRow 0 9 1 tv m (txtC L) :=
    ownsRow_chg (ownsRow_chg ownT.out C2.out (fun j hj hm => (hH.out.apart j (by simpa using hm)).2.2 hj)) (chg_set _ bb 0 _) (fun j hj => by simpa using (hH.out.apartT j hj).1)
  have OT2 := Lib.hid hT2
  clear hT2
  have hbb2 : bb < w2.heap.size := by omega
  go_wp2_with (at_builtin; refine wpList_append_lies _ rfl _ _ 38 rfl 0 9 i9 (.string ⟨#[]⟩) 1 16 Try.underlying38 b1 b2 b3 b4 rfl (by decide) tv m (txtC L) rfl (OT2.out.alloc _) ⟨w2.heap.size, 0, none⟩ 1 1 [.string t] rfl rfl (World.news_of_block (cs := #[.string t]) (t := 9) (fr := (0, 0)) (by simpa using heap_alloc_new (w2.setCell ⟨bb, 0, none⟩ (.slice (some ⟨g1, 0, none⟩) (m + 1) cap1)) (.cells #[.string t] 9))) (by simp [Value.oneCell']) (by omega) (by unfold maxLen; omega) (by omega) (Nat.zero_le _) (w2.heap.size + 1) (by simp) ?_)
  intro g3 cap3 w3 hown3 hg3 hat3 hlt3
  have c0'' : w3.cell? ⟨bb, 0, none⟩ = some (.slice (some ⟨g1, 0, none⟩) (m + 1) cap1) := hg3.cell (by go_simp) NB2.out
  have c1'' : w3.cell? ⟨bb, 1, none⟩ = some tv := hg3.cell (by go_simp) NB2.out
  have f1'' : w3.frozen? ⟨bb, 1, none⟩ = false := (World.frozen?_of_block (hg3.block bb (by simp; omega) NB2.out)).trans (by go_simp)
  have O3 := Lib.hid hown3
  have G3 := Lib.hid hg3
  have A3 := Lib.hid hat3
  clear hown3 hg3 hat3 c0' c1' f0' f1'
  go_wp2
  go_ret
  have H := hH.out
  have hlw : ∀ j, wv.ownBlock = some j → j < w1.heap.size := fun j hj => (H.own.lt j hj).2
  have hlt' : ∀ j, tv.ownBlock = some j → j < w1.heap.size := fun j hj => (H.ownT.lt j hj).2
  have q1 : g1 ≠ bb ∧ g1 ≠ ib ∧ tv.ownBlock ≠ some g1 := by
    rcases A2.out with e | e
    · exact H.apart g1 e
    · exact ⟨by omega, by omega, fun e' => by have := hlt' g1 e'; omega⟩
  have q3 : g3 ≠ bb ∧ g3 ≠ ib ∧ g3 ≠ g1 := by
    rcases A3.out with e | e
    · exact ⟨(H.apartT g3 e).1, (H.apartT g3 e).2, fun e' => q1.2.2 (by rw [← e']; exact e)⟩
    · exact ⟨by omega, by omega, by omega⟩
  have K1 : Chg [bb] w2 (w2.setCell ⟨bb, 0, none⟩ (.slice (some ⟨g1, 0, none⟩) (m + 1) cap1)) := chg_set _ _ _ _
  have K2 : Chg tv.ownBlock.toList (w2.setCell ⟨bb, 0, none⟩ (.slice (some ⟨g1, 0, none⟩) (m + 1) cap1)) w3 := ((Chg.refl _ _).alloc _).trans (chg_grown G3.out)
  have K3 : Chg [bb] w3 (w3.setCell ⟨bb, 1, none⟩ (.slice (some ⟨g3, 0, none⟩) (m + 1) cap3)) := chg_set _ _ _ _
  have nbw : bb ∉ wv.ownBlock.toList := fun hm => NB1.out (Eq.symm (by simpa using hm : wv.ownBlock = some bb))
  have nbt : bb ∉ tv.ownBlock.toList := fun hm => NB2.out (Eq.symm (by simpa using hm : tv.ownBlock = some bb))
  have niw : ib ∉ wv.ownBlock.toList := fun hm => (H.apart ib (by simpa using hm)).2.1 rfl
  have nit : ib ∉ tv.ownBlock.toList := fun hm => (H.apartT ib (by simpa using hm)).2 rfl
  have r2 : w2.row? bb = some #[wv, tv, .slice (some ⟨ib, 0, none⟩) I.length I.length] := by rw [C2.out.row hbb nbw]; exact H.row
  have i2 : w2.row? ib = some (strC I) := by rw [C2.out.row hib niw]; exact H.ins
  have hib2 : ib < w2.heap.size := by omega
  have hne : ib ≠ bb := fun e => H.ne e.symm
  have hsz : ∀ v, (w2.setCell ⟨bb, 0, none⟩ v).heap.size = w2.heap.size := fun v => by simp
  have L1 : (L ++ [((k : Int), t)]).length = m + 1 := by rw [List.length_append, ← HM.out]; rfl
  refine ⟨rfl, .slice (some ⟨g1, 0, none⟩) (m + 1) cap1, .slice (some ⟨g3, 0, none⟩) (m + 1) cap3, ⟨?_, ?_, ?_, ?_, H.ne, ?_, ?_, H.len1, H.len4, H.small, ?_, by rw [used_snoc, ← HU2.out]; exact hf⟩, ?_, ?_, ?_⟩
  · rw [row_setCell, if_pos rfl, K2.row (by rw [hsz]; exact hbb2) nbt, row_setCell, if_pos rfl, r2]; simp
  · rw [row_setCell, if_neg hne, K2.row (by rw [hsz]; exact hib2) nit, row_setCell, if_neg hne, i2]
  · rw [L1, show whoC (L ++ [((k : Int), t)]) = whoC L ++ [.int .i64 (k : Int)] from by simp [whoC]]
    refine ownsRow_chg (ownsRow_chg (ownsRow_chg O2.out K1 ?_) K2 ?_) K3 ?_
    · intro j hj; simp only [Value.ownBlock, Option.some.injEq] at hj; subst hj; simpa using q1.1
    · intro j hj; simp only [Value.ownBlock, Option.some.injEq] at hj; subst hj; simpa using q1.2.2
    · intro j hj; simp only [Value.ownBlock, Option.some.injEq] at hj; subst hj; simpa using q1.1
  · rw [L1, show txtC (L ++ [((k : Int), t)]) = txtC L ++ [.string t] from by simp [txtC]]
    refine ownsRow_chg O3.out K3 ?_
    intro j hj; simp only [Value.ownBlock, Option.some.injEq] at hj; subst hj; simpa using q3.1
  · intro j hj
    simp only [Value.ownBlock, Option.some.injEq] at hj
    subst hj
    exact ⟨q1.1, q1.2.1, fun e => q3.2.2 (by simpa [Value.ownBlock] using e)⟩
  · intro j hj
    simp only [Value.ownBlock, Option.some.injEq] at hj
    subst hj
    exact ⟨q3.1, q3.2.1⟩
  · intro l hl
    rcases List.mem_append.1 hl with hl | hl
    · exact H.texts l hl
    · obtain rfl : l = ((k : Int), t) := by simpa using hl
      exact ⟨ht, ht2⟩
  · have w1' := C2.out.weak (E' := bb :: (wv.ownBlock.toList ++ tv.ownBlock.toList)) (fun j hj => by simp at hj ⊢; exact .inr (.inl hj))
    have w2' := K1.weak (E' := bb :: (wv.ownBlock.toList ++ tv.ownBlock.toList)) (fun j hj => by simp at hj ⊢; exact .inl hj)
    have w3' := K2.weak (E' := bb :: (wv.ownBlock.toList ++ tv.ownBlock.toList)) (fun j hj => by simp at hj ⊢; exact .inr (.inr hj))
    have w4' := K3.weak (E' := bb :: (wv.ownBlock.toList ++ tv.ownBlock.toList)) (fun j hj => by simp at hj ⊢; exact .inl hj)
    exact ((w1'.trans w2').trans w3').trans w4'
  · intro j hj
    simp only [Value.ownBlock, Option.some.injEq] at hj
    subst hj
    rcases A2.out with e | e
    · exact .inl e
    · exact .inr (by omega)
  · intro j hj
    simp only [Value.ownBlock, Option.some.injEq] at hj
    subst hj
    rcases A3.out with e | e
    · exact .inl e
    · exact .inr (by omega)
end Go.Proofs.L
