/- Proved here: lemmas and contracts (Say) for the laws of this seat, for all values of the stated types; no further condition. -/
import Derived.Test.YtefabfijlehfdaaFeed
import Derived.Deep.AppendLies
open Go Go.RowKit Go.Lib
namespace Go.Proofs.L
theorem info31 : (Try.prog.info? 31).map (fun i => (i.zero, i.size, i.bytes)) = some (some (.agg #[.int .i64 0, .string ⟨#[]⟩]), 2, 24) := by kernel_rfl
theorem own_drew {w : World} {base e size n : Nat} {v : Value} {xs : List Value} (h : w.ownsRow base e size v n xs) : w.drew.ownsRow base e size v n xs := h
theorem chg_grown {w w' : World} {row : Option Nat} (h : w.grownBy w' row) : Chg row.toList w w' :=
  ⟨h.os, h.tape, h.output, h.size, fun k hk hE => h.block k hk (fun e => hE (by rw [← e]; simp))⟩
set_option maxRecDepth 100000 in
set_option maxHeartbeats 1600000 in
theorem say_walk {w : World} {bb n u : Nat} {i : Int} {lv : Value} {xs : List Value} {t : ByteArray} (hn : n ≤ 256) (hu : u + t.size ≤ 256) (ht : 0 < t.size) (ht2 : t.size ≤ 64) (c0 : w.cell? ⟨bb, 0, none⟩ = some lv) (c1 : w.cell? ⟨bb, 1, none⟩ = some (.int .i64 (u : Int)))
    (cf : ∀ k, w.frozen? ⟨bb, k, none⟩ = false) (hbb : bb < w.heap.size) (hown : w.ownsRow 0 31 2 lv n xs) (hne : lv.ownBlock ≠ some bb) (hh : Calls Try.prog 18 #[.pointer (some ⟨bb, 0, none⟩), .int .i64 i] w fun e w' => e = .returned (.bool true) ∧ w' = w) :
    Calls Try.prog 9 #[.pointer (some ⟨bb, 0, none⟩), .int .i64 i, .string t] w fun e w' => e = .returned (.int .i64 0) ∧ ∃ g cap w2, w' = (w2.setCell ⟨bb, 0, none⟩ (.slice (some ⟨g, 0, none⟩) (n + 1) cap)).setCell ⟨bb, 1, none⟩ (.int .i64 ((u + t.size : Nat) : Int)) ∧
      w2.ownsRow 0 31 2 (.slice (some ⟨g, 0, none⟩) (n + 1) cap) (n + 1) (xs ++ [.int .i64 i, .string t]) ∧ Chg lv.ownBlock.toList w w2 ∧ (lv.ownBlock = some g ∨ w.heap.size ≤ g) := by
  obtain ⟨i0, hi0, hz0, hz1, hz2⟩ := info_parts info31
  have e1 := isE_ne ht
  have e2 := toL_ne ht
  have e3 : (!t.toList.isEmpty) = true := by rw [e1]; rfl
  have d1 : decide ((t.size : Int) > 64) = false := by simp; omega
  have d1' : decide (64 < (t.size : Int)) = false := by simp; omega
  have d2 : decide ((u : Int) + t.size > 256) = false := by simp; omega
  have d2' : decide (256 < (u : Int) + t.size) = false := by simp; omega
  have v1 : IntKind.i64.wrap ((u : Int) + t.size) = (u : Int) + t.size := IntWalk.i64_in _ (by omega)
  have HH := Lib.hid hh
  clear hh
  go_enter Try.func9, Try.ntmps9
  go_wp2_with fail
  refine HH.out.mono ?_
  rintro e w1 ⟨rfl, rfl⟩
  go_wp2_with fail
  refine wp_region_C (fun w' => w'.cell? ⟨bb, 0, none⟩ = some lv ∧ w'.cell? ⟨bb, 1, none⟩ = some (.int .i64 (u : Int))) [(0, 0), (1, 0), (2, 0), (3, 0), (4, 0), (5, 1), (6, 0), (7, 0), (8, 0), (11, 0), (12, 0), (13, 0), (14, 1), (15, 0), (16, 0), (17, 0), (9, 2), (10, 2), (18, 0), (19, 0), (20, 3), (21, 0), (22, 0), (23, 3)] rfl (by kernel_rfl) ?hS ?hT
  case hS => exact ⟨by go_simp, by go_simp⟩
  refine wpT_pure (v := ?_) rfl (by rfl) (fun w' => ?_) ?_
  rotate_left
  · (go_simp; try with_reducible rfl)
  try simp only [Act.put, List.setIfInBounds_toArray, List.set_cons_zero, List.set_cons_succ]
  refine wpT_pure (v := ?_) rfl (by rfl) (fun w' => ?_) ?_
  rotate_left
  · (go_simp; try with_reducible rfl)
  try simp only [Act.put, List.setIfInBounds_toArray, List.set_cons_zero, List.set_cons_succ]
  refine wpT_pure (v := ?_) rfl (by rfl) (fun w' => ?_) ?_
  rotate_left
  · (go_simp; try with_reducible rfl)
  try simp only [Act.put, List.setIfInBounds_toArray, List.set_cons_zero, List.set_cons_succ]
  refine wpT_pure (v := ?_) rfl (by rfl) (fun w' => ?_) ?_
  rotate_left
  · (go_simp; try with_reducible rfl)
  try simp only [Act.put, List.setIfInBounds_toArray, List.set_cons_zero, List.set_cons_succ]
  refine wpT_pure (v := ?_) rfl (by rfl) (fun w' => ?_) ?_
  rotate_left
  · (go_simp; try with_reducible rfl)
  try simp only [Act.put, List.setIfInBounds_toArray, List.set_cons_zero, List.set_cons_succ]
  refine wpT_read (v := ?_) rfl (by rfl) (fun w' hw => ?_) ?_
  rotate_left
  · (obtain ⟨q0, q1⟩ := hw; go_simp; try with_reducible rfl)
  try simp only [Act.put, List.setIfInBounds_toArray, List.set_cons_zero, List.set_cons_succ]
  refine wpT_pure (v := ?_) rfl (by rfl) (fun w' => ?_) ?_
  rotate_left
  · (go_simp; try with_reducible rfl)
  try simp only [Act.put, List.setIfInBounds_toArray, List.set_cons_zero, List.set_cons_succ]
  refine wpT_pure (v := ?_) rfl (by rfl) (fun w' => ?_) ?_
  rotate_left
  · (go_simp; try with_reducible rfl)
  try simp only [Act.put, List.setIfInBounds_toArray, List.set_cons_zero, List.set_cons_succ]
  refine wpT_pure (v := ?_) rfl (by rfl) (fun w' => ?_) ?_
  rotate_left
  · (go_simp; try with_reducible rfl)
  try simp only [Act.put, List.setIfInBounds_toArray, List.set_cons_zero, List.set_cons_succ]
  refine wpT_pure (v := ?_) rfl (by rfl) (fun w' => ?_) ?_
  rotate_left
  · (go_simp; try with_reducible rfl)
  try simp only [Act.put, List.setIfInBounds_toArray, List.set_cons_zero, List.set_cons_succ]
  refine wpT_pure (v := ?_) rfl (by rfl) (fun w' => ?_) ?_
  rotate_left
  · (go_simp; try with_reducible rfl)
  try simp only [Act.put, List.setIfInBounds_toArray, List.set_cons_zero, List.set_cons_succ]
  refine wpT_pure (v := ?_) rfl (by rfl) (fun w' => ?_) ?_
  rotate_left
  · (go_simp; try with_reducible rfl)
  try simp only [Act.put, List.setIfInBounds_toArray, List.set_cons_zero, List.set_cons_succ]
  refine wpT_read (v := ?_) rfl (by rfl) (fun w' hw => ?_) ?_
  rotate_left
  · (obtain ⟨q0, q1⟩ := hw; go_simp; try with_reducible rfl)
  try simp only [Act.put, List.setIfInBounds_toArray, List.set_cons_zero, List.set_cons_succ]
  refine wpT_pure (v := ?_) rfl (by rfl) (fun w' => ?_) ?_
  rotate_left
  · (go_simp; try with_reducible rfl)
  try simp only [Act.put, List.setIfInBounds_toArray, List.set_cons_zero, List.set_cons_succ]
  refine wpT_pure (v := ?_) rfl (by rfl) (fun w' => ?_) ?_
  rotate_left
  · (go_simp; try with_reducible rfl)
  try simp only [Act.put, List.setIfInBounds_toArray, List.set_cons_zero, List.set_cons_succ]
  refine wpT_pure (v := ?_) rfl (by rfl) (fun w' => ?_) ?_
  rotate_left
  · (go_simp; try with_reducible rfl)
  try simp only [Act.put, List.setIfInBounds_toArray, List.set_cons_zero, List.set_cons_succ]
  refine wpT_eff rfl (by rfl) (fun K hK => ?_)
  go_wp2_with fail
  refine hK _ _ ?_ ?_
  · exact ⟨by go_simp, by go_simp⟩
  clear hK K
  refine wpT_eff rfl (by rfl) (fun K hK => ?_)
  refine wpList_append_lies _ rfl _ _ 28 rfl 0 31 i0 (.agg #[.int .i64 0, .string ⟨#[]⟩]) 2 24 Try.underlying28 hi0 hz0 hz1 hz2 rfl (by decide) lv n xs rfl ((own_drew hown).alloc _) ⟨w1.heap.size, 0, none⟩ 1 1 [.int .i64 i, .string t] rfl rfl (World.news_of_block (cs := #[.int .i64 i, .string t]) (t := 31) (fr := (0, 0)) (heap_alloc_new _ _)) (by simp [Value.oneCell']) (by omega) (by unfold maxLen; omega) (by omega) (Nat.zero_le _) (w1.heap.size + 1) (by simp) ?_
  intro g cap w2 hown2 hg2 hat hlt
  have hnb : some bb ≠ lv.ownBlock := fun e => hne e.symm
  have c0' : w2.cell? ⟨bb, 0, none⟩ = some lv := hg2.cell (by go_simp) hnb
  have c1' : w2.cell? ⟨bb, 1, none⟩ = some (.int .i64 (u : Int)) := hg2.cell (by go_simp) hnb
  have f0' : w2.frozen? ⟨bb, 0, none⟩ = false := (World.frozen?_of_block (hg2.block bb (by simp; omega) hnb)).trans (by go_simp)
  have f1' : w2.frozen? ⟨bb, 1, none⟩ = false := (World.frozen?_of_block (hg2.block bb (by simp; omega) hnb)).trans (by go_simp)
  refine wpList_nil ?_
  refine hK _ _ ⟨c0', c1'⟩ ?_
  clear hK K
  have HC := Lib.hid cf
  have HN := Lib.hid hnb
  have HNE := Lib.hid hne
  have HA := Lib.hid hat
  have HG := Lib.hid hg2
  clear cf hnb hne hat hg2
  try simp only [Act.put, List.setIfInBounds_toArray, List.set_cons_zero, List.set_cons_succ]
  refine wpT_pure (v := ?_) rfl (by rfl) (fun w' => ?_) ?_
  rotate_left
  · (go_simp; try with_reducible rfl)
  try simp only [Act.put, List.setIfInBounds_toArray, List.set_cons_zero, List.set_cons_succ]
  refine wpT_pure (v := ?_) rfl (by rfl) (fun w' => ?_) ?_
  rotate_left
  · (go_simp; try with_reducible rfl)
  try simp only [Act.put, List.setIfInBounds_toArray, List.set_cons_zero, List.set_cons_succ]
  refine wpT_brk rfl (by rfl) (fun K hK => ?_)
  go_wp2_with fail
  refine wpT_pure (v := ?_) rfl (by rfl) (fun w' => ?_) ?_
  rotate_left
  · (go_simp; try with_reducible rfl)
  try simp only [Act.put, List.setIfInBounds_toArray, List.set_cons_zero, List.set_cons_succ]
  refine wpT_pure (v := ?_) rfl (by rfl) (fun w' => ?_) ?_
  rotate_left
  · (go_simp; try with_reducible rfl)
  try simp only [Act.put, List.setIfInBounds_toArray, List.set_cons_zero, List.set_cons_succ]
  refine wpT_brk rfl (by rfl) (fun K hK => ?_)
  go_wp2_with fail
  refine wpT_end ?_
  go_wp2
  go_ret
  refine ⟨rfl, g, cap, w2, by push_cast; rfl, hown2, ?_, ?_⟩
  · exact (((Chg.refl _ _).alloc _).drew).trans (chg_grown HG.out)
  · rcases HA.out with h | h
    · exact .inl h
    · exact .inr (by omega)
theorem say_out {w bb ib lv L I} (h : Bd w bb ib lv L I) (i : Int) (t : ByteArray) (hi : inB i I.length = false) :
    Calls Try.prog 9 #[.pointer (some ⟨bb, 0, none⟩), .int .i64 i, .string t] w fun e w' => e = .returned (.int .i64 1) ∧ w' = w := by
  have hh := has_any h i
  rw [hi] at hh
  clear h hi
  go_enter Try.func9, Try.ntmps9
  go_wp2_with fail
  refine hh.mono ?_
  rintro e w1 ⟨rfl, rfl⟩
  go_wp2
  go_ret
  exact ⟨rfl, rfl⟩
theorem say_long {w bb ib lv L I} (h : Bd w bb ib lv L I) (i : Int) (t : ByteArray) (hi : inB i I.length = true) (ht : 64 < t.size) :
    Calls Try.prog 9 #[.pointer (some ⟨bb, 0, none⟩), .int .i64 i, .string t] w fun e w' => e = .returned (.int .i64 1) ∧ w' = w := by
  have hh := has_any h i
  rw [hi] at hh
  have d1 : decide ((t.size : Int) > 64) = true := by simp; omega
  have d1' : decide (64 < (t.size : Int)) = true := by simp; omega
  clear h hi ht
  go_enter Try.func9, Try.ntmps9
  go_wp2_with fail
  refine hh.mono ?_
  rintro e w1 ⟨rfl, rfl⟩
  go_wp2
  go_ret
  exact ⟨rfl, rfl⟩
theorem say_full {w bb ib lv L I} (h : Bd w bb ib lv L I) (i : Int) (t : ByteArray) (hi : inB i I.length = true) (ht : t.size ≤ 64) (hf : 256 < used L + t.size) :
    Calls Try.prog 9 #[.pointer (some ⟨bb, 0, none⟩), .int .i64 i, .string t] w fun e w' => e = .returned (.int .i64 16) ∧ w' = w := by
  have hh := has_any h i
  rw [hi] at hh
  have c1 := h.c1
  have hu := h.fits
  obtain ⟨u, hu'⟩ : ∃ u, u = used L := ⟨_, rfl⟩
  rw [← hu'] at c1 hu hf
  have d1 : decide ((t.size : Int) > 64) = false := by simp; omega
  have d1' : decide (64 < (t.size : Int)) = false := by simp; omega
  have d2 : decide ((u : Int) + t.size > 256) = true := by simp; omega
  have d2' : decide (256 < (u : Int) + t.size) = true := by simp; omega
  clear h hi hu'
  go_enter Try.func9, Try.ntmps9
  go_wp2_with fail
  refine hh.mono ?_
  rintro e w1 ⟨rfl, rfl⟩
  go_wp2
  go_ret
  exact ⟨rfl, rfl⟩
theorem say_empty {w bb ib lv L I} (h : Bd w bb ib lv L I) (i : Int) (t : ByteArray) (hi : inB i I.length = true) (ht : t.size = 0) :
    Calls Try.prog 9 #[.pointer (some ⟨bb, 0, none⟩), .int .i64 i, .string t] w fun e w' => e = .returned (.int .i64 0) ∧ w' = w := by
  have hh := has_any h i
  rw [hi] at hh
  have c1 := h.c1
  have hu := h.fits
  obtain ⟨u, hu'⟩ : ∃ u, u = used L := ⟨_, rfl⟩
  rw [← hu'] at c1 hu
  have e1 := isE_of ht
  have e2 := toL_of ht
  have e3 : (!t.toList.isEmpty) = false := by rw [e1]; rfl
  have d1 : decide ((t.size : Int) > 64) = false := by simp; omega
  have d1' : decide (64 < (t.size : Int)) = false := by simp; omega
  have d2 : decide ((u : Int) + t.size > 256) = false := by simp; omega
  have d2' : decide (256 < (u : Int) + t.size) = false := by simp; omega
  clear h hi hu' e1
  go_enter Try.func9, Try.ntmps9
  go_wp2_with fail
  refine hh.mono ?_
  rintro e w1 ⟨rfl, rfl⟩
  go_wp2
  go_ret
  exact ⟨rfl, rfl⟩
theorem used_snoc (L : List (Int × ByteArray)) (x : Int × ByteArray) : used (L ++ [x]) = used L + x.2.size := by simp [used]
theorem linesC_snoc (L : List (Int × ByteArray)) (x : Int × ByteArray) : linesC (L ++ [x]) = linesC L ++ lineC x := by simp [linesC]
theorem len_used (L : List (Int × ByteArray)) (h : ∀ l ∈ L, 1 ≤ l.2.size ∧ l.2.size ≤ 64) : L.length ≤ used L := by
  induction L with
  | nil => simp [used]
  | cons x L ih =>
    have h1 := ih (fun l hl => h l (by simp [hl]))
    have h2 := (h x (by simp)).1
    simp [used] at h1 ⊢
    omega
theorem say_ok {w bb ib lv L I} (h : Bd w bb ib lv L I) (i : Int) (t : ByteArray) (hi : inB i I.length = true) (ht : 0 < t.size) (ht2 : t.size ≤ 64) (hf : used L + t.size ≤ 256) :
    Calls Try.prog 9 #[.pointer (some ⟨bb, 0, none⟩), .int .i64 i, .string t] w fun e w' => e = .returned (.int .i64 0) ∧ ∃ lv', Bd w' bb ib lv' (L ++ [(i, t)]) I ∧ Chg (bb :: lv.ownBlock.toList) w w' ∧ (∀ k, lv'.ownBlock = some k → lv.ownBlock = some k ∨ w.heap.size ≤ k) := by
  have hh := has_any h i
  rw [hi] at hh
  have hl := len_used L h.texts
  have hbb := row_lt h.row
  have hib := row_lt h.ins
  refine (say_walk (by omega) hf ht ht2 h.c0 h.c1 h.cfb hbb h.own (fun e => (h.apart bb e).1 rfl) hh).mono ?_
  rintro e w' ⟨rfl, g, cap, w2, rfl, hown, hC, hg⟩
  have hgb : g ≠ bb ∧ g ≠ ib := by
    rcases hg with hg | hg
    · exact h.apart g hg
    · omega
  have hrow : w2.row? bb = some #[lv, .int .i64 (used L : Int), .slice (some ⟨ib, 0, none⟩) I.length I.length] := by
    rw [hC.row hbb (by intro hm; simp at hm; exact (h.apart bb hm).1 rfl)]; exact h.row
  have hins : w2.row? ib = some (strC I) := by
    rw [hC.row hib (by intro hm; simp at hm; exact (h.apart ib hm).2 rfl)]; exact h.ins
  have hC' : Chg (bb :: lv.ownBlock.toList) w ((w2.setCell ⟨bb, 0, none⟩ (.slice (some ⟨g, 0, none⟩) (L.length + 1) cap)).setCell ⟨bb, 1, none⟩ (.int .i64 ((used L + t.size : Nat) : Int))) := by
    have h0 : Chg (bb :: lv.ownBlock.toList) w w2 := ⟨hC.os, hC.tape, hC.output, hC.size, fun k hk hE => hC.block k hk (fun hm => hE (by simp [List.mem_cons] at hm ⊢; exact .inr hm))⟩
    exact (h0.setCell (Or.inl (by simp)) _).setCell (Or.inl (by simp)) _
  refine ⟨rfl, .slice (some ⟨g, 0, none⟩) (L.length + 1) cap, ⟨?_, ?_, ?_, h.ne, ?_, h.len1, h.len4, h.small, ?_, by rw [used_snoc]; exact hf⟩, hC', ?_⟩
  · rw [row_setCell, if_pos rfl, row_setCell, if_pos rfl, hrow, used_snoc]; simp
  · rw [row_setCell, if_neg (fun e => h.ne e.symm), row_setCell, if_neg (fun e => h.ne e.symm), hins]
  · rw [linesC_snoc, List.length_append]
    refine ownsRow_chg hown (((Chg.refl [bb] w2).setCell (Or.inl (by simp)) _).setCell (Or.inl (by simp)) _) (fun k hk => ?_)
    simp only [Value.ownBlock, Option.some.injEq] at hk
    subst hk
    simpa using hgb.1
  · intro k hk
    simp only [Value.ownBlock, Option.some.injEq] at hk
    subst hk
    exact hgb
  · intro l hl
    rcases List.mem_append.1 hl with hl | hl
    · exact h.texts l hl
    · obtain rfl : l = (i, t) := by simpa using hl
      exact ⟨ht, ht2⟩
  · intro k hk
    simp only [Value.ownBlock, Option.some.injEq] at hk
    subst hk
    exact hg

end Go.Proofs.L
