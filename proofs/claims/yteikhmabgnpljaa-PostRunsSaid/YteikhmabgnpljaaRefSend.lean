/- Proved here: lemmas and contracts (RefSend) for the laws of this seat, for all values of the stated types; no further condition. -/
import Derived.Test.YteikhmabgnpljaaRefPost
open Go Go.RowKit Go.Lib Go.Conc
namespace Go.Proofs.L
theorem info43 : (Try.prog.info? 43).map (fun i => (i.zero, i.size, i.bytes)) = some (some (.agg #[.int .i64 0, .string ⟨#[]⟩]), 2, 24) := by kernel_rfl
theorem rsend_walk {w : World} {rb rg n i m : Nat} {vi : Value} {L : List (Int × ByteArray)} (c0 : w.cell? ⟨rb, 0, none⟩ = some (.slice (some ⟨rg, 0, none⟩) n n)) (ci : w.cell? ⟨rg, i, none⟩ = some vi) (fi : w.frozen? ⟨rg, i, none⟩ = false)
    (hlt : rb < w.heap.size) (hlt2 : rg < w.heap.size) (hne : rb ≠ rg) (hi : i < n) (hn4 : n ≤ 4) (l : Int × ByteArray) (ht : 1 ≤ l.2.size ∧ l.2.size ≤ 16) (hm : L.length = m) (hm4 : m < 4) (hwin : Win w 2 vi m (letsC L)) (hvb : ∀ k, vi.ownBlock = some k → k ≠ rb ∧ k ≠ rg ∧ k < w.heap.size) :
    Calls Try.prog 11 #[.pointer (some ⟨rb, 0, none⟩), .int .i64 i, letV l] w fun e w' => e = .returned (.int .i64 0) ∧ ∃ v' W3, Win W3 2 v' (m + 1) (letsC L ++ letC l) ∧ Chg vi.ownBlock.toList w W3 ∧ (v'.ownBlock = vi.ownBlock ∨ ∃ H, v'.ownBlock = some H ∧ w.heap.size ≤ H) ∧ w' = W3.setCell ⟨rg, i, none⟩ v' := by
  obtain ⟨i0, hi0, hz0, hz1, hz2⟩ := info_parts info43
  obtain ⟨p, cap, hv, -⟩ := hwin.form
  have d0 : decide ((i : Int) < 0) = false := by simp
  have d1 : decide ((n : Int) ≤ i) = false := by simp; omega
  have d2 : decide ((i : Int) ≥ (n : Int)) = false := by simp; omega
  obtain ⟨z, hz⟩ : ∃ z, z = l.2.size := ⟨_, rfl⟩
  rw [← hz] at ht
  have e1 : decide ((z : Int) < 1) = false := by simp; omega
  have e2 : decide ((z : Int) > 16) = false := by simp; omega
  have e3 : decide (16 < (z : Int)) = false := by simp; omega
  rw [hz] at e1 e2 e3
  have dm : ((m : Int) == 4) = false := by simp; omega
  have dm2 : decide ((m : Int) = 4) = false := by simp; omega
  have hlen := fun ty (wx : World) => (show (Builtin.len_ #[48] ty #[vi]).run Try.prog wx = .ok (goInt m) wx by subst hv; go_simp)
  have HW := Lib.hid hwin
  have HB := Lib.hid hvb
  have HM := Lib.hid hm
  clear ht hz hwin hvb hm hv
  unfold letV
  go_enter Try.func11, Try.ntmps11
  go_wp2_with fail
  refine wp_region_C (fun w' => w'.cell? ⟨rb, 0, none⟩ = some (.slice (some ⟨rg, 0, none⟩) n n) ∧ w'.cell? ⟨rg, i, none⟩ = some vi ∧ w'.cell? ⟨w.heap.size, 0, none⟩ = some (.int .i64 l.1) ∧ w'.cell? ⟨w.heap.size, 1, none⟩ = some (.string l.2)) [(0, 0), (1, 0), (2, 0), (3, 1), (4, 0), (5, 0), (6, 0), (7, 0), (8, 1), (9, 0), (10, 0), (11, 1), (12, 1), (13, 2), (14, 2), (15, 0), (16, 3)] rfl (by kernel_rfl) ?hS ?hT
  case hS => exact ⟨by go_simp, by go_simp, by go_simp, by go_simp⟩
  refine wpT_pureD (v := ?_) (some 39) rfl rfl (by rfl) (fun w' => ?_) ?_
  rotate_left
  · (go_simp; try with_reducible rfl)
  try simp only [Act.put, List.setIfInBounds_toArray, List.set_cons_zero, List.set_cons_succ]
  refine wpT_pureD (v := ?_) (some 40) rfl rfl (by rfl) (fun w' => ?_) ?_
  rotate_left
  · (go_simp; try with_reducible rfl)
  try simp only [Act.put, List.setIfInBounds_toArray, List.set_cons_zero, List.set_cons_succ]
  refine wpT_pureD (v := ?_) (some 41) rfl rfl (by rfl) (fun w' => ?_) ?_
  rotate_left
  · (go_simp; try with_reducible rfl)
  try simp only [Act.put, List.setIfInBounds_toArray, List.set_cons_zero, List.set_cons_succ]
  refine wpT_readD (v := ?_) (some 42) rfl rfl (by rfl) (fun w' hw => ?_) ?_
  rotate_left
  · (obtain ⟨q0, q1, q2, q3⟩ := hw; go_simp; try with_reducible rfl)
  try simp only [Act.put, List.setIfInBounds_toArray, List.set_cons_zero, List.set_cons_succ]
  refine wpT_pureD (v := ?_) (some 43) rfl rfl (by rfl) (fun w' => ?_) ?_
  rotate_left
  · (go_simp; try with_reducible rfl)
  try simp only [Act.put, List.setIfInBounds_toArray, List.set_cons_zero, List.set_cons_succ]
  refine wpT_pureD (v := ?_) (some 44) rfl rfl (by rfl) (fun w' => ?_) ?_
  rotate_left
  · (go_simp; try with_reducible rfl)
  try simp only [Act.put, List.setIfInBounds_toArray, List.set_cons_zero, List.set_cons_succ]
  refine wpT_pureD (v := ?_) (some 45) rfl rfl (by rfl) (fun w' => ?_) ?_
  rotate_left
  · (go_simp; try with_reducible rfl)
  try simp only [Act.put, List.setIfInBounds_toArray, List.set_cons_zero, List.set_cons_succ]
  refine wpT_pureD (v := ?_) (some 46) rfl rfl (by rfl) (fun w' => ?_) ?_
  rotate_left
  · (go_simp; try with_reducible rfl)
  try simp only [Act.put, List.setIfInBounds_toArray, List.set_cons_zero, List.set_cons_succ]
  refine wpT_readD (v := ?_) (some 47) rfl rfl (by rfl) (fun w' hw => ?_) ?_
  rotate_left
  · (obtain ⟨q0, q1, q2, q3⟩ := hw; go_simp; try with_reducible rfl)
  try simp only [Act.put, List.setIfInBounds_toArray, List.set_cons_zero, List.set_cons_succ]
  refine wpT_pureD (v := ?_) (some 48) rfl rfl (by rfl) (fun w' => ?_) ?_
  rotate_left
  · (go_simp; try with_reducible rfl)
  try simp only [Act.put, List.setIfInBounds_toArray, List.set_cons_zero, List.set_cons_succ]
  refine wpT_pureD (v := ?_) (some 49) rfl rfl (by rfl) (fun w' => ?_) ?_
  rotate_left
  · (go_simp; try with_reducible rfl)
  try simp only [Act.put, List.setIfInBounds_toArray, List.set_cons_zero, List.set_cons_succ]
  refine wpT_readD (v := ?_) (some 50) rfl rfl (by rfl) (fun w' hw => ?_) ?_
  rotate_left
  · (obtain ⟨q0, q1, q2, q3⟩ := hw; go_simp; try with_reducible rfl)
  try simp only [Act.put, List.setIfInBounds_toArray, List.set_cons_zero, List.set_cons_succ]
  refine wpT_readD (v := ?_) (some 51) rfl rfl (by rfl) (fun w' hw => ?_) ?_
  rotate_left
  · (obtain ⟨q0, q1, q2, q3⟩ := hw; go_simp; try with_reducible rfl)
  try simp only [Act.put, List.setIfInBounds_toArray, List.set_cons_zero, List.set_cons_succ]
  refine wpT_eff rfl (by rfl) (fun K hK => ?_)
  go_wp2_with fail
  refine hK _ _ (by go_simp) ?_
  clear hK K
  refine wpT_eff rfl (by rfl) (fun K hK => ?_)
  obtain ⟨V, hV⟩ : ∃ V, V = ((w.alloc (.cells #[.int .i64 l.1, .string l.2] 43)).alloc (.cells #[.int .i64 l.1, .string l.2] 43)).drew := ⟨_, rfl⟩
  rw [← hV]
  have HCV : Hid (Chg [] w V) := Lib.hid (by rw [hV]; exact (((Chg.refl _ _).alloc _).alloc _).drew)
  have hVs : V.heap.size = w.heap.size + 2 := by rw [hV]; simp
  have hVr : V.row? (w.heap.size + 1) = some #[.int .i64 l.1, .string l.2] := by rw [hV, row_drew]; exact row_alloc_at _ _ _ _ (by simp)
  have hVq : V.row? w.heap.size = some #[.int .i64 l.1, .string l.2] := by rw [hV, row_drew, row_alloc_past _ _ _ (by simp)]; exact row_alloc_at _ _ _ _ rfl
  have HX : Hid (∀ j u, (letC l)[j]? = some u → V.cell? ((⟨w.heap.size + 1, 0, none⟩ : Addr).add j) = some u) := by
    refine Lib.hid fun j u hj => ?_
    have := row_cell hVr j
    rw [show ((⟨w.heap.size + 1, 0, none⟩ : Addr).add j) = ⟨w.heap.size + 1, j, none⟩ by cases j <;> simp [Addr.add], this, ← hj]
    simp [letC]
  have HOne : Hid (∀ u ∈ letC l, u.oneCell' = true) := Lib.hid (by intro u hu; simp [letC] at hu; rcases hu with rfl | rfl <;> rfl)
  have HW2 : Hid (Win V 2 vi m (letsC L)) := Lib.hid (HW.out.keep HCV.out (by simp))
  clear hV
  refine wpList_append_win rfl _ _ 48 rfl 43 i0 (.agg #[.int .i64 0, .string ⟨#[]⟩]) 2 24 Try.underlying48 hi0 hz0 hz1 hz2 rfl vi m (letsC L) rfl HW2.out ⟨w.heap.size + 1, 0, none⟩ 1 1 (letC l) rfl rfl HX.out HOne.out (by omega) (by unfold maxLen; omega) (by omega) ?_
  intro v' W3 x1 x2 x3
  obtain ⟨p', cap', rfl, -⟩ := x1.form
  have x4 : Chg vi.ownBlock.toList w W3 := (HCV.out.mono (by simp)).trans x2
  have b0 := World.cell?_of_block (a := ⟨rb, 0, none⟩) (x4.block rb hlt (fun hm => (HB.out rb (by simpa using hm)).1 rfl))
  have b1 := World.cell?_of_block (a := ⟨rg, i, none⟩) (x4.block rg hlt2 (fun hm => (HB.out rg (by simpa using hm)).2.1 rfl))
  have b2 := World.frozen?_of_block (a := ⟨rg, i, none⟩) (x4.block rg hlt2 (fun hm => (HB.out rg (by simpa using hm)).2.1 rfl))
  have r3 := x2.row (b := w.heap.size) (by omega) (fun hm => absurd (HB.out _ (by simpa using hm)).2.2 (by omega))
  rw [hVq] at r3
  rw [c0] at b0
  rw [ci] at b1
  rw [fi] at b2
  have HX1 := Lib.hid x1
  have HX4 := Lib.hid x4
  have HX3 : Hid ((Value.slice p' (m + 1) cap').ownBlock = vi.ownBlock ∨ ∃ H, (Value.slice p' (m + 1) cap').ownBlock = some H ∧ w.heap.size ≤ H) := Lib.hid (x3.imp id fun h => ⟨_, h, by omega⟩)
  clear x1 x2 x3 x4 HX HOne HW2
  refine wpList_nil ?_
  refine hK _ _ ⟨b0, b1, by rw [row_cell r3]; rfl, by rw [row_cell r3]; rfl⟩ ?_
  clear hK K
  refine wpT_pureD (v := ?_) (some 54) rfl rfl (by rfl) (fun w' => ?_) ?_
  rotate_left
  · (go_simp; try with_reducible rfl)
  try simp only [Act.put, List.setIfInBounds_toArray, List.set_cons_zero, List.set_cons_succ]
  refine wpT_brk rfl (by rfl) (fun K hK => ?_)
  go_wp2_with fail
  refine wpT_end ?_
  go_wp2
  go_ret
  exact ⟨rfl, _, W3, HX1.out, HX4.out, HX3.out, rfl⟩
end Go.Proofs.L
