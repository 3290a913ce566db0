/- Proved here: lemmas and contracts (New) for the laws of this seat, for all values of the stated types; no further condition. -/
import Derived.Test.YteikhmabgnpljaaAll
open Go Go.RowKit Go.Lib Go.Conc
namespace Go.Proofs.L
theorem info54 : (Try.prog.info? 54).map (fun i => (i.zero, i.size, i.bytes)) = some (some (.chan none), 1, 8) := by kernel_rfl
theorem mk4 (w : World) : (Instr.makeChan 54 (.int .i64 4)).run Try.prog w = .ok (.chan (some w.heap.size)) (w.alloc (.chan 4 #[] false 0 0 false)) := by
  obtain ⟨i0, hi0, hz0, hz1, hz2⟩ := info_parts info30
  simpa using run_makeChan (P := Try.prog) (w := w) Try.underlying54 hi0 .i64 4 (by omega) (by rw [hz2]; omega)
theorem new_bad (n : Int) (h : n < 1 ∨ 4 < n) (w : World) : Calls Try.prog 7 #[.int .i64 n] w fun e w' => e = .returned (.tuple #[.pointer none, .int .i64 1]) ∧ w' = w := by
  by_cases h1 : n < 1
  · have d1 : decide (n < 1) = true := by simpa using h1
    go_enter Try.func7, Try.ntmps7
    go_wp2
    go_ret2
    exact ⟨rfl, rfl⟩
  · have d1 : decide (n < 1) = false := by simpa using h1
    have d2 : decide (n > 4) = true := by simp; omega
    have d3 : decide (4 < n) = true := by simp; omega
    go_enter Try.func7, Try.ntmps7
    go_wp2
    go_ret2
    exact ⟨rfl, rfl⟩
structure NewInv (w wr : World) (k : Nat) (v : Value) (C : List Nat) : Prop where
  len : C.length = k
  row : wr.row? w.heap.size = some #[v]
  own : wr.ownsRow (w.heap.size + 1) 54 1 v k (chansC C)
  box : ∀ c ∈ C, BoxAt wr c [] ∧ w.heap.size < c
  nd : C.Nodup
  below : Below w.heap.size w wr
theorem NewInv.step {w wr V W3 : World} {k g cap : Nat} {v : Value} {C : List Nat} (h : NewInv w wr k v C) (hV : Chg [] wr V) (hs : V.heap.size = wr.heap.size + 2) (hb : BoxAt V wr.heap.size []) (hg : V.grownBy W3 v.ownBlock)
    (ho : W3.ownsRow (w.heap.size + 1) 54 1 (.slice (some ⟨g, 0, none⟩) (k + 1) cap) (k + 1) (chansC C ++ [.chan (some wr.heap.size)])) (hd : W3.heap[w.heap.size]? = wr.heap[w.heap.size]?) :
    NewInv w (W3.setCell ⟨w.heap.size, 0, none⟩ (.slice (some ⟨g, 0, none⟩) (k + 1) cap)) (k + 1) (.slice (some ⟨g, 0, none⟩) (k + 1) cap) (C ++ [wr.heap.size]) := by
  have hlt := row_lt h.row
  have hsz := hg.size
  have hC : Chg [w.heap.size] W3 (W3.setCell ⟨w.heap.size, 0, none⟩ (.slice (some ⟨g, 0, none⟩) (k + 1) cap)) := (Chg.refl _ _).setCell (Or.inl (by simp)) _
  have hu : ∀ x, v.ownBlock = some x → w.heap.size + 1 ≤ x ∧ x < wr.heap.size := fun x hx => h.own.lt x hx
  have hbox : ∀ c ∈ C, BoxAt W3 c [] := by
    intro c hc
    obtain ⟨s, r, hh⟩ := (h.box c hc).1
    refine ⟨s, r, ?_⟩
    have hcl := BoxAt.lt (h.box c hc).1
    rw [hg.block c (by omega) (fun e => ?_), hV.block c hcl (by simp)]
    · exact hh
    · rcases h.own.2 with ⟨hn, -⟩ | ⟨g', cap', cur, hv, -, hgg, -⟩
      · rw [hn] at e; simp [Value.ownBlock] at e
      · rw [hv] at e
        simp [Value.ownBlock] at e
        subst e
        rw [hh] at hgg
        cases hgg
  have hnew : BoxAt W3 wr.heap.size [] := by
    obtain ⟨s, r, hh⟩ := hb
    exact ⟨s, r, by rw [hg.block _ (by omega) (fun e => by have := (hu _ e.symm).2; omega)]; exact hh⟩
  refine ⟨by simp [h.len], ?_, ?_, ?_, ?_, ?_⟩
  · have : W3.row? w.heap.size = some #[v] := by
      rw [← h.row]; unfold World.row?; rw [hd]
    rw [row_setCell, if_pos rfl, this]; rfl
  · have e : chansC (C ++ [wr.heap.size]) = chansC C ++ [.chan (some wr.heap.size)] := by simp [chansC]
    rw [e]
    exact ownsRow_chg ho hC (fun x hx hm => by have := (ho.lt x hx).1; simp at hm; omega)
  · intro c hc
    rcases List.mem_append.1 hc with hc | hc
    · have := (h.box c hc).2
      exact ⟨(hbox c hc).keep hC (by simp; omega), this⟩
    · simp at hc; subst hc
      exact ⟨hnew.keep hC (by simp; omega), hlt⟩
  · refine List.nodup_append.2 ⟨h.nd, by simp, fun a ha b hb' e => ?_⟩
    simp at hb'; subst hb'; subst e
    exact Nat.lt_irrefl _ (BoxAt.lt (h.box _ ha).1)
  · have b1 : Below w.heap.size wr V := hV.below (by simp) (by omega)
    have b2 : Below w.heap.size V W3 := ⟨hg.os, hg.tape, hg.output, hg.size, fun x hx => hg.block x (by omega) (fun e => by have := (hu x e.symm).1; omega)⟩
    exact ((h.below.trans b1).trans b2).trans (hC.below (by simp) (by omega))
theorem new_ok (n : Nat) (h1 : 1 ≤ n) (h4 : n ≤ 4) (w : World) : Calls Try.prog 7 #[.int .i64 n] w fun e w' => e = .returned (.tuple #[.pointer (some ⟨w.heap.size, 0, none⟩), .int .i64 0]) ∧ ∃ v C, NewInv w w' n v C := by
  obtain ⟨j0, hj0, hy0, hy1, hy2⟩ := info_parts info54
  have hmk := mk4
  have d1 : decide ((n : Int) < 1) = false := by simp; omega
  have d2 : decide ((n : Int) > 4) = false := by simp; omega
  have d3 : decide (4 < (n : Int)) = false := by simp; omega
  go_enter Try.func7, Try.ntmps7
  go_wp2
  go_loopw [14] (fun i wr => ∃ (k : Nat) (v : Value) (C : List Nat), k ≤ n ∧ i = .int .i64 k ∧ NewInv w wr k v C) (fun i _ => n - (intOf i).toNat)
  case atStart => 
    refine ⟨0, .slice none 0 0, [], by omega, rfl, rfl, row_alloc_at _ _ _ _ rfl, World.ownsRow_nil _ _ _ _, by simp, by simp, (Below.refl _ _).alloc (Nat.le_refl _) _⟩
  case round =>
    obtain ⟨k, v, C, hk, rfl, hI⟩ := hrel
    have HI := Lib.hid hI
    have c0 : wr.cell? ⟨w.heap.size, 0, none⟩ = some v := by rw [row_cell hI.row]; rfl
    have f0 := row_free hI.row 0
    have hlt := row_lt hI.row
    have hne : w.heap.size ≠ wr.heap.size := by omega
    have hlt1 : w.heap.size < wr.heap.size + 1 := by omega
    clear hI
    by_cases hk2 : k < n
    · have e1 : decide ((k : Int) < (n : Int)) = true := by simp; omega
      go_wp2_with fail
      refine wp_region_C (fun w' => w'.cell? ⟨w.heap.size, 0, none⟩ = some v) [(0, 0), (1, 0), (2, 0), (3, 0), (4, 1), (5, 2), (6, 2), (7, 2), (8, 0), (9, 0), (10, 3)] rfl (by kernel_rfl) ?hS ?hT
      case hS => exact c0
      refine wpT_pureD (v := ?_) (some 16) rfl rfl (by rfl) (fun w' => ?_) ?_
      rotate_left
      · (go_simp; try with_reducible rfl)
      try simp only [Act.put, List.setIfInBounds_toArray, List.set_cons_zero, List.set_cons_succ]
      refine wpT_pureD (v := ?_) (some 17) rfl rfl (by rfl) (fun w' => ?_) ?_
      rotate_left
      · (go_simp; try with_reducible rfl)
      try simp only [Act.put, List.setIfInBounds_toArray, List.set_cons_zero, List.set_cons_succ]
      refine wpT_pureD (v := ?_) (some 18) rfl rfl (by rfl) (fun w' => ?_) ?_
      rotate_left
      · (go_simp; try with_reducible rfl)
      try simp only [Act.put, List.setIfInBounds_toArray, List.set_cons_zero, List.set_cons_succ]
      refine wpT_pureD (v := ?_) (some 19) rfl rfl (by rfl) (fun w' => ?_) ?_
      rotate_left
      · (go_simp; try with_reducible rfl)
      try simp only [Act.put, List.setIfInBounds_toArray, List.set_cons_zero, List.set_cons_succ]
      refine wpT_readD (v := ?_) (some 20) rfl rfl (by rfl) (fun w' hw => ?_) ?_
      rotate_left
      · (obtain q0 := hw; go_simp; try with_reducible rfl)
      try simp only [Act.put, List.setIfInBounds_toArray, List.set_cons_zero, List.set_cons_succ]
      refine wpT_eff rfl (by rfl) (fun K hK => ?_)
      go_wp2_with fail
      refine hK _ _ (by go_simp) ?_
      clear hK K
      refine wpT_eff rfl (by rfl) (fun K hK => ?_)
      go_wp2_with fail
      refine hK _ _ (by go_simp) ?_
      clear hK K
      refine wpT_eff rfl (by rfl) (fun K hK => ?_)
      obtain ⟨V, hV⟩ : ∃ V, V = ((wr.alloc (.chan 4 #[] false 0 0 false)).alloc (.cells #[.chan (some wr.heap.size)] 54)).drew := ⟨_, rfl⟩
      rw [← hV]
      have HCV : Hid (Chg [] wr V) := Lib.hid (by rw [hV]; exact (((Chg.refl _ _).alloc _).alloc _).drew)
      have hVs : V.heap.size = wr.heap.size + 2 := by rw [hV]; simp
      have hVr : V.row? (wr.heap.size + 1) = some #[.chan (some wr.heap.size)] := by rw [hV, row_drew]; exact row_alloc_at _ _ _ _ (by simp)
      have HVB : Hid (BoxAt V wr.heap.size []) := Lib.hid ⟨0, 0, by rw [hV]; show ((wr.alloc _).alloc _).heap[_]? = _; rw [Below.heap_alloc _ _ _ (by simp)]; exact heap_alloc_new wr _⟩
      have HO2 : Hid (V.ownsRow (w.heap.size + 1) 54 1 v k (chansC C)) := Lib.hid (ownsRow_chg HI.out.own HCV.out (fun x hx hm => by simp at hm))
      have HX : Hid (∀ j u, ([Value.chan (some wr.heap.size)] : List Value)[j]? = some u → V.cell? ((⟨wr.heap.size + 1, 0, none⟩ : Addr).add j) = some u) := by
        refine Lib.hid fun j u hj => ?_
        have := row_cell hVr j
        rw [show ((⟨wr.heap.size + 1, 0, none⟩ : Addr).add j) = ⟨wr.heap.size + 1, j, none⟩ by cases j <;> simp [Addr.add], this, ← hj]
        simp
      have HS2 : Hid (w.heap.size + 1 ≤ V.heap.size) := Lib.hid (by omega)
      have HOne : Hid (∀ u ∈ ([Value.chan (some wr.heap.size)] : List Value), u.oneCell' = true) := Lib.hid (by intro u hu; simp at hu; subst hu; rfl)
      refine wpList_append_own _ rfl _ _ 51 rfl (w.heap.size + 1) 54 j0 (.chan none) 1 8 Try.underlying51 hj0 hy0 hy1 hy2 rfl (by decide) v k (chansC C) rfl HO2.out ⟨wr.heap.size + 1, 0, none⟩ 1 1 [.chan (some wr.heap.size)] rfl rfl HX.out HOne.out (by unfold maxLen; omega) (by omega) HS2.out ?_
      intro v' W3 h1 h2 h3
      obtain ⟨g, cap, rfl⟩ : ∃ g cap, v' = .slice (some ⟨g, 0, none⟩) (k + 1) cap := by
        rcases h1.2 with ⟨-, hn⟩ | ⟨g, cap, cur, hv, -⟩
        · omega
        · exact ⟨g, cap, hv⟩
      clear h3 HX HS2 HOne HO2
      have HW3 : Hid (V.grownBy W3 v.ownBlock) := Lib.hid h2
      have HO3 := Lib.hid h1
      have hu : ∀ x, v.ownBlock = some x → w.heap.size + 1 ≤ x := fun x hx => (HI.out.own.lt x hx).1
      have d0 : W3.heap[w.heap.size]? = wr.heap[w.heap.size]? := by rw [h2.block _ (by omega) (fun e => by have := hu _ e.symm; omega)]; exact HCV.out.block _ hlt (by simp)
      have c3 : W3.cell? ⟨w.heap.size, 0, none⟩ = some v := by rw [cell_of_block d0]; exact c0
      have f3 : W3.frozen? ⟨w.heap.size, 0, none⟩ = false := by simp only [World.frozen?, d0]; simpa only [World.frozen?] using f0
      have HD := Lib.hid d0
      have HUU := Lib.hid hu
      clear h1 h2 d0 hu hV
      refine wpList_nil ?_
      refine hK _ _ c3 ?_
      clear hK K
      refine wpT_pureD (v := ?_) (some 24) rfl rfl (by rfl) (fun w' => ?_) ?_
      rotate_left
      · (go_simp; try with_reducible rfl)
      try simp only [Act.put, List.setIfInBounds_toArray, List.set_cons_zero, List.set_cons_succ]
      refine wpT_pureD (v := ?_) (some 25) rfl rfl (by rfl) (fun w' => ?_) ?_
      rotate_left
      · (go_simp; try with_reducible rfl)
      try simp only [Act.put, List.setIfInBounds_toArray, List.set_cons_zero, List.set_cons_succ]
      refine wpT_brk rfl (by rfl) (fun K hK => ?_)
      go_wp2_with fail
      refine wpT_end ?_
      go_wp2
      refine ⟨⟨k + 1, _, _, hk2, by simp, NewInv.step HI.out HCV.out hVs HVB.out HW3.out HO3.out HD.out⟩, ?_⟩
      simp only [intOf]
      omega
    · have e1 : decide ((k : Int) < (n : Int)) = false := by simp; omega
      obtain rfl : k = n := by omega
      go_wp2
      go_ret2
      exact ⟨rfl, v, C, HI.out⟩
end Go.Proofs.L
