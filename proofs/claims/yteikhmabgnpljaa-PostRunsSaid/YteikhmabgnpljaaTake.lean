/- Proved here: lemmas and contracts (Take) for the laws of this seat, for all values of the stated types; no further condition. -/
import Derived.Test.YteikhmabgnpljaaSendRoom
open Go Go.RowKit Go.Lib Go.Conc
namespace Go.Proofs.L
def zV : Value := .agg #[.int .i64 0, .string ⟨#[]⟩]
/-- the world in which Take asks for the box -/
def takeW (w : World) : World := w.alloc (.cells #[.int .i64 0, .string ⟨#[]⟩] 30)
theorem takeW_chg (w) : Chg [] w (takeW w) := (Chg.refl _ _).alloc _
theorem takeW_c0 (w : World) : (takeW w).cell? ⟨w.heap.size, 0, none⟩ = some (.int .i64 0) := by
  rw [row_cell (cs := #[.int .i64 0, .string ⟨#[]⟩]) (by unfold takeW; rw [row_alloc_at _ _ _ _ rfl])]; rfl
theorem takeW_c1 (w : World) : (takeW w).cell? ⟨w.heap.size, 1, none⟩ = some (.string ⟨#[]⟩) := by
  rw [row_cell (cs := #[.int .i64 0, .string ⟨#[]⟩]) (by unfold takeW; rw [row_alloc_at _ _ _ _ rfl])]; rfl
theorem takeW_f (w : World) (i : Nat) : (takeW w).frozen? ⟨w.heap.size, i, none⟩ = false := row_free (cs := #[.int .i64 0, .string ⟨#[]⟩]) (by unfold takeW; rw [row_alloc_at _ _ _ _ rfl]) i
theorem takeW_size (w : World) : (takeW w).heap.size = w.heap.size + 1 := by simp [takeW]
theorem take_none {w : World} {pv : Value} {i : Int} (h : Calls Try.prog 14 #[pv, .int .i64 i] (takeW w) fun e w' => e = .returned (.chan none) ∧ w' = takeW w) :
    Calls Try.prog 9 #[pv, .int .i64 i] w fun e w' => e = .returned (.tuple #[zV, .int .i64 1]) ∧ Chg [] w w' := by
  have H := Lib.hid h
  have c0 := takeW_c0 w
  have c1 := takeW_c1 w
  have f0 := takeW_f w 0
  have f1 := takeW_f w 1
  have hC := Lib.hid (takeW_chg w)
  clear h
  go_enter Try.func9, Try.ntmps9
  go_wp2_with fail
  refine H.out.mono ?_
  rintro e w' ⟨rfl, rfl⟩
  go_wp2
  try simp only [Exit.inBlock, Exit.then]
  refine bodyPost_ret (v := .tuple #[zV, .int .i64 1]) (by rw [results_cell_tmp rfl]; unfold zV; go_simp; done) rfl ?_
  exact ⟨rfl, (hC.out.setCell (Or.inr (Nat.le_refl _)) _).setCell (Or.inr (Nat.le_refl _)) _⟩
theorem take_empty {w : World} {pv : Value} {i : Int} {c : Nat} (hb : BoxAt w c []) (h : Calls Try.prog 14 #[pv, .int .i64 i] (takeW w) fun e w' => e = .returned (.chan (some c)) ∧ w' = takeW w) :
    Calls Try.prog 9 #[pv, .int .i64 i] w fun e w' => e = .returned (.tuple #[zV, .int .i64 17]) ∧ Chg [] w w' := by
  have H := Lib.hid h
  have c0 := takeW_c0 w
  have c1 := takeW_c1 w
  have f0 := takeW_f w 0
  have f1 := takeW_f w 1
  have hC := Lib.hid (takeW_chg w)
  obtain ⟨s, r, hb⟩ := hb
  have hbc : Hid ((takeW w).heap[c]? = some (.chan 4 (bufC []) false s r false)) := by
    refine Lib.hid ?_
    rw [(takeW_chg w).block c (BoxAt.lt ⟨s, r, hb⟩) (by simp)]; exact hb
  clear h hb
  refine calls_of_wpN Try.func9 rfl ?_
  simp only [Try.ntmps9, List.size_toArray, List.length_cons, List.length_nil, Nat.reduceAdd, Nat.reduceSub, Array.replicate_succ, Array.replicate_zero, List.push_toArray, List.append_toArray, List.nil_append, List.cons_append]
  refine wpN_then fun K hK => ?_
  go_wp2
  refine wpN_then fun K hK => ?_
  go_wp2_with fail
  refine H.out.mono ?_
  rintro e w' ⟨rfl, rfl⟩
  go_wp2
  refine wpN_then fun K hK => ?_
  go_wp2
  refine wpN_then fun K hK => ?_
  go_wp2
  refine wpN_seq (wpN_region ?_)
  show RegN _ _ _ (0 :: List.range' 1 2) _ _
  refine RegN.comm (w1 := takeW w) (w' := takeW w) (v := .tuple #[goInt (-1), .bool false, zV]) (cases := #[rcase c zV]) rfl rfl ?_ (fun fr cs es hs => step_lone_select_default hs hbc.out) ?_
  · unfold zV; kernel_rfl
  refine RegN.from 1 2 rfl ?_
  simp only [List.drop_succ_cons, List.drop_zero]
  go_wp2
  refine wpN_of_wp ?_
  go_wp2
  try simp only [Exit.inBlock, Exit.then]
  refine bodyPost_ret (v := .tuple #[zV, .int .i64 17]) (by rw [results_cell_tmp rfl]; unfold zV; go_simp; done) rfl ?_
  exact ⟨rfl, (hC.out.setCell (Or.inr (Nat.le_refl _)) _).setCell (Or.inr (Nat.le_refl _)) _⟩
/-- the world behind the receive of Take -/
theorem take_mid (w : World) {c s r : Nat} (l : Int × ByteArray) (L : List (Int × ByteArray)) (hb : w.heap[c]? = some (.chan 4 (bufC (l :: L)) false s r false)) :
    ∃ W1, W1 = (takeW w).setChan c 4 ((bufC (l :: L)).extract 1 (bufC (l :: L)).size) false s (r + 1) false ∧ W1.heap.size = w.heap.size + 1 ∧ W1.row? w.heap.size = some #[.int .i64 0, .string ⟨#[]⟩] ∧ BoxAt W1 c L ∧ Chg [c] w W1 := by
  have hlt : c < w.heap.size := BoxAt.lt ⟨s, r, hb⟩
  refine ⟨_, rfl, by rw [size_setChan, takeW_size], ?_, ⟨s, r + 1, ?_⟩, ((takeW_chg w).mono (by simp)).setChan (Or.inl (by simp)) _ _ _ _ _ _⟩
  · have : (takeW w).row? w.heap.size = some #[.int .i64 0, .string ⟨#[]⟩] := by unfold takeW; rw [row_alloc_at _ _ _ _ rfl]
    rw [← this]
    unfold World.row?
    simp only [World.setChan]
    rw [Array.getElem?_setIfInBounds_ne (by omega)]
  · rw [heap_setChan _ _ _ _ _ _ _ _ (by rw [takeW_size]; omega)]
    have : ∀ M : List Value, List.take M.length M = M := fun M => List.take_length
    simpa [bufC] using this (List.map letV L)
theorem BoxAt.keep {E w w' c L} (h : BoxAt w c L) (hc : Chg E w w') (hE : c ∉ E) : BoxAt w' c L := by
  obtain ⟨s, r, hb⟩ := h
  exact ⟨s, r, by rw [hc.block c (BoxAt.lt ⟨s, r, hb⟩) hE]; exact hb⟩
theorem take_some {w : World} {pv : Value} {i : Int} {c : Nat} (l : Int × ByteArray) (L : List (Int × ByteArray)) (hb : BoxAt w c (l :: L)) (h : Calls Try.prog 14 #[pv, .int .i64 i] (takeW w) fun e w' => e = .returned (.chan (some c)) ∧ w' = takeW w) :
    Calls Try.prog 9 #[pv, .int .i64 i] w fun e w' => e = .returned (.tuple #[letV l, .int .i64 0]) ∧ BoxAt w' c L ∧ Chg [c] w w' := by
  have H := Lib.hid h
  have c0 := takeW_c0 w
  have c1 := takeW_c1 w
  have f0 := takeW_f w 0
  have f1 := takeW_f w 1
  obtain ⟨s, r, hb⟩ := hb
  have hlt : c < w.heap.size := BoxAt.lt ⟨s, r, hb⟩
  have hbc : Hid ((takeW w).heap[c]? = some (.chan 4 (bufC (l :: L)) false s r false)) := by
    refine Lib.hid ?_
    rw [(takeW_chg w).block c (BoxAt.lt ⟨s, r, hb⟩) (by simp)]; exact hb
  obtain ⟨W1, hW, hsz, hrow, hB, hCh⟩ := take_mid w l L hb
  have HW := Lib.hid hW
  have HB := Lib.hid hB
  have HC := Lib.hid hCh
  have HL := Lib.hid hlt
  have HR := Lib.hid hrow
  clear h hb hW hB hCh hlt
  have w0 : W1.cell? ⟨w.heap.size, 0, none⟩ = some (.int .i64 0) := by rw [row_cell hrow]; rfl
  have w1 : W1.cell? ⟨w.heap.size, 1, none⟩ = some (.string ⟨#[]⟩) := by rw [row_cell hrow]; rfl
  have g0 := row_free hrow 0
  have g1 := row_free hrow 1
  clear hrow
  have hv : (bufC (l :: L)).getD 0 undef = letV l := by simp [bufC]
  have HV := Lib.hid hv
  clear hv
  refine calls_of_wpN Try.func9 rfl ?_
  simp only [Try.ntmps9, List.size_toArray, List.length_cons, List.length_nil, Nat.reduceAdd, Nat.reduceSub, Array.replicate_succ, Array.replicate_zero, List.push_toArray, List.append_toArray, List.nil_append, List.cons_append]
  refine wpN_then fun K hK => ?_
  go_wp2
  refine wpN_then fun K hK => ?_
  go_wp2_with fail
  refine H.out.mono ?_
  rintro e w' ⟨rfl, rfl⟩
  go_wp2
  refine wpN_then fun K hK => ?_
  go_wp2
  refine wpN_then fun K hK => ?_
  go_wp2
  refine wpN_seq (wpN_region ?_)
  show RegN _ _ _ (0 :: List.range' 1 2) _ _
  refine RegN.comm (w1 := takeW w) (w' := W1) (v := .tuple #[goInt 0, .bool true, letV l]) (cases := #[rcase c zV]) rfl rfl ?_ (fun fr cs es hs => by rw [HW.out, ← HV.out]; exact step_lone_select_recv_buf hs hbc.out (by simp [bufC])) ?_
  · unfold zV; kernel_rfl
  refine RegN.from 1 2 rfl ?_
  simp only [List.drop_succ_cons, List.drop_zero, letV]
  clear c0 c1 f0 f1 H
  go_wp2
  refine wpN_of_wp ?_
  go_wp2
  try simp only [Exit.inBlock, Exit.then]
  refine bodyPost_ret (v := .tuple #[letV l, .int .i64 0]) (by rw [results_cell_tmp rfl]; unfold letV; go_simp; done) rfl ?_
  refine ⟨rfl, HB.out.keep (E := [w.heap.size]) ?_ (by have := HL.out; simp; omega), ?_⟩
  · exact (((Chg.refl _ _).setCell (Or.inl (by simp)) _).setCell (Or.inl (by simp)) _).alloc _
  · exact ((HC.out.setCell (Or.inr (Nat.le_refl _)) _).setCell (Or.inr (Nat.le_refl _)) _).alloc _
end Go.Proofs.L
