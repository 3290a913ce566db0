/- Proved here: lemmas and contracts (RefBoth) for the laws of this seat, for all values of the stated types; no further condition. -/
import Derived.Test.YteikhmabgnpljaaRefTake
open Go Go.RowKit Go.Lib Go.Conc
namespace Go.Proofs.L
theorem rtake_walk {w : World} {rb rg n i m g o cap : Nat} (c0 : w.cell? ⟨rb, 0, none⟩ = some (.slice (some ⟨rg, 0, none⟩) n n)) (ci : w.cell? ⟨rg, i, none⟩ = some (.slice (some ⟨g, o, none⟩) (m + 1) cap)) (fi : w.frozen? ⟨rg, i, none⟩ = false)
    (hlt : rb < w.heap.size) (hlt2 : rg < w.heap.size) (hlt3 : g < w.heap.size) (hi : i < n) (hn4 : n ≤ 4) (l : Int × ByteArray) (hm4 : m < 4) (hcap : m + 1 ≤ cap) (x0 : w.cell? ⟨g, o, none⟩ = some (.int .i64 l.1)) (x1 : w.cell? ⟨g, o + 1, none⟩ = some (.string l.2)) :
    Calls Try.prog 12 #[.pointer (some ⟨rb, 0, none⟩), .int .i64 i] w fun e w' => e = .returned (.tuple #[letV l, .int .i64 0]) ∧ Chg [] (w.setCell ⟨rg, i, none⟩ (.slice (if cap = 1 then some ⟨g, o, none⟩ else some ⟨g, o + 2, none⟩) m (cap - 1))) w' := by
  have dle : ((1 : Int) ≤ (m : Int) + 1) = True := by simp; omega
  have d0 : decide ((i : Int) < 0) = false := by simp
  have d1 : decide ((n : Int) ≤ i) = false := by simp; omega
  have d2 : decide ((i : Int) ≥ (n : Int)) = false := by simp; omega
  have dm : (((m + 1 : Nat) : Int) == 0) = false := by simp; omega
  have dm2 : decide (((m + 1 : Nat) : Int) = 0) = false := by simp; omega
  obtain ⟨tp, htp⟩ : ∃ tp, (if cap = 1 then (some ⟨g, o, none⟩ : Option Addr) else some ⟨g, o + 2, none⟩) = tp := ⟨_, rfl⟩
  rw [htp]
  unfold letV
  go_enter Try.func12, Try.ntmps12
  go_wp2_with fail
  refine wp_region_C (fun w' => w'.cell? ⟨rb, 0, none⟩ = some (.slice (some ⟨rg, 0, none⟩) n n) ∧ w'.cell? ⟨rg, i, none⟩ = some (.slice (some ⟨g, o, none⟩) (m + 1) cap)) [(0, 0), (1, 0), (2, 0), (3, 1), (4, 0), (5, 0), (6, 0), (7, 0), (8, 1), (9, 0), (10, 0), (11, 1), (12, 0), (13, 0), (14, 3)] rfl (by kernel_rfl) ?hS ?hT
  case hS => exact ⟨by go_simp, by go_simp⟩
  refine wpT_pureD (v := ?_) (some 38) rfl rfl (by rfl) (fun w' => ?_) ?_
  rotate_left
  · (go_simp; try with_reducible rfl)
  try simp only [Act.put, List.setIfInBounds_toArray, List.set_cons_zero, List.set_cons_succ]
  refine wpT_pureD (v := ?_) (some 39) rfl rfl (by rfl) (fun w' => ?_) ?_
  rotate_left
  · (go_simp; try with_reducible rfl)
  try simp only [Act.put, List.setIfInBounds_toArray, List.set_cons_zero, List.set_cons_succ]
  refine wpT_pureD (v := ?_) (some 40) rfl rfl (by rfl) (fun w' => ?_) ?_
  rotate_left
  · (go_simp; try with_reducible rfl)
  try simp only [Act.put, List.setIfInBounds_toArray, List.set_cons_zero, List.set_cons_succ]
  refine wpT_readD (v := ?_) (some 41) rfl rfl (by rfl) (fun w' hw => ?_) ?_
  rotate_left
  · (obtain ⟨q0, q1⟩ := hw; go_simp; try with_reducible rfl)
  try simp only [Act.put, List.setIfInBounds_toArray, List.set_cons_zero, List.set_cons_succ]
  refine wpT_pureD (v := ?_) (some 42) rfl rfl (by rfl) (fun w' => ?_) ?_
  rotate_left
  · (go_simp; try with_reducible rfl)
  try simp only [Act.put, List.setIfInBounds_toArray, List.set_cons_zero, List.set_cons_succ]
  refine wpT_pureD (v := ?_) (some 43) rfl rfl (by rfl) (fun w' => ?_) ?_
  rotate_left
  · (go_simp; try with_reducible rfl)
  try simp only [Act.put, List.setIfInBounds_toArray, List.set_cons_zero, List.set_cons_succ]
  refine wpT_pureD (v := ?_) (some 44) rfl rfl (by rfl) (fun w' => ?_) ?_
  rotate_left
  · (go_simp; try with_reducible rfl)
  try simp only [Act.put, List.setIfInBounds_toArray, List.set_cons_zero, List.set_cons_succ]
  refine wpT_pureD (v := ?_) (some 45) rfl rfl (by rfl) (fun w' => ?_) ?_
  rotate_left
  · (go_simp; try with_reducible rfl)
  try simp only [Act.put, List.setIfInBounds_toArray, List.set_cons_zero, List.set_cons_succ]
  refine wpT_readD (v := ?_) (some 46) rfl rfl (by rfl) (fun w' hw => ?_) ?_
  rotate_left
  · (obtain ⟨q0, q1⟩ := hw; go_simp; try with_reducible rfl)
  try simp only [Act.put, List.setIfInBounds_toArray, List.set_cons_zero, List.set_cons_succ]
  refine wpT_pureD (v := ?_) (some 47) rfl rfl (by rfl) (fun w' => ?_) ?_
  rotate_left
  · (go_simp; try with_reducible rfl)
  try simp only [Act.put, List.setIfInBounds_toArray, List.set_cons_zero, List.set_cons_succ]
  refine wpT_pureD (v := ?_) (some 48) rfl rfl (by rfl) (fun w' => ?_) ?_
  rotate_left
  · (go_simp; try with_reducible rfl)
  try simp only [Act.put, List.setIfInBounds_toArray, List.set_cons_zero, List.set_cons_succ]
  refine wpT_readD (v := ?_) (some 49) rfl rfl (by rfl) (fun w' hw => ?_) ?_
  rotate_left
  · (obtain ⟨q0, q1⟩ := hw; go_simp; try with_reducible rfl)
  try simp only [Act.put, List.setIfInBounds_toArray, List.set_cons_zero, List.set_cons_succ]
  refine wpT_pureD (v := ?_) (some 50) rfl rfl (by rfl) (fun w' => ?_) ?_
  rotate_left
  · (go_simp; try with_reducible rfl)
  try simp only [Act.put, List.setIfInBounds_toArray, List.set_cons_zero, List.set_cons_succ]
  refine wpT_pureD (v := ?_) (some 51) rfl rfl (by rfl) (fun w' => ?_) ?_
  rotate_left
  · (go_simp; try with_reducible rfl)
  try simp only [Act.put, List.setIfInBounds_toArray, List.set_cons_zero, List.set_cons_succ]
  refine wpT_brk rfl (by rfl) (fun K hK => ?_)
  go_wp2_with fail
  refine wpT_end ?_
  go_wp2
  refine bodyPost_ret (v := .tuple #[letV l, .int .i64 0]) (by rw [results_cell_tmp rfl]; unfold letV; go_simp; done) rfl ?_
  exact ⟨rfl, ((((Chg.refl _ _).alloc _).alloc _).drew)⟩
theorem setCell_row {w : World} {rg i : Nat} {V : List Value} {v : Value} (h : w.row? rg = some V.toArray) : (w.setCell ⟨rg, i, none⟩ v).row? rg = some (V.set i v).toArray := by
  rw [row_setCell, if_pos rfl, h]; simp
theorem rtake_ok {w rb rg V B} (h : Rp w rb rg V B) (i : Nat) (hi : i < V.length) (l : Int × ByteArray) (L) (hl : B.getD i [] = l :: L) :
    Calls Try.prog 12 #[.pointer (some ⟨rb, 0, none⟩), .int .i64 i] w fun e w' => e = .returned (.tuple #[letV l, .int .i64 0]) ∧ ∃ v', Rp w' rb rg (V.set i v') (B.set i L) ∧ Chg [rg] w w' ∧ v'.ownBlock = V[i].ownBlock := by
  have hW := h.win i hi
  have hc := h.ci i hi
  have hap := h.apart i hi
  have h4 := h.getL i hi
  rw [hl] at hW h4
  obtain ⟨p, cap, hv, hp⟩ := hW.form
  obtain ⟨g, o, rfl, hcap, hcell⟩ := hp (by simp)
  rw [hv] at hW hc hap
  have hg := hW.lt g rfl
  have x0 := hcell 0 (.int .i64 l.1) rfl
  have x1 := hcell 1 (.string l.2) rfl
  have ht := hW.tail'
  simp only [List.length_cons] at hc hcap h4
  refine (rtake_walk h.c0 hc (row_free h.inn i) (row_lt h.row) (row_lt h.inn) hg hi h.len4 l (by omega) hcap x0 x1).mono ?_
  rintro e w' ⟨rfl, hC⟩
  have hC1 : Chg [rg] w (w.setCell ⟨rg, i, none⟩ (.slice (if cap = 1 then some ⟨g, o, none⟩ else some ⟨g, o + 2, none⟩) L.length (cap - 1))) := (Chg.refl _ _).setCell (Or.inl (by simp)) _
  have hob : (Value.slice (if cap = 1 then some ⟨g, o, none⟩ else some ⟨g, o + 2, none⟩) L.length (cap - 1)).ownBlock = V[i].ownBlock := by
    rw [hv]; split <;> rfl
  refine ⟨rfl, _, (h.setBox i hi (v' := .slice (if cap = 1 then some ⟨g, o, none⟩ else some ⟨g, o + 2, none⟩) L.length (cap - 1)) (L := L) ?_ (setCell_row h.inn) hC1 (by simp) (.inl hob) (by omega)).keep hC (by simp), hC1.trans (hC.mono (by simp)), hob⟩
  have : (letsC (l :: L)).drop 2 = letsC L := by simp [letsC, letC]
  rw [this] at ht
  exact ht.keep hC1 (fun k hk hm => by
    have e : k = g := by revert hk; split <;> simp [Value.ownBlock] <;> exact fun h => h.symm
    subst e
    simp at hm
    exact (hap k rfl).2 hm)
theorem rsend_ok {w rb rg V B} (h : Rp w rb rg V B) (i : Nat) (hi : i < V.length) (l : Int × ByteArray) (ht : 1 ≤ l.2.size ∧ l.2.size ≤ 16) (hl : (B.getD i []).length < 4) :
    Calls Try.prog 11 #[.pointer (some ⟨rb, 0, none⟩), .int .i64 i, letV l] w fun e w' => e = .returned (.int .i64 0) ∧ ∃ v', Rp w' rb rg (V.set i v') (B.set i (B.getD i [] ++ [l])) ∧ Chg (rg :: V[i].ownBlock.toList) w w' ∧ (v'.ownBlock = V[i].ownBlock ∨ ∃ H, v'.ownBlock = some H ∧ w.heap.size ≤ H) := by
  have hlt := h.lt
  have hap := h.apart i hi
  refine (rsend_walk h.c0 (h.ci i hi) (row_free h.inn i) (row_lt h.row) (row_lt h.inn) h.ne hi h.len4 l ht rfl hl (h.win i hi) (fun k hk => ⟨(hap k hk).1, (hap k hk).2, hlt k (mem_fpR.2 (.inr (.inr ⟨i, hi, hk⟩)))⟩)).mono ?_
  rintro e w' ⟨rfl, v', W3, hw, hc, hv, rfl⟩
  have hc2 : Chg (rg :: V[i].ownBlock.toList) w (W3.setCell ⟨rg, i, none⟩ v') := (hc.mono (fun k hk => List.mem_cons_of_mem _ hk)).setCell (Or.inl (by simp)) _
  refine ⟨rfl, v', h.setBox i hi ?_ (setCell_row ?_) hc2 (by simp) (hv.imp id .inr) (by rw [List.length_append, List.length_singleton]; omega), hc2, hv⟩
  · have hx : letsC (B.getD i [] ++ [l]) = letsC (B.getD i []) ++ letC l := by simp [letsC]
    rw [List.length_append, hx]
    refine hw.keep (E := [rg]) ((Chg.refl _ _).setCell (Or.inl (by simp)) _) (fun k hk hm => ?_)
    simp at hm; subst hm
    rcases hv with hv | ⟨H, hv, hH⟩
    · rw [hv] at hk; exact (hap k hk).2 rfl
    · rw [hv] at hk; cases hk; have := row_lt h.inn; omega
  · rw [hc.row (row_lt h.inn) (fun hm => (hap rg (by simpa using hm)).2 rfl)]; exact h.inn
end Go.Proofs.L
