/- Proved here: lemmas and contracts (Same) for the laws of this seat, for all values of the stated types; no further condition. -/
import Derived.Test.YtfalldoimbedbaaRefRaise
import Derived.Test.YtfalldoimbedbaaWords
open Go Go.RowKit Go.Lib
namespace Go.Proofs.L
theorem ldv_words {w b S} (h : Fl w b S) : (loadVar 32 ⟨b, 0, none⟩).run Try.prog w = .ok (.agg (wordsC S.f).toArray) w := by
  have hl : (loadCells ⟨b, 0, none⟩ (wordsC S.f).length).run Try.prog w = .ok (wordsC S.f).toArray w :=
    run_loadCells_list (P := Try.prog) w ⟨b, 0, none⟩ (wordsC S.f) (fun j v hv => by
      have hadd : (⟨b, 0, none⟩ : Addr).add j = ⟨b, j, none⟩ := by unfold Addr.add; split <;> simp_all
      have hj : j < 32 := by have := (List.getElem?_eq_some_iff.1 hv).1; rwa [wordsC_len] at this
      rw [hadd, h.ci j hj, ← hv]
      simp [wordsC, hj])
  rw [wordsC_len] at hl
  have hs : (sizeOf 32).run Try.prog w = .ok 32 w := by kernel_rfl
  have ha : (isAgg 32).run Try.prog w = .ok true w := by kernel_rfl
  unfold loadVar
  rw [Sem.run_bind, ha]
  simp only [Result.andThen_ok, if_true]
  rw [Sem.run_bind, hs]
  simp only [Result.andThen_ok, Sem.run_bind, hl, Sem.run_pure]
theorem ld_words {w b S} (h : Fl w b S) : (Instr.loadAt 32 (.pointer (some ⟨b, 0, none⟩))).run Try.prog w = .ok (.agg (wordsC S.f).toArray) w := by
  rw [← ldv_words h]
  simp [Instr.loadAt, Instr.sureAddr]
theorem ldx_words {w b S} (h : Fl w b S) (ρ : Operand → Value) (x : Operand) (hx : ρ x = .pointer (some ⟨b, 0, none⟩)) (d t p af g) : Sem.run Try.prog (execOp ρ { dst := d, op := .load 32 x, type := t, pos := p, after := af, guard := g }) w = .ok (.value (.agg (wordsC S.f).toArray)) w := by
  simp [execOp, hx, Sem.run_bind, ld_words h]
theorem rnew_any (w : World) : Calls Try.prog 17 #[] w fun e w' => e = .returned (.pointer (some ⟨w.heap.size, 0, none⟩)) ∧ Fl w' w.heap.size newS ∧ Chg [] w w' := by
  go_enter Try.func17, Try.ntmps17
  go_wp2_with fail
  obtain ⟨W1, hW⟩ : ∃ W1, W1 = w.alloc (.cells (flC (newK 0)) 45) := ⟨_, rfl⟩
  have h0 : flC (newK 0) = #[.int .u32 0, .int .u32 0, .int .u32 0, .int .u32 0, .int .u32 0, .int .u32 0, .int .u32 0, .int .u32 0, .int .u32 0, .int .u32 0, .int .u32 0, .int .u32 0, .int .u32 0, .int .u32 0, .int .u32 0, .int .u32 0, .int .u32 0, .int .u32 0, .int .u32 0, .int .u32 0, .int .u32 0, .int .u32 0, .int .u32 0, .int .u32 0, .int .u32 0, .int .u32 0, .int .u32 0, .int .u32 0, .int .u32 0, .int .u32 0, .int .u32 0, .int .u32 0, .int .i64 (-1), .int .u32 0, .bool false] := by rfl
  have hF : Fl W1 w.heap.size (newK 0) := by rw [hW]; exact row_alloc_at _ _ _ _ rfl
  have hC : Chg [] w W1 := by rw [hW]; exact (Chg.refl _ _).alloc _
  rw [h0] at hW
  rw [← hW]
  have HF := Lib.hid hF
  have HC := Lib.hid hC
  clear hW h0 hF hC
  go_loopw [2] (fun i wr => ∃ k : Nat, k ≤ 32 ∧ i = .int .i64 k ∧ Fl wr w.heap.size (newK k) ∧ Chg [] w wr) (fun i _ => 32 - (intOf i).toNat)
  case atStart => exact ⟨0, by omega, rfl, HF.out, HC.out⟩
  case round =>
    obtain ⟨k, hk, rfl, hF, hC⟩ := hrel
    have HFk := Lib.hid hF
    have HCk := Lib.hid hC
    by_cases hk2 : k < 32
    · have d : decide ((k : Int) < 32) = true := by simp; omega
      have hkI : (k : Int) < 32 := by omega
      have ck := hF.ci k hk2
      have fk := hF.fr k
      clear hF hC
      go_wp2
      have e : ({ newK k with f := up (newK k).f k 4294967295 } : FS) = newK (k + 1) := by
        have : up (fun j => if j < k then 4294967295 else 0) k 4294967295 = fun j => if j < k + 1 then 4294967295 else 0 := by
          funext j
          unfold up
          by_cases h : j = k
          · subst h; simp
          · simp only [h, if_false]
            by_cases h2 : j < k
            · rw [if_pos h2, if_pos (by omega)]
            · rw [if_neg h2, if_neg (by omega)]
        unfold newK
        rw [← this]
      have g := HFk.out.set k 4294967295 hk2
      rw [e] at g
      exact ⟨⟨k + 1, by omega, by first | rfl | go_num, g, HCk.out.setCell (Or.inr (Nat.le_refl _)) _⟩, by simp only [intOf]; omega⟩
    · obtain rfl : k = 32 := by omega
      clear hF hC
      go_wp2
      go_ret
      refine ⟨rfl, ?_, HCk.out⟩
      have := HFk.out
      unfold Fl at this ⊢
      rw [this]
      congr 1
theorem wpList_load32 {ops : Array Oper} {rest : List Oper} {o : Oper} {a : Act} {Q : Exit → Act → World → Prop} {w : World} {b : Nat} {S : FS} (h : Fl w b S) (hg : o.guard = none) (x : Operand) (ho : o.op = .load 32 x) (hx : a.eval x = .pointer (some ⟨b, 0, none⟩))
    (hr : wpList Try.prog ops Q rest (a.put o.dst (.agg (wordsC S.f).toArray)) w) : wpList Try.prog ops Q (o :: rest) a w :=
  wpList_plain hg fun K hK => by
    obtain ⟨d, op, t, p, af, g⟩ := o
    simp only at ho hg
    subst ho hg
    unfold Oper.wp
    rw [ldx_words h a.eval x hx]
    exact hK _ _ hr
set_option maxHeartbeats 1600000 in
theorem same_in {w b rb S} (h : Fl w b S) (hr : Fl w rb S) (hS : S.Ok) : Calls Try.prog 22 #[.pointer (some ⟨b, 0, none⟩), .pointer (some ⟨rb, 0, none⟩)] w fun e w' => e = .returned (.bool true) ∧ Chg [] w w' := by
  have H := Lib.hid h
  have HR := Lib.hid hr
  have HS := Lib.hid hS
  clear h hr hS
  go_enter Try.func22, Try.ntmps22
  go_wp2_with (refine wpList_load32 HR.out rfl _ rfl rfl ?_)
  obtain ⟨A, hA⟩ : ∃ A, A = (wordsC S.f).toArray := ⟨_, rfl⟩
  rw [← hA]
  have HG : Hid (∀ k, k < 32 → A[k]? = some (.int .u32 (S.f k : Int))) := Lib.hid fun k hk => by rw [hA]; exact wordsC_get S.f k hk
  have HSz : Hid (A.size = 32) := Lib.hid (by rw [hA]; simp [wordsC])
  clear hA
  go_loopw [11] (fun i wr => ∃ k : Nat, k ≤ 32 ∧ i = .int .i64 k ∧ wr = w) (fun i _ => 32 - (intOf i).toNat)
  case atStart => exact ⟨0, by omega, rfl, rfl⟩
  case round =>
    obtain ⟨k, hk, rfl, rfl⟩ := hrel
    by_cases hk2 : k < 32
    · have dk : decide ((k : Int) < 32) = true := by simp; omega
      have hkI : (k : Int) < 32 := by omega
      have hsz := HSz.out
      have hg := HG.out k hk2
      have hkA : k < A.size := by omega
      have hg2 : A[k] = .int .u32 (S.f k : Int) := by rw [Array.getElem?_eq_getElem hkA] at hg; simpa using hg
      have hix : ∀ W, (Instr.index 32 (.agg A) (.int .i64 (k : Int))).run Try.prog W = .ok (.int .u32 (S.f k : Int)) W := fun W => by
        simp [Instr.index, run_underlying Try.underlying32, asIntOf, go_sem, hg2, hkA]
        intro h32; omega
      have HRd := Lib.hid (read_in H.out k hk2)
      go_wp2_with fail
      refine HRd.out.mono ?_
      rintro e w2 ⟨rfl, rfl⟩
      go_wp2
      exact ⟨⟨k + 1, by omega, by go_num, by first | rfl | trivial⟩, by simp only [intOf]; omega⟩
    · obtain rfl : k = 32 := by omega
      have HCd : Hid (Chg [] wr wr.drew) := Lib.hid (Chg.refl _ _).drew
      have HD := Lib.hid (dead_in (H.out.keep HCd.out (by simp)))
      have qd : wr.drew.cell? ⟨rb, 34, none⟩ = some (.bool S.de) := (HR.out.keep HCd.out (by simp)).c34
      go_wp2_with fail
      refine wp_region_C (fun w' => w'.cell? ⟨rb, 34, none⟩ = some (.bool S.de)) [(0, 0), (2, 0), (3, 0), (4, 0), (5, 1), (1, 2), (6, 0), (7, 0), (8, 0), (10, 0), (9, 2), (11, 2), (12, 0), (13, 0), (14, 0), (15, 0), (16, 2), (17, 0), (18, 0), (19, 0), (20, 0), (21, 2), (22, 0), (23, 0), (24, 0)] rfl (by kernel_rfl) ?hSS ?hTT
      case hSS => exact qd
      refine wpT_pureD (v := ?_) (some 21) rfl rfl (by rfl) (fun w' => ?_) ?_
      rotate_left
      · (go_simp; try with_reducible rfl)
      try simp only [Act.put, List.setIfInBounds_toArray, List.set_cons_zero, List.set_cons_succ]
      refine wpT_pureD (v := ?_) (some 23) rfl rfl (by rfl) (fun w' => ?_) ?_
      rotate_left
      · (go_simp; try with_reducible rfl)
      try simp only [Act.put, List.setIfInBounds_toArray, List.set_cons_zero, List.set_cons_succ]
      refine wpT_pureD (v := ?_) (some 24) rfl rfl (by rfl) (fun w' => ?_) ?_
      rotate_left
      · (go_simp; try with_reducible rfl)
      try simp only [Act.put, List.setIfInBounds_toArray, List.set_cons_zero, List.set_cons_succ]
      refine wpT_pureD (v := ?_) (some 25) rfl rfl (by rfl) (fun w' => ?_) ?_
      rotate_left
      · (go_simp; try with_reducible rfl)
      try simp only [Act.put, List.setIfInBounds_toArray, List.set_cons_zero, List.set_cons_succ]
      refine wpT_readD (v := ?_) (some 26) rfl rfl (by rfl) (fun w' hw => ?_) ?_
      rotate_left
      · (obtain q0 := hw; go_simp; try with_reducible rfl)
      try simp only [Act.put, List.setIfInBounds_toArray, List.set_cons_zero, List.set_cons_succ]
      refine wpT_eff rfl (by rfl) (fun K hK => ?_)
      go_wp2_with fail
      refine HD.out.mono ?_
      rintro e wa ⟨rfl, hw⟩
      obtain rfl := hw.symm
      try clear hw
      go_wp2_with fail
      refine hK _ _ qd ?_
      clear hK K
      try simp only [Act.put, List.setIfInBounds_toArray, List.set_cons_zero, List.set_cons_succ]
      refine wpT_pureD (v := ?_) (some 27) rfl rfl (by rfl) (fun w' => ?_) ?_
      rotate_left
      · (go_simp; try with_reducible rfl)
      try simp only [Act.put, List.setIfInBounds_toArray, List.set_cons_zero, List.set_cons_succ]
      refine wpT_pureD (v := ?_) (some 28) rfl rfl (by rfl) (fun w' => ?_) ?_
      rotate_left
      · (go_simp; try with_reducible rfl)
      try simp only [Act.put, List.setIfInBounds_toArray, List.set_cons_zero, List.set_cons_succ]
      refine wpT_pureD (v := ?_) (some 29) rfl rfl (by rfl) (fun w' => ?_) ?_
      rotate_left
      · (go_simp; try with_reducible rfl)
      try simp only [Act.put, List.setIfInBounds_toArray, List.set_cons_zero, List.set_cons_succ]
      refine wpT_pureD (v := ?_) (some 31) rfl rfl (by rfl) (fun w' => ?_) ?_
      rotate_left
      · (go_simp; try with_reducible rfl)
      try simp only [Act.put, List.setIfInBounds_toArray, List.set_cons_zero, List.set_cons_succ]
      refine wpT_eff rfl (by rfl) (fun K hK => ?_)
      have HK1 := Lib.hid (counter_in (H.out.keep HCd.out (by simp)) HS.out)
      go_wp2_with fail
      refine HK1.out.mono ?_
      rintro e wb ⟨rfl, hc⟩
      have HCwb : Hid (Chg [] wr wb) := Lib.hid (HCd.out.trans hc)
      have qwb : wb.cell? ⟨rb, 34, none⟩ = some (.bool S.de) := (HR.out.keep HCwb.out (by simp)).c34
      clear hc
      go_wp2_with fail
      refine hK _ _ qwb ?_
      clear hK K
      try simp only [Act.put, List.setIfInBounds_toArray, List.set_cons_zero, List.set_cons_succ]
      refine wpT_eff rfl (by rfl) (fun K hK => ?_)
      have HK2 := Lib.hid (rcounter_in (HR.out.keep HCwb.out (by simp)) HS.out)
      go_wp2_with fail
      refine HK2.out.mono ?_
      rintro e wc ⟨rfl, hc⟩
      have HCwc : Hid (Chg [] wr wc) := Lib.hid (HCwb.out.trans hc)
      have qwc : wc.cell? ⟨rb, 34, none⟩ = some (.bool S.de) := (HR.out.keep HCwc.out (by simp)).c34
      clear hc
      go_wp2_with fail
      refine hK _ _ qwc ?_
      clear hK K
      try simp only [Act.put, List.setIfInBounds_toArray, List.set_cons_zero, List.set_cons_succ]
      refine wpT_pureD (v := ?_) (some 33) rfl rfl (by rfl) (fun w' => ?_) ?_
      rotate_left
      · (go_simp; try with_reducible rfl)
      try simp only [Act.put, List.setIfInBounds_toArray, List.set_cons_zero, List.set_cons_succ]
      refine wpT_pureD (v := ?_) (some 34) rfl rfl (by rfl) (fun w' => ?_) ?_
      rotate_left
      · (go_simp; try with_reducible rfl)
      try simp only [Act.put, List.setIfInBounds_toArray, List.set_cons_zero, List.set_cons_succ]
      refine wpT_pureD (v := ?_) (some 35) rfl rfl (by rfl) (fun w' => ?_) ?_
      rotate_left
      · (go_simp; try with_reducible rfl)
      try simp only [Act.put, List.setIfInBounds_toArray, List.set_cons_zero, List.set_cons_succ]
      refine wpT_pureD (v := ?_) (some 36) rfl rfl (by rfl) (fun w' => ?_) ?_
      rotate_left
      · (go_simp; try with_reducible rfl)
      try simp only [Act.put, List.setIfInBounds_toArray, List.set_cons_zero, List.set_cons_succ]
      refine wpT_eff rfl (by rfl) (fun K hK => ?_)
      have HK3 := Lib.hid (read_out (.pointer (some ⟨b, 0, none⟩)) (-1) (.inr ⟨⟨_, rfl⟩, by omega⟩) wc)
      go_wp2_with fail
      refine HK3.out.mono ?_
      rintro e wd ⟨rfl, hw⟩
      rw [hw]
      try clear hw
      go_wp2_with fail
      refine hK _ _ qwc ?_
      clear hK K
      try simp only [Act.put, List.setIfInBounds_toArray, List.set_cons_zero, List.set_cons_succ]
      refine wpT_pureD (v := ?_) (some 38) rfl rfl (by rfl) (fun w' => ?_) ?_
      rotate_left
      · (go_simp; try with_reducible rfl)
      try simp only [Act.put, List.setIfInBounds_toArray, List.set_cons_zero, List.set_cons_succ]
      refine wpT_pureD (v := ?_) (some 39) rfl rfl (by rfl) (fun w' => ?_) ?_
      rotate_left
      · (go_simp; try with_reducible rfl)
      try simp only [Act.put, List.setIfInBounds_toArray, List.set_cons_zero, List.set_cons_succ]
      refine wpT_pureD (v := ?_) (some 40) rfl rfl (by rfl) (fun w' => ?_) ?_
      rotate_left
      · (go_simp; try with_reducible rfl)
      try simp only [Act.put, List.setIfInBounds_toArray, List.set_cons_zero, List.set_cons_succ]
      refine wpT_pureD (v := ?_) (some 41) rfl rfl (by rfl) (fun w' => ?_) ?_
      rotate_left
      · (go_simp; try with_reducible rfl)
      try simp only [Act.put, List.setIfInBounds_toArray, List.set_cons_zero, List.set_cons_succ]
      refine wpT_eff rfl (by rfl) (fun K hK => ?_)
      have HK4 := Lib.hid (read_out (.pointer (some ⟨b, 0, none⟩)) 32 (.inr ⟨⟨_, rfl⟩, by omega⟩) wc)
      go_wp2_with fail
      refine HK4.out.mono ?_
      rintro e we ⟨rfl, hw⟩
      rw [hw]
      try clear hw
      go_wp2_with fail
      refine hK _ _ qwc ?_
      clear hK K
      try simp only [Act.put, List.setIfInBounds_toArray, List.set_cons_zero, List.set_cons_succ]
      refine wpT_pureD (v := ?_) (some 43) rfl rfl (by rfl) (fun w' => ?_) ?_
      rotate_left
      · (go_simp; try with_reducible rfl)
      try simp only [Act.put, List.setIfInBounds_toArray, List.set_cons_zero, List.set_cons_succ]
      refine wpT_pureD (v := ?_) (some 44) rfl rfl (by rfl) (fun w' => ?_) ?_
      rotate_left
      · (go_simp; try with_reducible rfl)
      try simp only [Act.put, List.setIfInBounds_toArray, List.set_cons_zero, List.set_cons_succ]
      refine wpT_pureD (v := ?_) (some 4) rfl rfl (by rfl) (fun w' => ?_) ?_
      rotate_left
      · (go_simp; try with_reducible rfl)
      try simp only [Act.put, List.setIfInBounds_toArray, List.set_cons_zero, List.set_cons_succ]
      refine wpT_end ?_
      go_wp2
      go_ret
      exact ⟨by simp, HCwc.out⟩
end Go.Proofs.L
