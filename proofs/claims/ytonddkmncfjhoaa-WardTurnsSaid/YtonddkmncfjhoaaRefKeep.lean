/- Proved here: lemmas and contracts (RefKeep) for the laws of this seat, for all values of the stated types; no further condition. -/
import Derived.Test.YtonddkmncfjhoaaRefStatus
open Go Go.RowKit Go.Lib
namespace Go.Proofs.L
theorem rkeep_none {w b gl f vr vg} (h : Rw w b [] gl f vr vg) (X : Array Value) (pc : Int) : Calls Try.prog 19 #[.pointer (some ⟨b, 0, none⟩), .agg X, .int .u32 pc] w fun e w' => e = .returned (.tuple #[]) ∧ Chg [] w w' := by
  have HC : Hid (Chg [] w (w.alloc (.cells X 38))) := Lib.hid ((Chg.refl [] w).alloc _)
  have hV := h.keep0 HC.out
  obtain ⟨p, c, hv⟩ := win_sl hV.r
  have c0 := hV.c0
  rw [hv] at c0
  clear h hv hV
  go_enter Try.func19, Try.ntmps19
  go_wp2
  go_end0
  exact ⟨rfl, HC.out⟩
/-- the ready list's first element rewritten from its cell d on -/
theorem Rw.puts {w b t rl gl f vr vg g o c} (h : Rw w b (t :: rl) gl f vr vg) (hv : vr = .slice (some ⟨g, o, none⟩) (rl.length + 1) c) (ht1 : t ∉ rl) (ht2 : t ∉ gl) (d : Nat) (vs : List Value) (S' : Sta) (hd : d + vs.length ≤ 35) (hS : stL S' = (stL (f t)).take d ++ vs ++ (stL (f t)).drop (d + vs.length)) :
    Rw (w.setCells g (o + (1 + d)) vs) b (t :: rl) gl (ups f t S') vr vg := by
  have hc := chg_setCells g vs (o + (1 + d)) w
  have hr := h.r
  have hnr := h.nr
  have hrg := h.rg
  rw [hv] at hr hnr hrg
  have hgb : g ≠ b := hnr g rfl
  have e2 : ∀ l : List Nat, t ∉ l → ol (ups f t S') l = ol f l := fun l hl => ol_congr fun i hi => by unfold ups; rw [if_neg (by rintro rfl; exact hl hi)]
  have hw := win_setCells hr (1 + d) vs (by omega)
  have e1 : (ol f (t :: rl)).take (1 + d) ++ vs ++ (ol f (t :: rl)).drop (1 + d + vs.length) = ol (ups f t S') (t :: rl) := by
    have h1 : ol f (t :: rl) = oneL f t ++ ol f rl := by unfold ol; rw [List.flatMap_cons]
    have h2 : ol (ups f t S') (t :: rl) = oneL (ups f t S') t ++ ol f rl := by rw [← e2 rl ht1]; unfold ol; rw [List.flatMap_cons]
    have h3 : oneL (ups f t S') t = .int .i64 (t : Int) :: stL S' := by unfold oneL ups; rw [if_pos rfl]
    rw [h1, h2, h3, hS]
    have hl := oneL_len f t
    have hsl := stL_len (f t)
    rw [List.take_append_of_le_length (by omega), List.drop_append_of_le_length (by omega)]
    unfold oneL
    rw [Nat.add_comm 1 d, List.take_succ_cons, show d + 1 + vs.length = (d + vs.length) + 1 by omega, List.drop_succ_cons]
    simp
  rw [e1, ← hv] at hw
  refine ⟨by rw [hc.row h.lt (by simp; exact fun e => hgb e.symm)]; exact h.row, hw, ?_, h.nr, h.ng, h.rg⟩
  rw [e2 gl ht2]
  exact h.g.keep hc (fun x hx => by simp; rintro rfl; exact hrg x rfl hx)
set_option maxHeartbeats 800000 in
theorem rkeep_some {w b t rl gl f vr vg} (h : Rw w b (t :: rl) gl f vr vg) (ht1 : t ∉ rl) (ht2 : t ∉ gl) (X : Nat → Nat) (pc : Nat) : Calls Try.prog 19 #[.pointer (some ⟨b, 0, none⟩), .agg (xL X).toArray, .int .u32 (pc : Int)] w fun e w' => e = .returned (.tuple #[]) ∧ Rw w' b (t :: rl) gl (ups f t (keepSta (f t) X pc)) vr vg ∧ Chg (vr.ownBlock.toList) w w' := by
  obtain ⟨W1, hW1⟩ : ∃ W1, W1 = w.alloc (.cells (xL X).toArray 38) := ⟨_, rfl⟩
  obtain ⟨B, hB⟩ : ∃ B, B = w.heap.size := ⟨_, rfl⟩
  have hr : W1.row? B = some (xL X).toArray := by rw [hW1]; exact row_alloc_at _ _ _ _ hB
  have hc1 : Chg [] w W1 := by rw [hW1]; exact (Chg.refl _ _).alloc _
  have h1 := h.keep0 hc1
  obtain ⟨g, o, c, hv, hce, hfe⟩ := win_el h1.r 0 t rfl
  have hgw : g < w.heap.size := h.r.lt g (by rw [hv]; rfl)
  have cB : W1.cell? ⟨B, 0, none⟩ = some (.int .u32 (X 0 : Int)) := by rw [row_cell hr]; simpa using xL_get X 0 (by omega)
  have fB := row_free hr 0
  have hbB : b ≠ B := by have := h.lt; omega
  have hgB : g ≠ B := by omega
  have hBg : B ≠ g := hgB.symm
  obtain ⟨W2, hW2⟩ : ∃ W2, W2 = W1.setCell ⟨B, 0, none⟩ (.int .u32 0) := ⟨_, rfl⟩
  have hc2 : Chg [B] W1 W2 := by rw [hW2]; exact (Chg.refl _ _).setCell (Or.inl (by simp)) _
  have r2 : W2.row? B = some (xL (x0 X)).toArray := by rw [hW2, row_setCell_same, hr, Option.map_some, xL_set0]
  have h2 := h1.keep hc2 (by simpa using hbB) (fun x hx => by have := h.r.lt x hx; simp; omega) (fun x hx => by have := h.g.lt x hx; simp; omega)
  have s0 := h2.c0
  have c01 := h1.c0
  rw [hv] at s0 c01
  obtain ⟨n, hn⟩ : ∃ n, n = (t :: rl).length := ⟨_, rfl⟩
  rw [← hn] at s0 c01 hv
  have n0 : decide ((n : Int) > 0) = true := by simp at hn; simp; omega
  have n1 : decide ((0 : Int) < (n : Int)) = true := by simp at hn; simp; omega
  have n3 : (0 : Int) < (n : Int) := by simp at hn; omega
  have HC : Hid (Chg [g] w W2.drew) := Lib.hid (Chg.drew ⟨hc2.os.trans hc1.os, hc2.tape.trans hc1.tape, hc2.output.trans hc1.output, Nat.le_trans hc1.size hc2.size, fun k hk hE => (hc2.block k (Nat.lt_of_lt_of_le hk hc1.size) (by simp; omega)).trans (hc1.block k hk (by simp))⟩)
  have HD := Lib.hid (h2.keep0 ((Chg.refl [] W2).drew))
  have hvo : vr.ownBlock.toList = [g] := by rw [hv]; rfl
  have HVO := Lib.hid hvo
  have HN1 := Lib.hid ht1
  have HN2 := Lib.hid ht2
  have HV : Hid (vr = .slice (some ⟨g, o, none⟩) (rl.length + 1) c) := Lib.hid (by rw [hv, hn]; rfl)
  have hsz : (xL (x0 X)).toArray.size = 32 := by simp [xL_len]
  have HA := Lib.hid (xL_all (x0 X))
  have hln := xL_len (x0 X)
  obtain ⟨A, hA⟩ : ∃ A, A = xL (x0 X) := ⟨_, rfl⟩
  rw [← hA] at r2 hsz HA hln
  have HAA := Lib.hid hA
  obtain ⟨A0, hA0⟩ : ∃ A0, A0 = (xL X).toArray := ⟨_, rfl⟩
  rw [← hA0] at hW1 ⊢
  have HW2 := Lib.hid hW2
  clear h h1 h2 hc1 hc2 hr ht1 ht2 hA hA0 hW2 hce hfe hn hv hvo hgw
  go_enter Try.func19, Try.ntmps19
  go_upto_region 1 with (fail)
  rw [← hB, ← hW1]
  clear hW1 hB
  go_wp2_with fail
  rw [← HW2.out]
  clear cB fB c01
  refine wp_region_C (fun w' => w'.cell? ⟨b, 0, none⟩ = some (.slice (some ⟨g, o, none⟩) n c) ∧ w'.row? B = some A.toArray) [(0, 0), (1, 0), (2, 0), (3, 1), (4, 1), (5, 0), (6, 0), (7, 0), (8, 3)] rfl (by kernel_rfl) ?hSA ?hTA
  case hSA => exact ⟨s0, r2⟩
  refine wpT_pureD (v := ?_) (some 13) rfl rfl (by rfl) (fun w' => ?_) ?_
  rotate_left
  · (go_simp; try with_reducible rfl)
  try simp only [Act.put, List.setIfInBounds_toArray, List.set_cons_zero, List.set_cons_succ]
  refine wpT_pureD (v := ?_) (some 14) rfl rfl (by rfl) (fun w' => ?_) ?_
  rotate_left
  · (go_simp; try with_reducible rfl)
  try simp only [Act.put, List.setIfInBounds_toArray, List.set_cons_zero, List.set_cons_succ]
  refine wpT_pureD (v := ?_) (some 15) rfl rfl (by rfl) (fun w' => ?_) ?_
  rotate_left
  · (go_simp; try with_reducible rfl)
  try simp only [Act.put, List.setIfInBounds_toArray, List.set_cons_zero, List.set_cons_succ]
  refine wpT_readD (v := ?_) (some 16) rfl rfl (by rfl) (fun w' hw => ?_) ?_
  rotate_left
  · (obtain ⟨q0, q1⟩ := hw; go_simp; try with_reducible rfl)
  try simp only [Act.put, List.setIfInBounds_toArray, List.set_cons_zero, List.set_cons_succ]
  refine wpT_load_part a38 A (some 17) _ rfl rfl rfl (by rfl) rfl hln (fun w' hw j u hu => by rw [Nat.zero_add, row_cell hw.2]; simpa using hu) ?_
  try simp only [Act.put, List.setIfInBounds_toArray, List.set_cons_zero, List.set_cons_succ]
  try simp only [Act.put, List.setIfInBounds_toArray, List.set_cons_zero, List.set_cons_succ]
  refine wpT_pureD (v := ?_) (some 18) rfl rfl (by rfl) (fun w' => ?_) ?_
  rotate_left
  · (go_simp; try with_reducible rfl)
  try simp only [Act.put, List.setIfInBounds_toArray, List.set_cons_zero, List.set_cons_succ]
  refine wpT_pureD (v := ?_) (some 19) rfl rfl (by rfl) (fun w' => ?_) ?_
  rotate_left
  · (go_simp; try with_reducible rfl)
  try simp only [Act.put, List.setIfInBounds_toArray, List.set_cons_zero, List.set_cons_succ]
  refine wpT_pureD (v := ?_) (some 20) rfl rfl (by rfl) (fun w' => ?_) ?_
  rotate_left
  · (go_simp; try with_reducible rfl)
  try simp only [Act.put, List.setIfInBounds_toArray, List.set_cons_zero, List.set_cons_succ]
  refine wpT_brk rfl (by rfl) (fun K hK => ?_)
  have hrm : ∀ j, j < 32 → (W2.drew.cell? ⟨g, o + 1 + 3 + j, none⟩).isSome = true ∧ W2.drew.frozen? ⟨g, o + 1 + 3 + j, none⟩ = false := fun j hj => by
    have hr := HD.out.r
    rw [HV.out] at hr
    have := hr.room (4 + j) (by omega)
    rwa [show o + (4 + j) = o + 1 + 3 + j by omega] at this
  have HR := Lib.hid hrm
  clear hrm
  go_wp2_with (refine wpList_store_part a38 A.toArray rfl rfl _ _ rfl rfl rfl hsz (fun j hj => (HR.out j hj).1) (fun j hj => (HR.out j hj).2) HA.out ?_)
  refine wpT_end ?_
  have hP := HD.out.puts HV.out HN1.out HN2.out 3 A { f t with x := x0 X } (by rw [HAA.out, xL_len]; omega) (by rw [HAA.out]; exact stL_x3 _ _)
  rw [show o + (1 + 3) = o + 1 + 3 by omega] at hP
  have hCP := chg_setCells g A (o + 1 + 3) W2.drew
  obtain ⟨W3, hW3⟩ : ∃ W3, W3 = W2.drew.setCells g (o + 1 + 3) A := ⟨_, rfl⟩
  rw [← hW3] at hP hCP
  have e3 : (A.toArray.toList : List Value) = A := rfl
  try rw [e3]
  rw [← hW3]
  have p0 := hP.c0
  rw [HV.out] at p0
  have hrr := hP.r
  rw [HV.out] at hrr
  have q2 : W3.frozen? ⟨g, o + 1 + 2, none⟩ = false := by
    have := (hrr.room 3 (by omega)).2
    rwa [show o + 3 = o + 1 + 2 by omega] at this
  have p2 : W3.cell? ⟨g, o + 1 + 2, none⟩ = some (.int .u32 ((f t).p : Int)) := by
    have := hrr.cell 3 (.int .u32 ((f t).p : Int)) (by
      have h3 := ol_get (ups f t { f t with x := x0 X }) (t :: rl) 0 t 3 rfl (by omega)
      rw [show 0 * 36 + 3 = 3 from rfl] at h3
      rw [h3, oneL_s]
      have : ups f t { f t with x := x0 X } t = { f t with x := x0 X } := by unfold ups; rw [if_pos rfl]
      rw [this]; rfl)
    rwa [show o + 3 = o + 1 + 2 by omega] at this
  have p3 : (0 : Int) < ((rl.length + 1 : Nat) : Int) := by omega
  have HP := Lib.hid hP
  have HCP : Hid (Chg [g] w W3) := Lib.hid (HC.out.trans hCP)
  clear hP hCP hW3 hrr
  obtain ⟨n', hn'⟩ : ∃ n', n' = rl.length + 1 := ⟨_, rfl⟩
  rw [← hn'] at p0 p3
  clear hn' n0 n1 n3
  go_wp2
  go_end0
  refine ⟨rfl, ?_, by rw [HVO.out]; exact HCP.out.setCell (Or.inl (by simp)) _⟩
  have h2 := HP.out.puts HV.out HN1.out HN2.out 2 [.int .u32 (pc : Int)] (keepSta (f t) X pc) (by simp) (by unfold ups; rw [if_pos rfl]; rfl)
  have e : ups (ups f t { f t with x := x0 X }) t (keepSta (f t) X pc) = ups f t (keepSta (f t) X pc) := by
    funext k; unfold ups; split <;> rfl
  rw [e, show o + (1 + 2) = o + 1 + 2 by omega] at h2
  exact h2
end Go.Proofs.L
