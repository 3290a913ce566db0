/- Proved here: lemmas and contracts (RefEnd) for the laws of this seat, for all values of the stated types; no further condition. -/
import Derived.Test.YtonddkmncfjhoaaRefPass
open Go Go.RowKit Go.Lib
namespace Go.Proofs.L
structure Ended (w w' : World) (b t : Nat) (rl gl : List Nat) (f : Nat → Sta) (vg : Value) : Prop where
  ex : ∃ vr' vg', Rw w' b rl (gl ++ [t]) f vr' vg' ∧ (∀ x, vr'.ownBlock = some x → w.heap.size ≤ x) ∧ (vg'.ownBlock = vg.ownBlock ∨ ∀ x, vg'.ownBlock = some x → w.heap.size ≤ x)
  chg : Chg (b :: vg.ownBlock.toList) w w'
theorem ended {w U W3 W5 : World} {b t : Nat} {rl gl : List Nat} {f f' : Nat → Sta} {vr vg vr' vg' : Value} (h : Rw w b (t :: rl) gl f vr vg) (hr : ∀ i ∈ rl, f i = f' i) (hg : ∀ i ∈ gl, f i = f' i)
    (hU : Chg [] w U) (h3 : Chg vg.ownBlock.toList U W3) (hw3 : Win W3 36 vg' (gl.length + 1) (ol f gl ++ oneL f' t)) (ho3 : vg'.ownBlock = vg.ownBlock ∨ vg'.ownBlock = some U.heap.size)
    (h5 : Chg [] (W3.setCell ⟨b, 1, none⟩ vg') W5) (hw5 : Win W5 36 vr' rl.length (ol f rl)) (ho5 : vr'.ownBlock = none ∨ vr'.ownBlock = some (W3.setCell ⟨b, 1, none⟩ vg').heap.size) :
    Ended w (W5.setCell ⟨b, 0, none⟩ vr') b t rl gl f' vg := by
  have hlt := h.lt
  have hbn : b ∉ vg.ownBlock.toList := fun hm => h.ng b (by simpa using hm) rfl
  have c3 : Chg vg.ownBlock.toList w W3 := (chgE hU (by simp)).trans h3
  have c4 : Chg (b :: vg.ownBlock.toList) w (W3.setCell ⟨b, 1, none⟩ vg') := (chgE c3 (by intro x hx; simp [hx])).setCell (Or.inl (by simp)) _
  have c5 : Chg (b :: vg.ownBlock.toList) w W5 := c4.trans (chgE h5 (by simp))
  have s3 : W3.heap.size = (W3.setCell ⟨b, 1, none⟩ vg').heap.size := by simp
  have hUs := hU.size
  have h3s := h3.size
  have o3 : vg'.ownBlock = vg.ownBlock ∨ ∀ x, vg'.ownBlock = some x → w.heap.size ≤ x := ho3.imp id fun e x hx => by
    rw [e] at hx; simp at hx; omega
  have o3b : ∀ x, vg'.ownBlock = some x → x ≠ b := fun x hx => by
    rcases o3 with o | o
    · exact h.ng x (by rw [← o]; exact hx)
    · have := o x hx; omega
  have o5 : ∀ x, vr'.ownBlock = some x → W3.heap.size ≤ x := fun x hx => by
    rcases ho5 with o | o
    · rw [o] at hx; cases hx
    · rw [o] at hx; simp at hx; omega
  have o5b : ∀ x, vr'.ownBlock = some x → x ≠ b := fun x hx => by have := o5 x hx; omega
  have o35 : ∀ x, vr'.ownBlock = some x → vg'.ownBlock ≠ some x := fun x hx hy => by
    have h1 := o5 x hx
    have h2 := hw3.lt x hy
    omega
  refine ⟨⟨vr', vg', ⟨?_, ?_, ?_, o5b, o3b, o35⟩, fun x hx => by have := o5 x hx; omega, o3⟩, c5.setCell (Or.inl (by simp)) _⟩
  · have r3 : W3.row? b = some #[vr, vg] := by rw [c3.row hlt hbn]; exact h.row
    have r4 : (W3.setCell ⟨b, 1, none⟩ vg').row? b = some #[vr, vg'] := by rw [row_setCell_same, r3]; rfl
    have r5 : W5.row? b = some #[vr, vg'] := by rw [h5.row (row_lt r4) (by simp)]; exact r4
    rw [row_setCell_same, r5]; rfl
  · have e : ol f rl = ol f' rl := ol_congr hr
    rw [← e]
    exact hw5.keep ((Chg.refl [b] _).setCell (Or.inl (by simp)) _) (fun x hx => by simpa using o5b x hx)
  · have e : ol f' (gl ++ [t]) = ol f gl ++ oneL f' t := by rw [← ol_snoc, ol_congr hg]
    rw [e, List.length_append]
    have k4 := hw3.keep ((Chg.refl [b] W3).setCell (Or.inl (by simp)) vg' : Chg [b] W3 (W3.setCell ⟨b, 1, none⟩ vg')) (fun x hx => by simpa using o3b x hx)
    have k5 := k4.keep h5 (by simp)
    exact k5.keep ((Chg.refl [b] W5).setCell (Or.inl (by simp)) vr') (fun x hx => by simpa using o3b x hx)
theorem oneL_end (f : Nat → Sta) (t : Nat) (s : Int) (c : Nat) : oneL (ups f t (endSta (f t) s c)) t = ((oneL f t).set 1 (.int .i64 s)).set 2 (.int .u32 (c : Int)) := by
  unfold oneL ups
  rw [if_pos rfl]
  rfl
set_option maxHeartbeats 1600000 in
theorem rend_some {w b t rl gl f vr vg} (h : Rw w b (t :: rl) gl f vr vg) (ht1 : t ∉ rl) (ht2 : t ∉ gl) (hn : rl.length ≤ 100) (hm : gl.length ≤ 100) (s : Int) (c : Nat) : Calls Try.prog 21 #[.pointer (some ⟨b, 0, none⟩), .int .i64 s, .int .u32 (c : Int)] w fun e w' => e = .returned (.tuple #[]) ∧ Ended w w' b t rl gl (ups f t (endSta (f t) s c)) vg := by
  obtain ⟨i0, hi0, hz0, hz1, hz2⟩ := info_parts info54
  obtain ⟨g, o, cc, hv, hce, -⟩ := win_el h.r 0 t rfl
  have hr := h.r
  rw [hv] at hr
  have HT := hr.tail'
  rw [ol_drop] at HT
  have hcc : rl.length + 1 ≤ cc := by
    rcases hr.2 with ⟨h0, -⟩ | ⟨_, _, _, he, hle, -⟩
    · cases h0
    · injection he with e1 e2 e3; simp at hle; omega
  have hgw : g < w.heap.size := hr.lt g rfl
  have hce' : ∀ j u, (oneL f t)[j]? = some u → w.cell? ⟨g, o + j, none⟩ = some u := fun j u hu => by have := hce j u hu; simpa using this
  obtain ⟨n, hnn⟩ : ∃ n, n = rl.length := ⟨_, rfl⟩
  have e1 : (t :: rl).length = n + 1 := by rw [hnn]; rfl
  rw [e1] at hv
  have d0 : decide ((((n + 1 : Nat)) : Int) > 0) = true := by simp
  have d1 : decide ((0 : Int) < (((n + 1 : Nat)) : Int)) = true := by simp
  have n1 : (1 : Int) ≤ (n : Int) + 1 := by omega
  have hln := oneL_len f t
  obtain ⟨tq, htq⟩ : ∃ tq : Option Addr, tq = (if cc = 1 then some ⟨g, o, none⟩ else some ⟨g, o + 36, none⟩) := ⟨_, rfl⟩
  have hin : Win w 36 (Value.slice tq n (cc - 1)) n (ol f rl) := by
    have := HT
    rw [← hnn, ← htq] at this; exact this
  have hto : ∀ x, (Value.slice tq n (cc - 1)).ownBlock = some x → x = g := fun x hx => by
    rw [htq] at hx
    split at hx <;> (simp [Value.ownBlock] at hx; exact hx.symm)
  have HTO := Lib.hid hto
  have HGB : Hid (g ≠ b) := Lib.hid (h.nr g (by rw [hv]; rfl))
  have HGG : Hid (g ∉ vg.ownBlock.toList) := Lib.hid (fun hm => h.rg g (by rw [hv]; rfl) (by simpa using hm))
  have HBG : Hid (b ∉ vg.ownBlock.toList) := Lib.hid (fun hm => h.ng b (by simpa using hm) rfl)
  have HBW := Lib.hid h.lt
  have HGWW := Lib.hid hgw
  -- the ended one, in its own block
  obtain ⟨B, hB⟩ : ∃ B, B = w.heap.size := ⟨_, rfl⟩
  obtain ⟨f', hf'⟩ : ∃ f', f' = ups f t (endSta (f t) s c) := ⟨_, rfl⟩
  obtain ⟨W1, hW1⟩ : ∃ W1, W1 = w.alloc (.cells (oneL f t).toArray 54) := ⟨_, rfl⟩
  have hC1 : Chg [] w W1 := by rw [hW1]; exact (Chg.refl _ _).alloc _
  have hr1 : W1.row? B = some (oneL f t).toArray := by rw [hW1]; exact row_alloc_at _ _ _ _ hB
  obtain ⟨V, hV⟩ : ∃ V, V = (W1.setCell ⟨B, 1, none⟩ (.int .i64 s)).setCell ⟨B, 2, none⟩ (.int .u32 (c : Int)) := ⟨_, rfl⟩
  have hBw : B ∉ ([] : List Nat) := by simp
  have hCV : Chg [] w V := by
    rw [hV]
    refine (hC1.setCell (Or.inr ?_) _).setCell (Or.inr ?_) _
    all_goals (simp [hB])
  have hrV : V.row? B = some (oneL f' t).toArray := by
    rw [hV, row_setCell_same, row_setCell_same, hr1, hf', oneL_end]; simp
  have hlB := oneL_all f' t
  have hlV := oneL_len f' t
  have b1 : W1.cell? ⟨B, 1, none⟩ = some (.int .i64 (f t).s) := by rw [row_cell hr1]; simpa using (oneL_s f t 0).trans (stL_0 _)
  have b2 : W1.cell? ⟨B, 2, none⟩ = some (.int .u32 ((f t).c : Int)) := by rw [row_cell hr1]; simpa using (oneL_s f t 1).trans (stL_1 _)
  have b3 := row_free hr1 1
  have b4 := row_free hr1 2
  have hbB : b ≠ B := by have := h.lt; omega
  have hgB : g ≠ B := by omega
  have c0 := h.c0
  rw [hv] at c0
  have HH := Lib.hid h
  have HCE := Lib.hid hce'
  have HIN := Lib.hid hin
  have HW1 := Lib.hid hW1
  have HV := Lib.hid hV
  have HBB := Lib.hid hB
  have HRV := Lib.hid hrV
  have HCV := Lib.hid hCV
  have HC1 := Lib.hid hC1
  have HTQ := Lib.hid htq
  have HNN := Lib.hid hnn
  have HVV := Lib.hid hv
  have HF := Lib.hid hf'
  have HLB := Lib.hid hlB
  have HN1 := Lib.hid ht1
  have HN2 := Lib.hid ht2
  have HNb := Lib.hid hn
  have HMb := Lib.hid hm
  have hsz : (oneL f t).toArray.size = 36 := by simp [hln]
  have hall : allOne (oneL f t).toArray = true := List.all_eq_true.2 fun v hv => oneL_all f t v (by simpa using hv)
  obtain ⟨L, hL⟩ : ∃ L, L = oneL f t := ⟨_, rfl⟩
  rw [← hL] at HCE hln hsz hall HW1
  rw [← hf']
  clear h hr HT hce hce' hcc hgw hnn e1 htq hin hto hC1 hr1 hrV hCV hW1 hV hBw hlB hL ht1 ht2 hn hm hf' hv hB
  go_enter Try.func21, Try.ntmps21
  go_upto_region 2 with (first | refine wpList_load_part a54 L rfl _ rfl rfl hln HCE.out ?_ | refine wpList_store_new a54 _ _ rfl rfl rfl rfl rfl rfl hsz hall ?_)
  rw [← HBB.out, ← HW1.out]
  go_upto_region 4 with (fail)
  rw [← HV.out]
  clear b1 b2 b3 b4 hgB
  have HX := Lib.hid (HH.out.keep0 HCV.out)
  have HD := Lib.hid (HH.out.keep0 HCV.out.drew)
  obtain ⟨pg, cg, hvg⟩ := win_sl HH.out.g
  obtain ⟨m, hm⟩ : ∃ m, m = gl.length := ⟨_, rfl⟩
  rw [← hm] at hvg
  have c1 := HX.out.c1
  rw [hvg] at c1
  have HM := Lib.hid hm
  have HVG := Lib.hid hvg
  have hcel : ∀ j u, (oneL f' t)[j]? = some u → V.cell? ⟨B, j, none⟩ = some u := fun j u hu => by rw [row_cell HRV.out]; simpa using hu
  have HCL := Lib.hid hcel
  clear hm hvg hcel c0
  refine wp_region_C (fun w' => w'.cell? ⟨b, 1, none⟩ = some (.slice pg m cg) ∧ ∀ j u, (oneL f' t)[j]? = some u → w'.cell? ⟨B, j, none⟩ = some u) [(0, 0), (1, 0), (2, 0), (3, 0), (4, 1), (5, 1), (6, 2), (7, 3), (8, 0), (9, 0), (10, 3)] rfl (by kernel_rfl) ?hSA ?hTA
  case hSA => exact ⟨c1, HCL.out⟩
  refine wpT_pureD (v := ?_) (some 25) rfl rfl (by rfl) (fun w' => ?_) ?_
  rotate_left
  · (go_simp; try with_reducible rfl)
  try simp only [Act.put, List.setIfInBounds_toArray, List.set_cons_zero, List.set_cons_succ]
  refine wpT_pureD (v := ?_) (some 26) rfl rfl (by rfl) (fun w' => ?_) ?_
  rotate_left
  · (go_simp; try with_reducible rfl)
  try simp only [Act.put, List.setIfInBounds_toArray, List.set_cons_zero, List.set_cons_succ]
  refine wpT_pureD (v := ?_) (some 27) rfl rfl (by rfl) (fun w' => ?_) ?_
  rotate_left
  · (go_simp; try with_reducible rfl)
  try simp only [Act.put, List.setIfInBounds_toArray, List.set_cons_zero, List.set_cons_succ]
  refine wpT_pureD (v := ?_) (some 28) rfl rfl (by rfl) (fun w' => ?_) ?_
  rotate_left
  · (go_simp; try with_reducible rfl)
  try simp only [Act.put, List.setIfInBounds_toArray, List.set_cons_zero, List.set_cons_succ]
  refine wpT_readD (v := ?_) (some 29) rfl rfl (by rfl) (fun w' hw => ?_) ?_
  rotate_left
  · (obtain ⟨q0, q1⟩ := hw; go_simp; try with_reducible rfl)
  try simp only [Act.put, List.setIfInBounds_toArray, List.set_cons_zero, List.set_cons_succ]
  refine wpT_load_part a54 (oneL f' t) (some 30) _ rfl rfl rfl (by rfl) rfl hlV (fun w' hw j u hu => by rw [Nat.zero_add]; exact hw.2 j u hu) ?_
  try simp only [Act.put, List.setIfInBounds_toArray, List.set_cons_zero, List.set_cons_succ]
  try simp only [Act.put, List.setIfInBounds_toArray, List.set_cons_zero, List.set_cons_succ]
  refine wpT_eff rfl (by rfl) (fun K hK => ?_)
  go_wp2_with fail
  rw [fold_zip _ _ (by rw [hlV]; rfl)]
  have hCU : Chg [] w (V.alloc (.cells (oneL f' t).toArray 54)).drew := (HCV.out.alloc _).drew
  have hVU : Chg [] V (V.alloc (.cells (oneL f' t).toArray 54)).drew := ((Chg.refl [] V).alloc _).drew
  have h2 := (win_one (w := V) (oneL f' t) 54 hlV).keep ((Chg.refl [] _).drew) (by simp)
  obtain ⟨H, hH⟩ : ∃ H, H = V.heap.size := ⟨_, rfl⟩
  obtain ⟨U, hU⟩ : ∃ U, U = (V.alloc (.cells (oneL f' t).toArray 54)).drew := ⟨_, rfl⟩
  rw [← hU] at hCU h2 hVU
  rw [← hH] at h2
  rw [← hU, ← hH]
  have HCU := Lib.hid hCU
  have H2 := Lib.hid h2
  have hS : U.cell? ⟨b, 1, none⟩ = some (Value.slice pg m cg) ∧ ∀ j u, (oneL f' t)[j]? = some u → U.cell? ⟨B, j, none⟩ = some u := by
    have hx := HX.out.keep0 hVU
    have hr := HRV.out
    refine ⟨by rw [hx.c1, HVG.out], fun j u hu => ?_⟩
    rw [row_cell (show U.row? B = some (oneL f' t).toArray by rw [hVU.row (row_lt hr) (by simp)]; exact hr)]
    simpa using hu
  have HSS := Lib.hid hS
  clear hCU h2 hVU hU hH hS
  refine hK _ _ HSS.out ?_
  clear hK K HSS c1
  refine wpT_brk rfl (by rfl) (fun K hK => ?_)
  have HGW : Hid (Win U 36 (Value.slice pg m cg) m (ol f gl)) := Lib.hid (by have := (HH.out.keep0 HCU.out).g; rw [HVG.out, ← HM.out] at this; exact this)
  refine wpList_append_any rfl _ _ 50 rfl 54 i0 _ 36 152 Try.underlying50 hi0 hz0 hz1 hz2 rfl (Value.slice pg m cg) m (ol f gl) rfl HGW.out _ 1 (oneL f' t) rfl H2.out HLB.out (by have := HMb.out; have := HM.out; unfold maxLen; omega) (by have := HMb.out; have := HM.out; omega) ?_
  intro v3 W3 x1 x2 x3
  obtain ⟨p3, c3, rfl, -⟩ := x1.form
  rw [← HVG.out] at x2 x3
  have hc3 : Chg vg.ownBlock.toList w W3 := (chgE HCU.out (by simp)).trans x2
  have hr3 : W3.row? b = some #[vr, vg] := by rw [hc3.row HBW.out HBG.out]; exact HH.out.row
  have y1 : W3.cell? ⟨b, 1, none⟩ = some vg := by rw [row_cell hr3]; rfl
  have y2 := row_free hr3 1
  obtain ⟨W4, hW4⟩ : ∃ W4, W4 = W3.setCell ⟨b, 1, none⟩ (.slice p3 (m + 1) c3) := ⟨_, rfl⟩
  have hc4 : Chg (b :: vg.ownBlock.toList) w W4 := by rw [hW4]; exact (chgE hc3 (by intro x hx; simp [hx])).setCell (Or.inl (by simp)) _
  have hr4 : W4.row? b = some #[vr, .slice p3 (m + 1) c3] := by rw [hW4, row_setCell_same, hr3]; rfl
  have z0 : W4.cell? ⟨b, 0, none⟩ = some (.slice (some ⟨g, o, none⟩) (n + 1) cc) := by rw [row_cell hr4, ← HVV.out]; rfl
  have HY1 := Lib.hid x1
  have HY2 := Lib.hid x2
  have HY3 := Lib.hid x3
  have HW4 := Lib.hid hW4
  have HC4 := Lib.hid hc4
  have HR4 := Lib.hid hr4
  clear x1 x2 x3 hc3 hr3 hW4 hc4 hr4
  refine wpList_nil ?_
  refine hK _ _ ?_
  clear hK K
  refine wpT_pureD (v := ?_) (some 33) rfl rfl (by rfl) (fun w' => ?_) ?_
  rotate_left
  · (go_simp; try with_reducible rfl)
  try simp only [Act.put, List.setIfInBounds_toArray, List.set_cons_zero, List.set_cons_succ]
  refine wpT_pureD (v := ?_) (some 34) rfl rfl (by rfl) (fun w' => ?_) ?_
  rotate_left
  · (go_simp; try with_reducible rfl)
  try simp only [Act.put, List.setIfInBounds_toArray, List.set_cons_zero, List.set_cons_succ]
  refine wpT_brk rfl (by rfl) (fun K hK => ?_)
  go_wp2_with fail
  rw [← HW4.out]
  refine wpT_end ?_
  clear y1 y2
  have HTW : Hid (Win W4 36 (Value.slice tq n (cc - 1)) n (ol f rl)) := Lib.hid (HIN.out.keep HC4.out (fun x hx => by
    have := HTO.out x hx
    subst this
    simp only [List.mem_cons, not_or]
    exact ⟨HGB.out, HGG.out⟩))
  have htq := HTQ.out
  go_upto_region 5 with (fail)
  go_wp2_with (at_builtin; rw [← htq]; refine wpList_append_any rfl _ _ 50 rfl 54 i0 _ 36 152 Try.underlying50 hi0 hz0 hz1 hz2 rfl (.slice none 0 0) 0 [] rfl (win_nil _ _) _ n (ol f rl) rfl HTW.out (ol_all f rl) (by have := HNb.out; have := HNN.out; unfold maxLen; omega) (by have := HNb.out; have := HNN.out; omega) ?_)
  all_goals
    intro v5 W5 x1 x2 x3
    obtain ⟨p5, c5, rfl, -⟩ := x1.form
    have h45 : Chg [] W4 W5 := x2
    have hr5 : W5.row? b = some #[vr, .slice p3 (m + 1) c3] := by rw [h45.row (row_lt HR4.out) (by simp)]; exact HR4.out
    have y1 : W5.cell? ⟨b, 0, none⟩ = some vr := by rw [row_cell hr5]; rfl
    have y2 := row_free hr5 0
    have hE := ended (f' := f') HH.out (fun i hi => by rw [HF.out]; unfold ups; rw [if_neg (by rintro rfl; exact HN1.out hi)]) (fun i hi => by rw [HF.out]; unfold ups; rw [if_neg (by rintro rfl; exact HN2.out hi)])
      HCU.out HY2.out (by rw [← HM.out]; exact HY1.out) HY3.out (by rw [← HW4.out]; exact h45) (by rw [← HNN.out]; simpa using x1) (by rw [← HW4.out]; simpa [Value.ownBlock] using x3)
    have HE := Lib.hid hE
    clear x1 x2 x3 h45 hr5 hE htq
    go_wp2
    go_end0
    exact ⟨rfl, by simpa using HE.out⟩
end Go.Proofs.L
