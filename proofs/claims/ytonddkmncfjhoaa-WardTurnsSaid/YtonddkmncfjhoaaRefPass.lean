/- Proved here: lemmas and contracts (RefPass) for the laws of this seat, for all values of the stated types; no further condition. -/
import Derived.Test.YtonddkmncfjhoaaRefNil
import Derived.Test.YtonddkmncfjhoaaRegF
import Derived.Test.YtonddkmncfjhoaaApp
open Go Go.RowKit Go.Lib
namespace Go.Proofs.L
theorem Rw.setR {w W b rl gl f vr vg v' rl'} (h : Rw w b rl gl f vr vg) (hc : Chg vr.ownBlock.toList w W) (hw : Win W 36 v' rl'.length (ol f rl')) (ho : v'.ownBlock = vr.ownBlock ∨ ∀ x, v'.ownBlock = some x → w.heap.size ≤ x) :
    Rw (W.setCell ⟨b, 0, none⟩ v') b rl' gl f v' vg ∧ Chg (b :: vr.ownBlock.toList) w (W.setCell ⟨b, 0, none⟩ v') := by
  have hlt := h.lt
  have hbn : b ∉ vr.ownBlock.toList := fun hm => h.nr b (by simpa using hm) rfl
  have hgn : ∀ x, vg.ownBlock = some x → x ∉ vr.ownBlock.toList := fun x hx hm => h.rg x (by simpa using hm) hx
  have h2 : Chg [b] W (W.setCell ⟨b, 0, none⟩ v') := (Chg.refl _ _).setCell (Or.inl (by simp)) _
  have hvb : ∀ x, v'.ownBlock = some x → x ≠ b := fun x hx => by
    rcases ho with ho | ho
    · exact h.nr x (by rw [← ho]; exact hx)
    · have := ho x hx; omega
  have hvg : ∀ x, v'.ownBlock = some x → vg.ownBlock ≠ some x := fun x hx hy => by
    rcases ho with ho | ho
    · exact h.rg x (by rw [← ho]; exact hx) hy
    · have := ho x hx; have := h.g.lt x hy; omega
  have hr : W.row? b = some #[vr, vg] := by rw [hc.row hlt hbn]; exact h.row
  refine ⟨⟨by rw [row_setCell_same, hr]; rfl, hw.keep h2 (fun x hx => by simpa using hvb x hx), (h.g.keep hc hgn).keep h2 (fun x hx => by simpa using h.ng x hx), hvb, h.ng, hvg⟩, ?_⟩
  exact (chgE hc (fun x hx => by simp [hx])).setCell (Or.inl (by simp)) _
theorem Rw.setG {w W b rl gl f vr vg v' gl'} (h : Rw w b rl gl f vr vg) (hc : Chg vg.ownBlock.toList w W) (hw : Win W 36 v' gl'.length (ol f gl')) (ho : v'.ownBlock = vg.ownBlock ∨ ∀ x, v'.ownBlock = some x → w.heap.size ≤ x) :
    Rw (W.setCell ⟨b, 1, none⟩ v') b rl gl' f vr v' ∧ Chg (b :: vg.ownBlock.toList) w (W.setCell ⟨b, 1, none⟩ v') := by
  have hlt := h.lt
  have hbn : b ∉ vg.ownBlock.toList := fun hm => h.ng b (by simpa using hm) rfl
  have hgn : ∀ x, vr.ownBlock = some x → x ∉ vg.ownBlock.toList := fun x hx hm => h.rg x hx (by simpa using hm)
  have h2 : Chg [b] W (W.setCell ⟨b, 1, none⟩ v') := (Chg.refl _ _).setCell (Or.inl (by simp)) _
  have hvb : ∀ x, v'.ownBlock = some x → x ≠ b := fun x hx => by
    rcases ho with ho | ho
    · exact h.ng x (by rw [← ho]; exact hx)
    · have := ho x hx; omega
  have hvg : ∀ x, vr.ownBlock = some x → v'.ownBlock ≠ some x := fun x hx hy => by
    rcases ho with ho | ho
    · exact h.rg x hx (by rw [← ho]; exact hy)
    · have := ho x hy; have := h.r.lt x hx; omega
  have hr : W.row? b = some #[vr, vg] := by rw [hc.row hlt hbn]; exact h.row
  refine ⟨⟨by rw [row_setCell_same, hr]; rfl, (h.r.keep hc hgn).keep h2 (fun x hx => by simpa using h.nr x hx), hw.keep h2 (fun x hx => by simpa using hvb x hx), h.nr, hvb, hvg⟩, ?_⟩
  exact (chgE hc (fun x hx => by simp [hx])).setCell (Or.inl (by simp)) _
theorem chg_past {E F : List Nat} {w w1 w2 : World} (h1 : Chg E w w1) (h2 : Chg F w1 w2) (hF : ∀ x ∈ F, w.heap.size ≤ x) : Chg E w w2 :=
  ⟨h2.os.trans h1.os, h2.tape.trans h1.tape, h2.output.trans h1.output, Nat.le_trans h1.size h2.size, fun k hk hE => (h2.block k (Nat.lt_of_lt_of_le hk h1.size) (fun hm => by have := hF k hm; omega)).trans (h1.block k hk hE)⟩
theorem a54 : aggT Try.prog 54 36 := aggT_of (by kernel_rfl)
/-- what Pass leaves -/
def Passed (w w' : World) (b t : Nat) (rl gl : List Nat) (f : Nat → Sta) (vg : Value) : Prop := ∃ vr', Rw w' b (rl ++ [t]) gl f vr' vg ∧ (∀ x, vr'.ownBlock = some x → w.heap.size ≤ x) ∧ Chg [b] w w'
theorem ol_drop (f : Nat → Sta) (t : Nat) (rl : List Nat) : (ol f (t :: rl)).drop 36 = ol f rl := by
  unfold ol
  rw [List.flatMap_cons, List.drop_append_of_le_length (by rw [oneL_len]; omega), List.drop_eq_nil_of_le (by rw [oneL_len]; omega), List.nil_append]
theorem ol_snoc (f : Nat → Sta) (t : Nat) (rl : List Nat) : ol f rl ++ oneL f t = ol f (rl ++ [t]) := by rw [ol_append]; simp [ol]
set_option maxHeartbeats 1600000 in
theorem rpass_some {w b t rl gl f vr vg} (h : Rw w b (t :: rl) gl f vr vg) (hn : rl.length ≤ 100) : Calls Try.prog 20 #[.pointer (some ⟨b, 0, none⟩)] w fun e w' => e = .returned (.tuple #[]) ∧ Passed w w' b t rl gl f vg := by
  obtain ⟨i0, hi0, hz0, hz1, hz2⟩ := info_parts info54
  have c0 := h.c0
  obtain ⟨g, o, cc, hv, hce, -⟩ := win_el h.r 0 t rfl
  rw [hv] at c0
  have hr := h.r
  rw [hv] at hr
  have HT := hr.tail'
  rw [ol_drop] at HT
  obtain ⟨tp, htp⟩ : ∃ tp, tp = Value.slice (if cc = 1 then some ⟨g, o, none⟩ else some ⟨g, o + 36, none⟩) rl.length (cc - 1) := ⟨_, rfl⟩
  rw [← htp] at HT
  have hcc : rl.length + 1 ≤ cc := by
    rcases hr.2 with ⟨h0, -⟩ | ⟨_, _, _, he, hle, -⟩
    · cases h0
    · injection he with e1 e2 e3; simp at hle; omega
  have hgw : g < w.heap.size := hr.lt g rfl
  have hce' : ∀ j u, (oneL f t)[j]? = some u → w.cell? ⟨g, o + j, none⟩ = some u := fun j u hu => by have := hce j u hu; simpa using this
  have HW := Lib.hid h
  have HTW := Lib.hid HT
  have HTP := Lib.hid htp
  have HCE := Lib.hid hce'
  have HN := Lib.hid hn
  have HCC := Lib.hid hcc
  have HL := Lib.hid (oneL_len f t)
  have HV := Lib.hid hv
  obtain ⟨n, hnn⟩ : ∃ n, n = rl.length := ⟨_, rfl⟩
  have e1 : (t :: rl).length = n + 1 := by rw [hnn]; rfl
  rw [e1] at c0
  obtain ⟨tq, htq⟩ : ∃ tq : Option Addr, tq = (if cc = 1 then some ⟨g, o, none⟩ else some ⟨g, o + 36, none⟩) := ⟨_, rfl⟩
  have hin : ∀ W, Chg [] w W → Win W 36 (Value.slice tq n (cc - 1)) n (ol f rl) := fun W hc => by
    have := HT.keep hc (by simp)
    rw [htp, ← hnn, ← htq] at this; exact this
  have HIN := Lib.hid hin
  have htd := hin _ ((Chg.refl [] w).drew)
  have HTD := Lib.hid htd
  have HCD : Hid (Chg [] w w.drew) := Lib.hid ((Chg.refl [] w).drew)
  have hb := h.lt
  have HBG : Hid (g ≠ b) := Lib.hid (h.nr g (by rw [hv]; rfl))
  have HS : Hid (∀ W, Chg [] w W → W.cell? ⟨b, 0, none⟩ = some (.slice (some ⟨g, o, none⟩) (n + 1) cc) ∧ ∀ j u, (oneL f t)[j]? = some u → W.cell? ⟨g, o + j, none⟩ = some u) := Lib.hid fun W hc =>
    ⟨by rw [World.cell?_of_block (w := w) (hc.block b hb (by simp))]; exact c0, fun j u hu => by rw [World.cell?_of_block (w := w) (hc.block g hgw (by simp))]; exact hce' j u hu⟩
  have HF0 : Hid (∀ W, Chg [] w W → W.cell? ⟨b, 0, none⟩ = some vr ∧ W.frozen? ⟨b, 0, none⟩ = false) := Lib.hid fun W hc => ⟨(h.keep0 hc).c0, (h.keep0 hc).fr 0⟩
  have HN2 : Hid (n ≤ 100) := Lib.hid (by rw [hnn]; exact hn)
  have HNN := Lib.hid hnn
  have d0 : decide ((((n + 1 : Nat)) : Int) > 0) = true := by simp
  have d1 : decide ((0 : Int) < (((n + 1 : Nat)) : Int)) = true := by simp
  have n1 : (1 : Int) ≤ (n : Int) + 1 := by omega
  have hln := oneL_len f t
  have HTQ := Lib.hid htq
  clear h hv hr HT htp hce hce' hn hcc e1 hnn htd hb hin htq
  go_enter Try.func20, Try.ntmps20
  go_wp2_with fail
  refine wp_region_FC (fun w' => w'.cell? ⟨b, 0, none⟩ = some (.slice (some ⟨g, o, none⟩) (n + 1) cc) ∧ ∀ j u, (oneL f t)[j]? = some u → w'.cell? ⟨g, o + j, none⟩ = some u) [(0, 0), (1, 0), (2, 0), (3, 0), (4, 1), (5, 0), (7, 0), (8, 0), (9, 0), (10, 1), (11, 0), (12, 1)] (6, 2) [(13, 2), (14, 3), (15, 0), (16, 0), (17, 3)] (13, 2) [(6, 2), (14, 3), (15, 0), (16, 0), (17, 3)] rfl (by kernel_rfl) ?hSA ?hTA
  case hSA => exact ⟨c0, HCE.out⟩
  refine wpT_pureD (v := ?_) (some 8) rfl rfl (by rfl) (fun w' => ?_) ?_
  rotate_left
  · (go_simp; try with_reducible rfl)
  try simp only [Act.put, List.setIfInBounds_toArray, List.set_cons_zero, List.set_cons_succ]
  refine wpT_pureD (v := ?_) (some 9) rfl rfl (by rfl) (fun w' => ?_) ?_
  rotate_left
  · (go_simp; try with_reducible rfl)
  try simp only [Act.put, List.setIfInBounds_toArray, List.set_cons_zero, List.set_cons_succ]
  refine wpT_pureD (v := ?_) (some 10) rfl rfl (by rfl) (fun w' => ?_) ?_
  rotate_left
  · (go_simp; try with_reducible rfl)
  try simp only [Act.put, List.setIfInBounds_toArray, List.set_cons_zero, List.set_cons_succ]
  refine wpT_pureD (v := ?_) (some 11) rfl rfl (by rfl) (fun w' => ?_) ?_
  rotate_left
  · (go_simp; try with_reducible rfl)
  try simp only [Act.put, List.setIfInBounds_toArray, List.set_cons_zero, List.set_cons_succ]
  refine wpT_readD (v := ?_) (some 12) rfl rfl (by rfl) (fun w' hw => ?_) ?_
  rotate_left
  · (obtain ⟨q0, q1⟩ := hw; go_simp; try with_reducible rfl)
  try simp only [Act.put, List.setIfInBounds_toArray, List.set_cons_zero, List.set_cons_succ]
  refine wpT_pureD (v := .slice tq n (cc - 1)) (some 13) rfl rfl (by rfl) (fun w' => by have htq := HTQ.out; rw [htq]; go_simp) ?_
  try simp only [Act.put, List.setIfInBounds_toArray, List.set_cons_zero, List.set_cons_succ]
  try simp only [Act.put, List.setIfInBounds_toArray, List.set_cons_zero, List.set_cons_succ]
  refine wpT_pureD (v := ?_) (some 15) rfl rfl (by rfl) (fun w' => ?_) ?_
  rotate_left
  · (go_simp; try with_reducible rfl)
  try simp only [Act.put, List.setIfInBounds_toArray, List.set_cons_zero, List.set_cons_succ]
  refine wpT_pureD (v := ?_) (some 16) rfl rfl (by rfl) (fun w' => ?_) ?_
  rotate_left
  · (go_simp; try with_reducible rfl)
  try simp only [Act.put, List.setIfInBounds_toArray, List.set_cons_zero, List.set_cons_succ]
  refine wpT_pureD (v := ?_) (some 17) rfl rfl (by rfl) (fun w' => ?_) ?_
  rotate_left
  · (go_simp; try with_reducible rfl)
  try simp only [Act.put, List.setIfInBounds_toArray, List.set_cons_zero, List.set_cons_succ]
  refine wpT_readD (v := ?_) (some 18) rfl rfl (by rfl) (fun w' hw => ?_) ?_
  rotate_left
  · (obtain ⟨q0, q1⟩ := hw; go_simp; try with_reducible rfl)
  try simp only [Act.put, List.setIfInBounds_toArray, List.set_cons_zero, List.set_cons_succ]
  refine wpT_pureD (v := ?_) (some 19) rfl rfl (by rfl) (fun w' => ?_) ?_
  rotate_left
  · (go_simp; try with_reducible rfl)
  try simp only [Act.put, List.setIfInBounds_toArray, List.set_cons_zero, List.set_cons_succ]
  refine wpT_load_part a54 (oneL f t) (some 20) _ rfl rfl rfl (by rfl) rfl hln (fun w' hw j u hu => hw.2 j u hu) ?_
  try simp only [Act.put, List.setIfInBounds_toArray, List.set_cons_zero, List.set_cons_succ]
  try simp only [Act.put, List.setIfInBounds_toArray, List.set_cons_zero, List.set_cons_succ]
  refine wpT_fork ?hAA ?hBA
  case hAA =>
    refine wpT_eff rfl (by rfl) (fun K hK => ?_)
    refine wpList_append_any rfl _ _ 50 rfl 54 i0 _ 36 152 Try.underlying50 hi0 hz0 hz1 hz2 rfl (.slice none 0 0) 0 [] rfl (win_nil _ _) _ n (ol f rl) rfl HTD.out (ol_all f rl) (by have := HN2.out; unfold maxLen; omega) (by have := HN2.out; omega) ?_
    intro v1 W1 x1 x2 x3
    have HC1 : Hid (Chg [] w W1) := Lib.hid (HCD.out.trans x2)
    have HO1 : Hid (∀ x, v1.ownBlock = some x → w.heap.size ≤ x) := Lib.hid fun x hx => by
      rcases x3 with x3 | x3
      · rw [x3] at hx; simp [Value.ownBlock] at hx
      · rw [x3] at hx; simp at hx; omega
    have HX1 := Lib.hid x1
    clear x1 x2 x3
    refine wpList_nil ?_
    refine hK _ _ (HS.out _ HC1.out) ?_
    clear hK K
    refine wpT_eff rfl (by rfl) (fun K hK => ?_)
    go_wp2_with fail
    rw [fold_zip _ _ (by rw [hln]; rfl)]
    refine hK _ _ (HS.out _ (HC1.out.alloc _)) ?_
    clear hK K
    have HU : Hid (Chg [] w (W1.alloc (.cells (oneL f t).toArray 54))) := Lib.hid (HC1.out.alloc _)
    have H1 : Hid (Win (W1.alloc (.cells (oneL f t).toArray 54)) 36 v1 (0 + n) ([] ++ ol f rl)) := Lib.hid (HX1.out.keep ((Chg.refl [] W1).alloc _) (by simp))
    have H2 := Lib.hid (win_one (w := W1) (oneL f t) 54 hln)
    obtain ⟨H, hH⟩ : ∃ H, H = W1.heap.size := ⟨_, rfl⟩
    rw [← hH] at H2
    rw [← hH]
    obtain ⟨U, hU⟩ : ∃ U, U = W1.alloc (.cells (oneL f t).toArray 54) := ⟨_, rfl⟩
    rw [← hU] at HU H1 H2
    rw [← hU]
    clear hU hH HX1 HC1
    refine wpT_brk rfl (by rfl) (fun K hK => ?_)
    refine wpList_append_any rfl _ _ 50 rfl 54 i0 _ 36 152 Try.underlying50 hi0 hz0 hz1 hz2 rfl v1 (0 + n) ([] ++ ol f rl) rfl H1.out _ 1 (oneL f t) rfl H2.out (oneL_all f t) (by have := HN2.out; unfold maxLen; omega) (by have := HN2.out; omega) ?_
    intro v2 W3 x1 x2 x3
    obtain ⟨p', cap', rfl, -⟩ := x1.form
    rw [Nat.zero_add, List.nil_append] at x1
    simp only [Nat.zero_add] at x3 ⊢
    have hc3 : Chg [] w W3 := chg_past HU.out x2 (fun x hx => HO1.out x (by simpa using hx))
    obtain ⟨y1, y2⟩ := HF0.out W3 hc3
    have hfin : Rw (W3.setCell ⟨b, 0, none⟩ (.slice p' (n + 1) cap')) b (rl ++ [t]) gl f (.slice p' (n + 1) cap') vg ∧ Chg (b :: vr.ownBlock.toList) w (W3.setCell ⟨b, 0, none⟩ (.slice p' (n + 1) cap')) := HW.out.setR (rl' := rl ++ [t]) (chgE hc3 (by simp)) (by
      rw [← ol_snoc, show (rl ++ [t]).length = n + 1 by rw [HNN.out]; simp]; exact x1) (.inr fun x hx => by
        rcases x3 with x3 | x3
        · exact HO1.out x (by rw [← x3]; exact hx)
        · rw [x3] at hx; simp at hx; have := HU.out.size; omega)
    have HFIN : Hid (Passed w (W3.setCell ⟨b, 0, none⟩ (.slice p' (n + 1) cap')) b t rl gl f vg) := Lib.hid ⟨_, hfin.1, fun x hx => by
        rcases x3 with x3 | x3
        · exact HO1.out x (by rw [← x3]; exact hx)
        · rw [x3] at hx; simp at hx; have := HU.out.size; omega, (chgE hc3 (by simp)).setCell (Or.inl (by simp)) _⟩
    clear x1 x2 x3 hc3 hfin
    refine wpList_nil ?_
    refine hK _ _ ?_
    clear hK K
    refine wpT_pureD (v := ?_) (some 23) rfl rfl (by rfl) (fun w' => ?_) ?_
    rotate_left
    · (go_simp; try with_reducible rfl)
    try simp only [Act.put, List.setIfInBounds_toArray, List.set_cons_zero, List.set_cons_succ]
    refine wpT_pureD (v := ?_) (some 24) rfl rfl (by rfl) (fun w' => ?_) ?_
    rotate_left
    · (go_simp; try with_reducible rfl)
    try simp only [Act.put, List.setIfInBounds_toArray, List.set_cons_zero, List.set_cons_succ]
    refine wpT_brk rfl (by rfl) (fun K hK => ?_)
    go_wp2_with fail
    refine wpT_end ?_
    go_wp2
    go_end0
    exact ⟨rfl, HFIN.out⟩
  case hBA =>
    refine wpT_eff rfl (by rfl) (fun K hK => ?_)
    go_wp2_with fail
    rw [fold_zip _ _ (by rw [hln]; rfl)]
    have HC1 : Hid (Chg [] w (w.alloc (.cells (oneL f t).toArray 54)).drew) := Lib.hid (((Chg.refl [] w).alloc _).drew)
    have h2 := (win_one (w := w) (oneL f t) 54 hln).keep ((Chg.refl [] _).drew) (by simp)
    obtain ⟨W1, hW1⟩ : ∃ W1, W1 = (w.alloc (.cells (oneL f t).toArray 54)).drew := ⟨_, rfl⟩
    rw [← hW1] at HC1 h2
    rw [← hW1]
    have H0 := Lib.hid h2
    have HSZ : Hid (W1.heap.size = w.heap.size + 1) := Lib.hid (by rw [hW1]; simp)
    clear h2 hW1
    obtain ⟨H, hH⟩ : ∃ H, H = w.heap.size := ⟨_, rfl⟩
    rw [← hH] at H0
    rw [← hH]
    have HH := Lib.hid hH
    clear hH
    refine hK _ _ (HS.out _ HC1.out) ?_
    clear hK K
    refine wpT_eff rfl (by rfl) (fun K hK => ?_)
    refine wpList_append_any rfl _ _ 50 rfl 54 i0 _ 36 152 Try.underlying50 hi0 hz0 hz1 hz2 rfl (.slice none 0 0) 0 [] rfl (win_nil _ _) _ n (ol f rl) rfl (HIN.out _ HC1.out) (ol_all f rl) (by have := HN2.out; unfold maxLen; omega) (by have := HN2.out; omega) ?_
    intro v1 U x1 x2 x3
    have HU : Hid (Chg [] w U) := Lib.hid (HC1.out.trans x2)
    have HO1 : Hid (∀ x, v1.ownBlock = some x → w.heap.size ≤ x) := Lib.hid fun x hx => by
      rcases x3 with x3 | x3
      · rw [x3] at hx; simp [Value.ownBlock] at hx
      · rw [x3] at hx; simp at hx; have := HSZ.out; omega
    have H1 := Lib.hid x1
    have H2 := Lib.hid (H0.out.keep x2 (by simp [Value.ownBlock]))
    clear x1 x2 x3
    refine wpList_nil ?_
    refine hK _ _ (HS.out _ HU.out) ?_
    clear hK K
    refine wpT_brk rfl (by rfl) (fun K hK => ?_)
    refine wpList_append_any rfl _ _ 50 rfl 54 i0 _ 36 152 Try.underlying50 hi0 hz0 hz1 hz2 rfl v1 (0 + n) ([] ++ ol f rl) rfl H1.out _ 1 (oneL f t) rfl H2.out (oneL_all f t) (by have := HN2.out; unfold maxLen; omega) (by have := HN2.out; omega) ?_
    intro v2 W3 x1 x2 x3
    obtain ⟨p', cap', rfl, -⟩ := x1.form
    rw [Nat.zero_add, List.nil_append] at x1
    simp only [Nat.zero_add] at x3 ⊢
    have hc3 : Chg [] w W3 := chg_past HU.out x2 (fun x hx => HO1.out x (by simpa using hx))
    obtain ⟨y1, y2⟩ := HF0.out W3 hc3
    have hfin : Rw (W3.setCell ⟨b, 0, none⟩ (.slice p' (n + 1) cap')) b (rl ++ [t]) gl f (.slice p' (n + 1) cap') vg ∧ Chg (b :: vr.ownBlock.toList) w (W3.setCell ⟨b, 0, none⟩ (.slice p' (n + 1) cap')) := HW.out.setR (rl' := rl ++ [t]) (chgE hc3 (by simp)) (by
      rw [← ol_snoc, show (rl ++ [t]).length = n + 1 by rw [HNN.out]; simp]; exact x1) (.inr fun x hx => by
        rcases x3 with x3 | x3
        · exact HO1.out x (by rw [← x3]; exact hx)
        · rw [x3] at hx; simp at hx; have := HU.out.size; omega)
    have HFIN : Hid (Passed w (W3.setCell ⟨b, 0, none⟩ (.slice p' (n + 1) cap')) b t rl gl f vg) := Lib.hid ⟨_, hfin.1, fun x hx => by
        rcases x3 with x3 | x3
        · exact HO1.out x (by rw [← x3]; exact hx)
        · rw [x3] at hx; simp at hx; have := HU.out.size; omega, (chgE hc3 (by simp)).setCell (Or.inl (by simp)) _⟩
    clear x1 x2 x3 hc3 hfin
    refine wpList_nil ?_
    refine hK _ _ ?_
    clear hK K
    refine wpT_pureD (v := ?_) (some 23) rfl rfl (by rfl) (fun w' => ?_) ?_
    rotate_left
    · (go_simp; try with_reducible rfl)
    try simp only [Act.put, List.setIfInBounds_toArray, List.set_cons_zero, List.set_cons_succ]
    refine wpT_pureD (v := ?_) (some 24) rfl rfl (by rfl) (fun w' => ?_) ?_
    rotate_left
    · (go_simp; try with_reducible rfl)
    try simp only [Act.put, List.setIfInBounds_toArray, List.set_cons_zero, List.set_cons_succ]
    refine wpT_brk rfl (by rfl) (fun K hK => ?_)
    go_wp2_with fail
    refine wpT_end ?_
    go_wp2
    go_end0
    exact ⟨rfl, HFIN.out⟩
end Go.Proofs.L
