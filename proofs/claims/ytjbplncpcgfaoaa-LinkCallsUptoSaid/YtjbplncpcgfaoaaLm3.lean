/- Proved here: lemmas and contracts (Lm3) for the laws of this seat, for all values of the stated types; no further condition. -/
import Derived.Test.YtjbplncpcgfaoaaLm2
open Go Go.RowKit Go.Lib
namespace Go.Proofs.L.M
attribute [local irreducible] wpT
theorem load4_bad (a : Nat) (ha : a < 4294967296) (h : inRam a 4 = false) (p : Addr) (w : World) : Calls Try.prog 16 #[.pointer (some p), .int .u32 (a : Int), .int .i64 4] w fun e w' => e = .returned (.tuple #[.int .u32 0, .int .i64 18]) ∧ w' = w := by
  have HS := Lib.hid (has_any a 4 ha (by decide) p)
  rw [h] at HS
  clear h
  go_enter Try.func16, Try.ntmps16
  go_wp2_with fail
  refine (HS.out w).mono ?_
  rintro e w' ⟨rfl, rfl⟩
  go_wp2
  go_ret2
  exact ⟨rfl, rfl⟩
theorem store4_bad (a x : Nat) (ha : a < 4294967296) (h : inRam a 4 = false) (p : Addr) (w : World) : Calls Try.prog 58 #[.pointer (some p), .int .u32 (a : Int), .int .i64 4, .int .u32 (x : Int)] w fun e w' => e = .returned (.int .i64 18) ∧ w' = w := by
  have HS := Lib.hid (has_any a 4 ha (by decide) p)
  rw [h] at HS
  clear h
  go_enter Try.func58, Try.ntmps58
  go_wp2_with fail
  refine (HS.out w).mono ?_
  rintro e w' ⟨rfl, rfl⟩
  go_wp2
  go_ret
  exact ⟨rfl, rfl⟩
def rb : Nat := 2147483648
theorem ram_split {a : Nat} (h : inRam a 4 = true) : a = (a - rb) + 2147483648 ∧ (a - rb) + 4 ≤ 65536 := by
  unfold inRam at h
  have := of_decide_eq_true h
  unfold rb
  omega
def ldN (f : Nat → Nat) (a : Nat) : Nat × Nat := if inRam a 4 then (leN f (a - rb) 4, 0) else (0, 18)
def sdN (f : Nat → Nat) (a x : Nat) : (Nat → Nat) × Nat := if inRam a 4 then (stN f (a - rb) x 4, 0) else (f, 18)
theorem load4_any (f : Nat → Nat) (hf : ∀ i, f i < 256) (a b : Nat) (ha : a < 4294967296) (w : World) (hw : w.row? b = some (mem f)) : Calls Try.prog 16 #[.pointer (some ⟨b, 0, none⟩), .int .u32 (a : Int), .int .i64 4] w fun e w' => e = .returned (.tuple #[.int .u32 ((ldN f a).1 : Int), .int .i64 ((ldN f a).2 : Int)]) ∧ Chg [] w w' := by
  unfold ldN
  cases h : inRam a 4
  · exact (load4_bad a ha h _ w).mono fun e w' ⟨h1, h2⟩ => ⟨h1, by rw [h2]; exact Chg.refl _ _⟩
  · obtain ⟨h1, h2⟩ := ram_split h
    exact (load_ok f hf a (a - rb) 4 b h1 (.inr (.inr rfl)) h2 w hw).mono fun e w' q => ⟨q.1, by rw [q.2]; exact Chg.refl _ _⟩
theorem store4_any (f : Nat → Nat) (a b x : Nat) (ha : a < 4294967296) (hx : x < 4294967296) (w : World) (hw : w.row? b = some (mem f)) : Calls Try.prog 58 #[.pointer (some ⟨b, 0, none⟩), .int .u32 (a : Int), .int .i64 4, .int .u32 (x : Int)] w fun e w' => e = .returned (.int .i64 ((sdN f a x).2 : Int)) ∧ w'.row? b = some (mem (sdN f a x).1) ∧ Chg [b] w w' := by
  unfold sdN
  cases h : inRam a 4
  · exact (store4_bad a x ha h _ w).mono fun e w' ⟨h1, h2⟩ => ⟨h1, by rw [h2]; exact ⟨hw, Chg.refl _ _⟩⟩
  · obtain ⟨h1, h2⟩ := ram_split h
    exact (store_ok f a (a - rb) 4 b x h1 (.inr (.inr rfl)) h2 hx w hw).mono fun e w' q => q
end Go.Proofs.L.M
open Go Go.RowKit Go.Lib
namespace Go.Proofs.L.M
attribute [local irreducible] wpT
def finN (f : Nat → Nat) (p x : Nat) : Nat × (Nat → Nat) := ((sdN f p x).2, (sdN f p x).1)
def tailN (_bias : Nat) (_Rs : List Rl) (_Ys : List Nat) (f : Nat → Nat) (p : Nat) (_ty : Int) (val _w _add : Nat) : Nat × (Nat → Nat) := finN f p val
def oneN (bias : Nat) (Rs : List Rl) (Ys : List Nat) (Ss : List Sp) (f : Nat → Nat) (r : Rl) : Nat × (Nat → Nat) :=
  if sizeN r.ty = 0 ∨ withinN Ss ((bias + r.at_) % 4294967296) (sizeN r.ty) = false then (13, f)
  else if (r.ty ≠ 1 ∧ r.ty ≠ 3 ∧ (bias + r.at_) % 4294967296 % 4 ≠ 0) ∨ (r.ty = 3 ∧ r.sy ≠ 0) then (13, f)
  else if (ldN f ((bias + r.at_) % 4294967296)).2 ≠ 0 then ((ldN f ((bias + r.at_) % 4294967296)).2, f)
  else tailN bias Rs Ys f ((bias + r.at_) % 4294967296) r.ty ((symN Ys bias r.sy + r.add) % 4294967296) (ldN f ((bias + r.at_) % 4294967296)).1 r.add
def OneQ (w : World) (mb : Nat) (R : Nat × (Nat → Nat)) (e : Ending) (w' : World) : Prop := e = .returned (.int .i64 (R.1 : Int)) ∧ w'.row? mb = some (mem R.2) ∧ Chg [mb] w w'
structure OneH (w : World) (J mb : Nat) (v : Jv) (Rs : List Rl) (Ys : List Nat) (Ss : List Sp) (f : Nat → Nat) : Prop where
  job : JobOk w J v Rs Ys Ss
  hm : v.m = .iface 60 (.pointer (some ⟨mb, 0, none⟩))
  row : w.row? mb = some (mem f)
  hf : ∀ i, f i < 256
  jm : J ≠ mb
  rm : v.brl ≠ mb
  ym : v.bsy ≠ mb
  sm : v.bsp ≠ mb
  ns : v.nsp < 1000000
  nr : v.nrl < 1000000
theorem OneH.keep {w w' : World} {J mb : Nat} {v : Jv} {Rs : List Rl} {Ys : List Nat} {Ss : List Sp} {f : Nat → Nat} (h : OneH w J mb v Rs Ys Ss f) (hc : Chg [] w w') : OneH w' J mb v Rs Ys Ss f :=
  ⟨h.job.keep hc (by simp) (by simp) (by simp) (by simp), h.hm, by rw [hc.row (row_lt h.row) (by simp)]; exact h.row, h.hf, h.jm, h.rm, h.ym, h.sm, h.ns, h.nr⟩
theorem mLoad (recv : Value) (w : World) : Sem.run Try.prog (method 101 60 recv "Load") w = .ok (16, recv) w := by kernel_rfl
theorem mStore (recv : Value) (w : World) : Sem.run Try.prog (method 101 60 recv "Store") w = .ok (58, recv) w := by kernel_rfl
theorem chg_any {E : List Nat} {w w' : World} (h : Chg [] w w') : Chg E w w' := ⟨h.os, h.tape, h.output, h.size, fun k hk _ => h.block k hk (by simp)⟩
theorem ldN_lt (f : Nat → Nat) (hf : ∀ i, f i < 256) (a : Nat) : (ldN f a).1 < 4294967296 := by
  unfold ldN
  split
  · exact leN_lt f hf (a - rb) 4
  · decide
theorem ldN_err (f : Nat → Nat) (a : Nat) : (ldN f a).2 = 0 ∨ (ldN f a).2 = 18 := by
  unfold ldN
  split
  · exact .inl rfl
  · exact .inr rfl
theorem sdN_lt (f : Nat → Nat) (hf : ∀ i, f i < 256) (a x : Nat) : ∀ i, (sdN f a x).1 i < 256 := by
  intro i
  unfold sdN
  split
  · exact stN_lt f hf _ _ _ i
  · exact hf i
theorem OneH.store {w w' : World} {J mb : Nat} {v : Jv} {Rs : List Rl} {Ys : List Nat} {Ss : List Sp} {f f2 : Nat → Nat} (h : OneH w J mb v Rs Ys Ss f) (hc : Chg [mb] w w') (hr : w'.row? mb = some (mem f2)) (hf : ∀ i, f2 i < 256) : OneH w' J mb v Rs Ys Ss f2 :=
  ⟨h.job.keep hc (by simpa using h.jm) (by simpa using h.rm) (by simpa using h.ym) (by simpa using h.sm), h.hm, hr, hf, h.jm, h.rm, h.ym, h.sm, h.ns, h.nr⟩
theorem JobOk.c4 {w : World} {J : Nat} {v : Jv} {Rs : List Rl} {Ys : List Nat} {Ss : List Sp} (h : JobOk w J v Rs Ys Ss) : w.cell? ⟨J, 4, none⟩ = some (.int .u32 (v.bias : Int)) := by rw [row_cell h.row]; rfl
theorem OneH.c6 {w : World} {J mb : Nat} {v : Jv} {Rs : List Rl} {Ys : List Nat} {Ss : List Sp} {f : Nat → Nat} (h : OneH w J mb v Rs Ys Ss f) : w.cell? ⟨J, 6, none⟩ = some (.iface 60 (.pointer (some ⟨mb, 0, none⟩))) := by rw [row_cell h.job.row, ← h.hm]; rfl
end Go.Proofs.L.M
open Go Go.RowKit Go.Lib
namespace Go.Proofs.L.M
attribute [local irreducible] wpT
set_option maxRecDepth 100000 in
set_option maxHeartbeats 16000000 in
theorem one_1 {w : World} {J mb : Nat} {v : Jv} {Rs : List Rl} {Ys : List Nat} {Ss : List Sp} {f : Nat → Nat} {ra add : Nat} {sy : Int} (hH : OneH w J mb v Rs Ys Ss f) (hra : ra < 4294967296) (hadd : add < 4294967296) :
    Calls Try.prog 27 #[.pointer (some ⟨J, 0, none⟩), .agg (RlC ⟨ra, 1, sy, add⟩).toArray] w (OneQ w mb (oneN v.bias Rs Ys Ss f ⟨ra, 1, sy, add⟩)) := by
  obtain ⟨X, hX⟩ : ∃ X, X = w.alloc (.cells (RlC ⟨ra, 1, sy, add⟩).toArray 44) := ⟨_, rfl⟩
  obtain ⟨B, hB⟩ : ∃ B, B = w.heap.size := ⟨_, rfl⟩
  have hrX : X.row? B = some (RlC ⟨ra, 1, sy, add⟩).toArray := by rw [hX, hB]; exact row_alloc_at _ _ _ _ rfl
  have hcX : Chg [] w X := by rw [hX]; exact (Chg.refl _ _).alloc _
  have HH : Hid (∀ W, Chg [] X W → OneH W J mb v Rs Ys Ss f) := Lib.hid fun W hW => (hH.keep hcX).keep hW
  have HR : Hid (∀ W, Chg [] X W → W.row? B = some (RlC ⟨ra, 1, sy, add⟩).toArray) := Lib.hid fun W hW => by rw [hW.row (row_lt hrX) (by simp)]; exact hrX
  have HQ : Hid (∀ W, Chg [] X W → W.cell? ⟨B, 0, none⟩ = some (.int .u32 (ra : Int)) ∧ W.cell? ⟨B, 1, none⟩ = some (.int .i64 1) ∧ W.cell? ⟨B, 2, none⟩ = some (.int .i64 sy) ∧ W.cell? ⟨B, 3, none⟩ = some (.int .u32 (add : Int))) := Lib.hid fun W hW => ⟨by rw [row_cell (HR.out W hW)]; rfl, by rw [row_cell (HR.out W hW)]; rfl, by rw [row_cell (HR.out W hW)]; rfl, by rw [row_cell (HR.out W hW)]; rfl⟩
  have HCX := Lib.hid hcX
  have HX := Lib.hid hX
  have HB := Lib.hid hB
  obtain ⟨p, hp⟩ : ∃ p, p = (v.bias + ra) % 4294967296 := ⟨_, rfl⟩
  have HPL : Hid (p < 4294967296) := Lib.hid (by omega)
  have wp := addw_wrap hp
  have HF := Lib.hid hH.hf
  have HV : Hid (oneN v.bias Rs Ys Ss f ⟨ra, 1, sy, add⟩ = if sizeN 1 = 0 ∨ withinN Ss p (sizeN 1) = false then (13, f) else if ((1 : Int) ≠ 1 ∧ (1 : Int) ≠ 3 ∧ p % 4 ≠ 0) ∨ ((1 : Int) = 3 ∧ sy ≠ 0) then (13, f) else if (ldN f p).2 ≠ 0 then ((ldN f p).2, f) else tailN v.bias Rs Ys f p 1 ((symN Ys v.bias sy + add) % 4294967296) (ldN f p).1 add) := Lib.hid (by rw [hp]; rfl)
  have HADD := Lib.hid hadd
  clear hX hB hrX hcX hH hp hadd hra
  go_enter Try.func27, Try.ntmps27
  go_upto_region 1 with (fail)
  rw [← HX.out, ← HB.out]
  clear HX HB
  refine wp_region_C (fun w' => w'.cell? ⟨J, 4, none⟩ = some (.int .u32 (v.bias : Int)) ∧ w'.cell? ⟨B, 0, none⟩ = some (.int .u32 (ra : Int))) [(0, 0), (1, 0), (2, 0), (3, 1), (4, 0), (5, 1), (6, 0), (7, 0)] rfl (by kernel_rfl) ?hSA ?hTA
  case hSA => exact ⟨(HH.out X (Chg.refl _ _)).job.c4, (HQ.out X (Chg.refl _ _)).1⟩
  refine wpT_pureD (v := ?_) (some 15) rfl rfl (by rfl) (fun w' => ?_) ?_
  rotate_left
  · (go_simp; try with_reducible rfl)
  try simp only [Act.put, List.setIfInBounds_toArray, List.set_cons_zero, List.set_cons_succ]
  refine wpT_pureD (v := ?_) (some 16) rfl rfl (by rfl) (fun w' => ?_) ?_
  rotate_left
  · (go_simp; try with_reducible rfl)
  try simp only [Act.put, List.setIfInBounds_toArray, List.set_cons_zero, List.set_cons_succ]
  refine wpT_pureD (v := ?_) (some 17) rfl rfl (by rfl) (fun w' => ?_) ?_
  rotate_left
  · (go_simp; try with_reducible rfl)
  try simp only [Act.put, List.setIfInBounds_toArray, List.set_cons_zero, List.set_cons_succ]
  refine wpT_readD (v := ?_) (some 18) rfl rfl (by rfl) (fun w' hw => ?_) ?_
  rotate_left
  · (obtain ⟨q0, q1⟩ := hw; go_simp; try with_reducible rfl)
  try simp only [Act.put, List.setIfInBounds_toArray, List.set_cons_zero, List.set_cons_succ]
  refine wpT_pureD (v := ?_) (some 19) rfl rfl (by rfl) (fun w' => ?_) ?_
  rotate_left
  · (go_simp; try with_reducible rfl)
  try simp only [Act.put, List.setIfInBounds_toArray, List.set_cons_zero, List.set_cons_succ]
  refine wpT_readD (v := ?_) (some 20) rfl rfl (by rfl) (fun w' hw => ?_) ?_
  rotate_left
  · (obtain ⟨q0, q1⟩ := hw; go_simp; try with_reducible rfl)
  try simp only [Act.put, List.setIfInBounds_toArray, List.set_cons_zero, List.set_cons_succ]
  refine wpT_pureD (v := ?_) (some 21) rfl rfl (by rfl) (fun w' => ?_) ?_
  rotate_left
  · (go_simp; try with_reducible rfl)
  try simp only [Act.put, List.setIfInBounds_toArray, List.set_cons_zero, List.set_cons_succ]
  refine wpT_pureD (v := ?_) (some 5) rfl rfl (by rfl) (fun w' => ?_) ?_
  rotate_left
  · (go_simp; try with_reducible rfl)
  try simp only [Act.put, List.setIfInBounds_toArray, List.set_cons_zero, List.set_cons_succ]
  refine wpT_end ?_
  clear wp
  obtain ⟨Y, hY⟩ : ∃ Y, Y = X.drew := ⟨_, rfl⟩
  have HY : Hid (Chg [] X Y) := Lib.hid (by rw [hY]; exact (Chg.refl _ _).drew)
  rw [← hY]
  clear hY
  have c1 : Y.cell? ⟨B, 1, none⟩ = some (.int .i64 1) := (HQ.out Y HY.out).2.1
  go_wp2_with fail
  refine (size_any 1 Y).mono ?_
  rintro e w' ⟨rfl, hw⟩
  obtain rfl := hw.symm
  rw [show ((sizeN 1 : Nat) : Int) = 4 from rfl]
  go_wp2_with fail
  refine (jwithin_any (HH.out Y HY.out).job p 4 HPL.out (by decide) (HH.out Y HY.out).ns).mono ?_
  rintro e w1 ⟨rfl, hc1⟩
  have HC1 := Lib.hid (HY.out.trans hc1)
  clear hc1 c1
  obtain ⟨b, hb⟩ : ∃ b, b = withinN Ss p 4 := ⟨_, rfl⟩
  have HB0 := Lib.hid hb
  rw [← hb]
  clear hb
  have c1 := (HQ.out w1 HC1.out).2.1
  have c2 := (HQ.out w1 HC1.out).2.2.1
  cases b
  · have HW : Hid (oneN v.bias Rs Ys Ss f ⟨ra, 1, sy, add⟩ = (13, f)) := Lib.hid (by rw [HV.out, if_pos (.inr HB0.out.symm)])
    go_wp2
    go_ret
    exact ⟨by rw [HW.out]; rfl, by rw [HW.out]; exact (HH.out w1 HC1.out).row, chg_any (HCX.out.trans HC1.out)⟩
  · have HW : Hid (oneN v.bias Rs Ys Ss f ⟨ra, 1, sy, add⟩ = if (ldN f p).2 ≠ 0 then ((ldN f p).2, f) else tailN v.bias Rs Ys f p 1 ((symN Ys v.bias sy + add) % 4294967296) (ldN f p).1 add) := Lib.hid (by rw [HV.out, if_neg (by rw [show sizeN 1 = 4 from rfl, ← HB0.out]; decide), if_neg (by rintro (⟨h, _⟩ | ⟨h, _⟩); exact h rfl; exact absurd h (by decide))])
    go_upto_region 6 with (fail)
    clear c1 c2

    obtain ⟨y1, hy1⟩ : ∃ y, y = symN Ys v.bias sy := ⟨_, rfl⟩
    obtain ⟨val, hval⟩ : ∃ z, z = (y1 + add) % 4294967296 := ⟨_, rfl⟩
    have u1 := addw_wrap hval
    have HVL : Hid (val < 4294967296) := Lib.hid (by omega)
    have HY1 := Lib.hid hy1
    rw [← hy1, ← hval] at HW
    clear hy1 hval
    refine wp_region_C (fun w' => Chg [] X w' ∧ w'.cell? ⟨B, 2, none⟩ = some (.int .i64 sy) ∧ w'.cell? ⟨B, 3, none⟩ = some (.int .u32 (add : Int))) [(0, 0), (1, 0), (2, 1), (4, 0), (5, 1), (3, 2), (6, 0), (7, 0)] rfl (by kernel_rfl) ?hSB ?hTB
    case hSB => exact ⟨HC1.out.drew, (HQ.out w1 HC1.out).2.2⟩
    refine wpT_pureD (v := ?_) (some 60) rfl rfl (by rfl) (fun w' => ?_) ?_
    rotate_left
    · (go_simp; try with_reducible rfl)
    try simp only [Act.put, List.setIfInBounds_toArray, List.set_cons_zero, List.set_cons_succ]
    refine wpT_pureD (v := ?_) (some 61) rfl rfl (by rfl) (fun w' => ?_) ?_
    rotate_left
    · (go_simp; try with_reducible rfl)
    try simp only [Act.put, List.setIfInBounds_toArray, List.set_cons_zero, List.set_cons_succ]
    refine wpT_readD (v := ?_) (some 62) rfl rfl (by rfl) (fun w' hw => ?_) ?_
    rotate_left
    · (obtain ⟨q0, q1, q2⟩ := hw; go_simp; try with_reducible rfl)
    try simp only [Act.put, List.setIfInBounds_toArray, List.set_cons_zero, List.set_cons_succ]
    refine wpT_pureD (v := ?_) (some 64) rfl rfl (by rfl) (fun w' => ?_) ?_
    rotate_left
    · (go_simp; try with_reducible rfl)
    try simp only [Act.put, List.setIfInBounds_toArray, List.set_cons_zero, List.set_cons_succ]
    refine wpT_readD (v := ?_) (some 65) rfl rfl (by rfl) (fun w' hw => ?_) ?_
    rotate_left
    · (obtain ⟨q0, q1, q2⟩ := hw; go_simp; try with_reducible rfl)
    try simp only [Act.put, List.setIfInBounds_toArray, List.set_cons_zero, List.set_cons_succ]
    refine wpT_eff rfl (by rfl) (fun K hK => ?_)
    go_wp2_with fail
    refine (jsymbol_any (HH.out _ (HC1.out.drew)).job sy).mono ?_
    rintro e w3 ⟨rfl, hc3⟩
    rw [← HY1.out]
    go_wp2_with fail
    refine hK _ _ ⟨HC1.out.drew.trans hc3, (HQ.out w3 (HC1.out.drew.trans hc3)).2.2⟩ ?_
    clear hK K
    refine wpT_pureD (v := ?_) (some 66) rfl rfl (by rfl) (fun w' => ?_) ?_
    rotate_left
    · (go_simp; try with_reducible rfl)
    try simp only [Act.put, List.setIfInBounds_toArray, List.set_cons_zero, List.set_cons_succ]
    refine wpT_pureD (v := ?_) (some 8) rfl rfl (by rfl) (fun w' => ?_) ?_
    rotate_left
    · (go_simp; try with_reducible rfl)
    try simp only [Act.put, List.setIfInBounds_toArray, List.set_cons_zero, List.set_cons_succ]
    refine wpT_end ?_
    clear u1
    have HC3 := Lib.hid (HC1.out.drew.trans hc3)
    clear hc3
    have c6 := (HH.out _ HC3.out).c6
    have mL : ∀ w, Sem.run Try.prog (method 101 60 (.pointer (some ⟨mb, 0, none⟩)) "Load") w = .ok (16, .pointer (some ⟨mb, 0, none⟩)) w := fun w => mLoad _ w
    go_wp2_with fail
    clear mL c6
    refine (load4_any f HF.out p mb HPL.out w3 (HH.out _ HC3.out).row).mono ?_
    rintro e w4 ⟨rfl, hc4⟩
    have HC4 := Lib.hid (HC3.out.trans hc4)
    clear hc4
    have hlt := ldN_lt f HF.out p
    have herr := ldN_err f p
    obtain ⟨⟨wd, er⟩, hld⟩ : ∃ q, q = ldN f p := ⟨_, rfl⟩
    rw [← hld] at HW hlt herr ⊢
    simp only [] at HW hlt herr ⊢
    have HWL := Lib.hid hlt
    have HLD := Lib.hid hld
    clear hlt hld
    rcases herr with rfl | rfl
    · have HW2 : Hid (oneN v.bias Rs Ys Ss f ⟨ra, 1, sy, add⟩ = tailN v.bias Rs Ys f p 1 val wd add) := Lib.hid (by rw [HW.out, if_neg (by simp)])
      have c1 := (HQ.out w4 HC4.out).2.1
      have HW3 : Hid (oneN v.bias Rs Ys Ss f ⟨ra, 1, sy, add⟩ = finN f p val) := Lib.hid (by rw [HW2.out]; rfl)
      have c6 := (HH.out _ HC4.out).c6
      have mS : ∀ w, Sem.run Try.prog (method 101 60 (.pointer (some ⟨mb, 0, none⟩)) "Store") w = .ok (58, .pointer (some ⟨mb, 0, none⟩)) w := fun w => mStore _ w
      go_wp2_with fail
      clear mS c6
      refine (store4_any f p mb val HPL.out HVL.out w4 (HH.out _ HC4.out).row).mono ?_
      rintro e w9 ⟨rfl, hr9, hc9⟩
      have HR9 := Lib.hid hr9
      have HC9 := Lib.hid hc9
      clear hr9 hc9
      go_wp2
      go_ret
      exact ⟨by rw [HW3.out]; rfl, by rw [HW3.out]; exact HR9.out, (chg_any (HCX.out.trans HC4.out)).trans HC9.out⟩
    · have HW2 : Hid (oneN v.bias Rs Ys Ss f ⟨ra, 1, sy, add⟩ = (18, f)) := Lib.hid (by rw [HW.out, if_pos (by decide)])
      go_wp2
      go_ret
      exact ⟨by rw [HW2.out]; rfl, by rw [HW2.out]; exact (HH.out w4 HC4.out).row, chg_any (HCX.out.trans HC4.out)⟩
end Go.Proofs.L.M
