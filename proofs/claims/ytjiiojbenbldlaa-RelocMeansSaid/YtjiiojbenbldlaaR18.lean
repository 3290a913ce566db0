/- Proved here: lemmas and contracts (R18) for the laws of this seat, for all values of the stated types; no further condition. -/
import Derived.Test.YtjiiojbenbldlaaR14x1
import Derived.Test.YtjiiojbenbldlaaR14x3
import Derived.Test.YtjiiojbenbldlaaR14x16
import Derived.Test.YtjiiojbenbldlaaR14x17
import Derived.Test.YtjiiojbenbldlaaR14x18
import Derived.Test.YtjiiojbenbldlaaR14x19
import Derived.Test.YtjiiojbenbldlaaR14x23
import Derived.Test.YtjiiojbenbldlaaR14x24
import Derived.Test.YtjiiojbenbldlaaR14x25
import Derived.Test.YtjiiojbenbldlaaR14x26
import Derived.Test.YtjiiojbenbldlaaR14x27
import Derived.Test.YtjiiojbenbldlaaR14x28
open Go Go.RowKit Go.Lib
namespace Go.Proofs.L
attribute [local irreducible] wpT
set_option maxRecDepth 100000 in
set_option maxHeartbeats 16000000 in
theorem one_bad {w : World} {J mb : Nat} {v : Jv} {Rs : List Rl} {Ys : List Nat} {Ss : List Sp} {f : Nat → Nat} {ra add : Nat} {sy ty : Int} (hH : OneH w J mb v Rs Ys Ss f) (hra : ra < 4294967296) (hadd : add < 4294967296) (hty : sizeN ty = 0) :
    Calls Try.prog 23 #[.pointer (some ⟨J, 0, none⟩), .agg (RlC ⟨ra, ty, sy, add⟩).toArray] w (OneQ w mb (oneN v.bias Rs Ys Ss f ⟨ra, ty, sy, add⟩)) := by
  obtain ⟨X, hX⟩ : ∃ X, X = w.alloc (.cells (RlC ⟨ra, ty, sy, add⟩).toArray 32) := ⟨_, rfl⟩
  obtain ⟨B, hB⟩ : ∃ B, B = w.heap.size := ⟨_, rfl⟩
  have hrX : X.row? B = some (RlC ⟨ra, ty, sy, add⟩).toArray := by rw [hX, hB]; exact row_alloc_at _ _ _ _ rfl
  have hcX : Chg [] w X := by rw [hX]; exact (Chg.refl _ _).alloc _
  have HH : Hid (∀ W, Chg [] X W → OneH W J mb v Rs Ys Ss f) := Lib.hid fun W hW => (hH.keep hcX).keep hW
  have HR : Hid (∀ W, Chg [] X W → W.row? B = some (RlC ⟨ra, ty, sy, add⟩).toArray) := Lib.hid fun W hW => by rw [hW.row (row_lt hrX) (by simp)]; exact hrX
  have HQ : Hid (∀ W, Chg [] X W → W.cell? ⟨B, 0, none⟩ = some (.int .u32 (ra : Int)) ∧ W.cell? ⟨B, 1, none⟩ = some (.int .i64 ty) ∧ W.cell? ⟨B, 2, none⟩ = some (.int .i64 sy) ∧ W.cell? ⟨B, 3, none⟩ = some (.int .u32 (add : Int))) := Lib.hid fun W hW => ⟨by rw [row_cell (HR.out W hW)]; rfl, by rw [row_cell (HR.out W hW)]; rfl, by rw [row_cell (HR.out W hW)]; rfl, by rw [row_cell (HR.out W hW)]; rfl⟩
  have HCX := Lib.hid hcX
  have HX := Lib.hid hX
  have HB := Lib.hid hB
  obtain ⟨p, hp⟩ : ∃ p, p = (v.bias + ra) % 4294967296 := ⟨_, rfl⟩
  have HPL : Hid (p < 4294967296) := Lib.hid (by omega)
  have wp := addw_wrap hp
  have HF := Lib.hid hH.hf
  have HV : Hid (oneN v.bias Rs Ys Ss f ⟨ra, ty, sy, add⟩ = (13, f)) := Lib.hid (by unfold oneN; rw [if_pos (.inl hty)])
  have HTY := Lib.hid hty
  have HADD := Lib.hid hadd
  have n1 : ¬ ty = 1 := by rintro rfl; exact absurd hty (by decide)
  have n3 : ¬ ty = 3 := by rintro rfl; exact absurd hty (by decide)
  clear hX hB hrX hcX hH hp hadd hra hty
  go_enter Try.func23, Try.ntmps23
  go_upto_region 1 with (fail)
  rw [← HX.out, ← HB.out]
  clear HX HB
  refine wp_region_C (fun w' => w'.cell? ⟨J, 4, none⟩ = some (.int .u32 (v.bias : Int)) ∧ w'.cell? ⟨B, 0, none⟩ = some (.int .u32 (ra : Int))) [(0, 0), (1, 0), (2, 0), (3, 1), (4, 0), (5, 1), (6, 0), (7, 0)] rfl (by kernel_rfl) ?hSA ?hTA
  case hSA => exact ⟨(HH.out X (Chg.refl _ _)).job.c4, (HQ.out X (Chg.refl _ _)).1⟩
  refine wpT_pureD (v := ?_) (some 15) rfl rfl (by rfl) (fun w' => ?_) ?_
  rotate_left
  · (go_simp; try with_reducible rfl)
  try simp only [Act.put, List.setIfInBounds_toArray, List.set_cons_zero, List.set_cons_succ]
  refine wpT_pureD (v := ?_) (some 16) rfl rfl (by rfl) (fun w' => ?_) ?_
  rotate_left
  · (go_simp; try with_reducible rfl)
  try simp only [Act.put, List.setIfInBounds_toArray, List.set_cons_zero, List.set_cons_succ]
  refine wpT_pureD (v := ?_) (some 17) rfl rfl (by rfl) (fun w' => ?_) ?_
  rotate_left
  · (go_simp; try with_reducible rfl)
  try simp only [Act.put, List.setIfInBounds_toArray, List.set_cons_zero, List.set_cons_succ]
  refine wpT_readD (v := ?_) (some 18) rfl rfl (by rfl) (fun w' hw => ?_) ?_
  rotate_left
  · (obtain ⟨q0, q1⟩ := hw; go_simp; try with_reducible rfl)
  try simp only [Act.put, List.setIfInBounds_toArray, List.set_cons_zero, List.set_cons_succ]
  refine wpT_pureD (v := ?_) (some 19) rfl rfl (by rfl) (fun w' => ?_) ?_
  rotate_left
  · (go_simp; try with_reducible rfl)
  try simp only [Act.put, List.setIfInBounds_toArray, List.set_cons_zero, List.set_cons_succ]
  refine wpT_readD (v := ?_) (some 20) rfl rfl (by rfl) (fun w' hw => ?_) ?_
  rotate_left
  · (obtain ⟨q0, q1⟩ := hw; go_simp; try with_reducible rfl)
  try simp only [Act.put, List.setIfInBounds_toArray, List.set_cons_zero, List.set_cons_succ]
  refine wpT_pureD (v := ?_) (some 21) rfl rfl (by rfl) (fun w' => ?_) ?_
  rotate_left
  · (go_simp; try with_reducible rfl)
  try simp only [Act.put, List.setIfInBounds_toArray, List.set_cons_zero, List.set_cons_succ]
  refine wpT_pureD (v := ?_) (some 5) rfl rfl (by rfl) (fun w' => ?_) ?_
  rotate_left
  · (go_simp; try with_reducible rfl)
  try simp only [Act.put, List.setIfInBounds_toArray, List.set_cons_zero, List.set_cons_succ]
  refine wpT_end ?_
  clear wp
  obtain ⟨Y, hY⟩ : ∃ Y, Y = X.drew := ⟨_, rfl⟩
  have HY : Hid (Chg [] X Y) := Lib.hid (by rw [hY]; exact (Chg.refl _ _).drew)
  rw [← hY]
  clear hY
  have c1 : Y.cell? ⟨B, 1, none⟩ = some (.int .i64 ty) := (HQ.out Y HY.out).2.1
  go_wp2_with fail
  refine (size_any ty Y).mono ?_
  rintro e w' ⟨rfl, hw⟩
  obtain rfl := hw.symm
  rw [HTY.out, show ((0 : Nat) : Int) = 0 from rfl]
  go_wp2
  go_ret
  exact ⟨by rw [HV.out]; rfl, by rw [HV.out]; exact (HH.out Y HY.out).row, chg_any (HCX.out.trans HY.out)⟩
theorem one_any {w : World} {J mb : Nat} {v : Jv} {Rs : List Rl} {Ys : List Nat} {Ss : List Sp} {f : Nat → Nat} (r : Rl) (hH : OneH w J mb v Rs Ys Ss f) (hra : r.at_ < 4294967296) (hadd : r.add < 4294967296) :
    Calls Try.prog 23 #[.pointer (some ⟨J, 0, none⟩), .agg (RlC r).toArray] w (OneQ w mb (oneN v.bias Rs Ys Ss f r)) := by
  obtain ⟨ra, ty, sy, add⟩ := r
  by_cases h1 : ty = 18 ∨ ty = 19 ∨ ty = 1 ∨ ty = 3 ∨ ty = 16 ∨ ty = 17 ∨ ty = 23 ∨ ty = 24 ∨ ty = 25 ∨ ty = 26 ∨ ty = 27 ∨ ty = 28
  · rcases h1 with rfl | rfl | rfl | rfl | rfl | rfl | rfl | rfl | rfl | rfl | rfl | rfl
    · exact one_18 hH hra hadd
    · exact one_19 hH hra hadd
    · exact one_1 hH hra hadd
    · exact one_3 hH hra hadd
    · exact one_16 hH hra hadd
    · exact one_17 hH hra hadd
    · exact one_23 hH hra hadd
    · exact one_24 hH hra hadd
    · exact one_25 hH hra hadd
    · exact one_26 hH hra hadd
    · exact one_27 hH hra hadd
    · exact one_28 hH hra hadd
  · exact one_bad hH hra hadd (by unfold sizeN; rw [if_neg (by omega), if_neg (by omega)])
end Go.Proofs.L

open Go Go.RowKit Go.Lib
namespace Go.Proofs.L
attribute [local irreducible] wpT
def Byt (q : Nat × (Nat → Nat)) : Prop := ∀ i, q.2 i < 256
theorem byt_ite {c : Prop} [Decidable c] {a b : Nat × (Nat → Nat)} (ha : Byt a) (hb : Byt b) : Byt (if c then a else b) := by split <;> assumption
theorem finN_lt (f : Nat → Nat) (hf : ∀ i, f i < 256) (p x : Nat) : Byt (finN f p x) := fun i => sdN_lt f hf p x i
theorem tailN_lt (bias : Nat) (Rs : List Rl) (Ys : List Nat) (f : Nat → Nat) (hf : ∀ i, f i < 256) (p : Nat) (ty : Int) (val w add : Nat) : Byt (tailN bias Rs Ys f p ty val w add) :=
  have F := finN_lt f hf p
  have B : ∀ k, Byt (k, f) := fun _ i => hf i
  byt_ite (F _) (byt_ite (F _) (byt_ite (byt_ite (B _) (F _)) (byt_ite (byt_ite (B _) (F _)) (byt_ite (finN_lt _ (sdN_lt f hf _ _) _ _) (byt_ite (F _) (byt_ite (F _) (byt_ite (F _) (byt_ite (F _) (byt_ite (B _) (byt_ite (F _) (F _)))))))))))
theorem oneN_lt (bias : Nat) (Rs : List Rl) (Ys : List Nat) (Ss : List Sp) (f : Nat → Nat) (hf : ∀ i, f i < 256) (r : Rl) : Byt (oneN bias Rs Ys Ss f r) :=
  have B : ∀ k, Byt (k, f) := fun _ i => hf i
  byt_ite (B _) (byt_ite (B _) (byt_ite (B _) (tailN_lt _ _ _ f hf _ _ _ _ _)))
def applyN (bias : Nat) (Rs : List Rl) (Ys : List Nat) (Ss : List Sp) : List Rl → (Nat → Nat) → Nat × (Nat → Nat)
  | [], f => (0, f)
  | r :: L, f => if (oneN bias Rs Ys Ss f r).1 ≠ 0 then oneN bias Rs Ys Ss f r else applyN bias Rs Ys Ss L (oneN bias Rs Ys Ss f r).2
theorem apply_nil (a : Value) (b : Nat) (s : Value) (e sg rl sy : Value) (w : World) : Calls Try.prog 11 #[.pointer none, .agg #[e, sg, rl, sy], .int .u32 (b : Int), s] w fun e w' => e = .returned (.int .i64 1) ∧ Chg [] w w' := by
  go_enter Try.func11, Try.ntmps11
  go_wp2
  go_ret
  exact ⟨rfl, (Chg.refl _ _).alloc _⟩
end Go.Proofs.L

open Go Go.RowKit Go.Lib
namespace Go.Proofs.L
attribute [local irreducible] wpT
set_option maxRecDepth 100000 in
set_option maxHeartbeats 16000000 in
theorem apply_any {w : World} {mb : Nat} {v : Jv} {Rs : List Rl} {Ys : List Nat} {Ss : List Sp} {f : Nat → Nat} (hJ : ∀ J w', Chg [] w w' → w'.row? J = some v.row → JobOk w' J v Rs Ys Ss) (hm : v.m = .iface 33 (.pointer (some ⟨mb, 0, none⟩))) (hr : w.row? mb = some (mem f)) (hf : ∀ i, f i < 256)
    (rm : v.brl ≠ mb) (ym : v.bsy ≠ mb) (sm : v.bsp ≠ mb) (ns : v.nsp < 1000000) (nr : v.nrl < 1000000) :
    Calls Try.prog 11 #[.pointer (some ⟨mb, 0, none⟩), .agg #[v.e, v.sg, .slice v.prl v.nrl v.crl, .slice v.psy v.nsy v.csy], .int .u32 (v.bias : Int), .slice v.psp v.nsp v.csp] w (OneQ w mb (applyN v.bias Rs Ys Ss Rs f)) := by
  obtain ⟨P, hP⟩ : ∃ P, P = v.prl := ⟨_, rfl⟩
  obtain ⟨V, hV⟩ : ∃ V, V = (w.alloc (.cells #[v.e, v.sg, .slice P v.nrl v.crl, .slice v.psy v.nsy v.csy] 30)).alloc (.cells #[v.e, v.sg, .slice P v.nrl v.crl, .slice v.psy v.nsy v.csy, .int .u32 (v.bias : Int), .slice v.psp v.nsp v.csp, .iface 33 (.pointer (some ⟨mb, 0, none⟩))] 67) := ⟨_, rfl⟩
  obtain ⟨B0, hB0⟩ : ∃ B, B = w.heap.size := ⟨_, rfl⟩
  obtain ⟨J, hJ0⟩ : ∃ J, J = w.heap.size + 1 := ⟨_, rfl⟩
  have hcV : Chg [] w V := by rw [hV]; exact ((Chg.refl _ _).alloc _).alloc _
  have hrJ : V.row? J = some v.row := by rw [hV, hJ0, row_alloc_at _ _ _ _ (by simp)]; unfold Jv.row; rw [hm, hP]
  have hr0 : V.row? B0 = some #[v.e, v.sg, .slice P v.nrl v.crl, .slice v.psy v.nsy v.csy] := by rw [hV, hB0, row_alloc_past _ _ _ (by simp)]; exact row_alloc_at _ _ _ _ rfl
  have hjob := hJ J V hcV hrJ
  have hml := row_lt hr
  have HH : Hid (OneH V J mb v Rs Ys Ss f) := Lib.hid ⟨hjob, hm, by rw [hcV.row hml (by simp)]; exact hr, hf, by omega, rm, ym, sm, ns, nr⟩
  have c02 : V.cell? ⟨B0, 2, none⟩ = some (.slice P v.nrl v.crl) := by rw [row_cell hr0]; rfl
  have HPP : Hid (0 < v.nrl → P = some ⟨v.brl, v.orl, none⟩) := Lib.hid (by rw [hP]; exact hjob.rp)
  have HCV := Lib.hid hcV
  have HV := Lib.hid hV
  have HB0 := Lib.hid hB0
  have HJ0 := Lib.hid hJ0
  have HNR := Lib.hid nr
  rw [← hP]
  clear hP hV hB0 hJ0 hcV hrJ hr0 hjob hml hJ hm hr hf rm ym sm ns nr
  go_enter Try.func11, Try.ntmps11
  go_upto_region 4 with (fail)
  rw [← HV.out, ← HJ0.out, ← HB0.out]
  clear HV HJ0 HB0
  go_wp2_with fail
  clear c02
  go_loopw [25] (fun i wr => ∃ (j : Nat) (g : Nat → Nat), j ≤ v.nrl ∧ i = .int .i64 (j : Int) ∧ applyN v.bias Rs Ys Ss (Rs.drop j) g = applyN v.bias Rs Ys Ss Rs f ∧ OneH wr J mb v Rs Ys Ss g ∧ Chg [mb] w wr) (fun i _ => v.nrl - (intOf i).toNat)
  case atStart => exact ⟨0, f, by omega, rfl, rfl, HH.out, chg_any HCV.out⟩
  case round =>
    obtain ⟨j, g, hj, rfl, hap, hone, hch⟩ := hrel
    have HJJ := Lib.hid hj
    have HAP := Lib.hid hap
    have HO := Lib.hid hone
    have HC := Lib.hid hch
    clear hj hap hone hch
    by_cases hjn : j < v.nrl
    · have HJN := Lib.hid hjn
      have dI : (j : Int) < (v.nrl : Int) := by omega
      have hlen : j < Rs.length := by have := HO.out.job.rn; omega
      obtain ⟨r, hr⟩ : ∃ r, r = Rs[j] := ⟨_, rfl⟩
      have hrj : Rs[j]? = some r := by rw [hr]; exact List.getElem?_eq_getElem hlen
      obtain ⟨hsc, hst, hsz⟩ := HO.out.job.rl j r hrj
      obtain rfl := HPP.out (by omega)
      have HAP2 : Hid (applyN v.bias Rs Ys Ss Rs f = if (oneN v.bias Rs Ys Ss g r).1 ≠ 0 then oneN v.bias Rs Ys Ss g r else applyN v.bias Rs Ys Ss (Rs.drop (j + 1)) (oneN v.bias Rs Ys Ss g r).2) := Lib.hid (by rw [← HAP.out, List.drop_eq_getElem_cons hlen, ← hr]; rfl)
      have HSC : Hid (∀ i u, (RlC r)[i]? = some u → wr.cell? ⟨v.brl, v.orl + j * 4 + i, none⟩ = some u) := Lib.hid hsc
      have HST := Lib.hid hst
      have HSZ := Lib.hid hsz
      have HW : Hid (wrap64 ((j : Int) + 1) = ((j + 1 : Nat) : Int)) := Lib.hid (by have := HNR.out; rw [IntWalk.wrap64_in _ ⟨by omega, by omega⟩]; omega)
      obtain ⟨X, hX⟩ : ∃ X, X = wr.alloc (.cells (RlC r).toArray 32) := ⟨_, rfl⟩
      obtain ⟨B, hB⟩ : ∃ B, B = wr.heap.size := ⟨_, rfl⟩
      have hrX : X.row? B = some (RlC r).toArray := by rw [hX, hB]; exact row_alloc_at _ _ _ _ rfl
      have hcX : Chg [] wr X := by rw [hX]; exact (Chg.refl _ _).alloc _
      have HOX : Hid (OneH X J mb v Rs Ys Ss g) := Lib.hid (HO.out.keep hcX)
      have HCX : Hid (Chg [mb] w X) := Lib.hid (HC.out.trans (chg_any hcX))
      have HRX := Lib.hid hrX
      have HX := Lib.hid hX
      have HB := Lib.hid hB
      clear hlen hr hrj hsc hst hsz hX hB hrX hcX hjn
      go_upto_region 7 with (first | (refine wpList_load_part a32 (RlC r) rfl _ rfl rfl rfl HSC.out ?_) | (refine wpList_store_new a32 _ _ rfl rfl rfl rfl rfl rfl rfl rfl ?_))
      rw [← HX.out, ← HB.out]
      clear HX HB dI
      go_wp2_with (refine wpList_load_part a32 (RlC r) rfl _ rfl rfl rfl (fun i u hu => by rw [Nat.zero_add, row_cell HRX.out, ← hu]; simp) ?_)
      refine (one_any r HOX.out HST.out HSZ.out).mono ?_
      rintro e w2 ⟨rfl, hr2, hc2⟩
      obtain ⟨q, hq⟩ : ∃ q, q = oneN v.bias Rs Ys Ss g r := ⟨_, rfl⟩
      have hq2 : Byt q := by rw [hq]; exact oneN_lt _ _ _ _ _ HO.out.hf r
      rw [← hq] at HAP2 hr2 ⊢
      clear hq
      obtain ⟨qe, qf⟩ := q
      have HO2 : Hid (OneH w2 J mb v Rs Ys Ss qf) := Lib.hid (HOX.out.store hc2 hr2 hq2)
      have HC2 : Hid (Chg [mb] w w2) := Lib.hid (HCX.out.trans hc2)
      clear hr2 hc2 hq2
      by_cases h0 : qe = 0
      · have qI : (qe : Int) = 0 := by omega
        have HAP3 : Hid (applyN v.bias Rs Ys Ss (Rs.drop (j + 1)) qf = applyN v.bias Rs Ys Ss Rs f) := Lib.hid (by rw [HAP2.out, if_neg (by simpa using h0)])
        clear h0
        go_wp2
        case roundEnd => exact ⟨⟨j + 1, qf, HJN.out, by rw [HW.out], HAP3.out, HO2.out, HC2.out⟩, by rw [HW.out]; simp only [intOf, Int.toNat_natCast]; have := HJN.out; omega⟩
      · have qI : ¬ (qe : Int) = 0 := by omega
        have HAP3 : Hid (applyN v.bias Rs Ys Ss Rs f = (qe, qf)) := Lib.hid (by rw [HAP2.out, if_pos (by simpa using h0)])
        go_wp2
        go_ret
        exact ⟨by rw [HAP3.out]; rfl, by rw [HAP3.out]; exact HO2.out.row, HC2.out⟩
    · have hjn2 : j = v.nrl := by have := HJJ.out; omega
      have dI : ¬ (j : Int) < (v.nrl : Int) := by omega
      have HF : Hid (applyN v.bias Rs Ys Ss Rs f = (0, g)) := Lib.hid (by rw [← HAP.out, List.drop_eq_nil_of_le (by have := HO.out.job.rn; omega)]; rfl)
      clear hjn hjn2
      go_wp2
      go_ret
      exact ⟨by rw [HF.out]; rfl, by rw [HF.out]; exact HO.out.row, HC.out⟩
end Go.Proofs.L

open Go Go.RowKit Go.Lib
namespace Go.Proofs.L
attribute [local irreducible] wpT
/-! the reference: low, Upper; the example -/
def lowN (x : Int) : Nat := (x % 4294967296).toNat
theorem lowN_lt (x : Int) : lowN x < 4294967296 := by unfold lowN; omega
theorem low_any (x : Int) (w : World) : Calls Try.prog 24 #[.int .i64 x] w fun e w' => e = .returned (.int .i64 ((lowN x : Nat) : Int)) ∧ w' = w := by
  obtain ⟨a, ha⟩ : ∃ a, a = x.tmod 4294967296 := ⟨_, rfl⟩
  have hb : -4294967296 < a ∧ a < 4294967296 := by rw [ha]; exact ⟨Int.lt_tmod_of_pos x (by decide), Int.tmod_lt_of_pos x (by decide)⟩
  have h1 : wrap64 (a + 4294967296) = a + 4294967296 := IntWalk.wrap64_in _ ⟨by omega, by omega⟩
  have h2 : (a + 4294967296).tmod 4294967296 = ((lowN x : Nat) : Int) := by
    rw [Int.tmod_eq_emod_of_nonneg (by omega)]
    unfold lowN
    have h3 : a = x - 4294967296 * x.tdiv 4294967296 := by rw [ha]; exact Int.tmod_def x 4294967296
    omega
  have h3 := ha.symm
  have HB := Lib.hid hb
  clear hb ha
  go_enter Try.func24, Try.ntmps24
  go_wp2
  go_ret
  exact ⟨by first | rfl | (rw [h2]; rfl) | simp [h2], rfl⟩
theorem refUpper_any (v : Nat) (hv : v < 4294967296) (w : World) : Calls Try.prog 15 #[.int .i64 (v : Int)] w fun e w' => e = .returned (.int .i64 ((upN v : Nat) : Int)) ∧ w' = w := by
  obtain ⟨y, hy⟩ : ∃ y, y = v + 2048 := ⟨_, rfl⟩
  have h0 : (v : Int) + 2048 = (y : Int) := by omega
  have h1 : wrap64 (y : Int) = (y : Int) := IntWalk.wrap64_in _ ⟨by omega, by omega⟩
  obtain ⟨z, hz⟩ : ∃ z, z = lowN (y : Int) := ⟨_, rfl⟩
  have hzl : z < 4294967296 := by rw [hz]; exact lowN_lt _
  obtain ⟨r, hr⟩ : ∃ r, r = z % 4096 := ⟨_, rfl⟩
  have h2 : (z : Int).tmod 4096 = (r : Int) := by rw [Int.tmod_eq_emod_of_nonneg (by omega)]; omega
  have h3 : wrap64 ((z : Int) - (r : Int)) = ((upN v : Nat) : Int) := by
    rw [IntWalk.wrap64_in _ ⟨by omega, by omega⟩]
    unfold upN
    unfold lowN at hz
    omega
  have h4 : (z : Int) % 4096 = (r : Int) := by omega
  have HZ := Lib.hid hz
  have H3 := Lib.hid h3
  clear hz hr hzl h3 hy
  go_enter Try.func15, Try.ntmps15
  go_wp2_with fail
  refine (low_any (y : Int) w).mono ?_
  rintro e w' ⟨rfl, hw⟩
  obtain rfl := hw.symm
  rw [← HZ.out]
  clear h0 h1
  go_wp2
  go_ret
  refine ⟨?_, rfl⟩
  have := H3.out
  first | (show Ending.returned (.int .i64 (wrap64 ((z : Int) - (r : Int)))) = _; rw [this]) | (trace_state; sorry)
end Go.Proofs.L
