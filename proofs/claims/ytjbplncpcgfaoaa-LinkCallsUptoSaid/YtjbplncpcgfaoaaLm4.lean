/- Proved here: lemmas and contracts (Lm4) for the laws of this seat, for all values of the stated types; no further condition. -/
import Derived.Test.YtjbplncpcgfaoaaLm3
open Go Go.RowKit Go.Lib
namespace Go.Proofs.L.M
attribute [local irreducible] wpT
def Byt (q : Nat × (Nat → Nat)) : Prop := ∀ i, q.2 i < 256
theorem byt_ite {c : Prop} [Decidable c] {a b : Nat × (Nat → Nat)} (ha : Byt a) (hb : Byt b) : Byt (if c then a else b) := by split <;> assumption
theorem finN_lt (f : Nat → Nat) (hf : ∀ i, f i < 256) (p x : Nat) : Byt (finN f p x) := fun i => sdN_lt f hf p x i
theorem tailN_lt (bias : Nat) (Rs : List Rl) (Ys : List Nat) (f : Nat → Nat) (hf : ∀ i, f i < 256) (p : Nat) (ty : Int) (val w add : Nat) : Byt (tailN bias Rs Ys f p ty val w add) :=
  finN_lt f hf p val
theorem oneN_lt (bias : Nat) (Rs : List Rl) (Ys : List Nat) (Ss : List Sp) (f : Nat → Nat) (hf : ∀ i, f i < 256) (r : Rl) : Byt (oneN bias Rs Ys Ss f r) :=
  have B : ∀ k, Byt (k, f) := fun _ i => hf i
  byt_ite (B _) (byt_ite (B _) (byt_ite (B _) (tailN_lt _ _ _ f hf _ _ _ _ _)))
def applyN (bias : Nat) (Rs : List Rl) (Ys : List Nat) (Ss : List Sp) : List Rl → (Nat → Nat) → Nat × (Nat → Nat)
  | [], f => (0, f)
  | r :: L, f => if (oneN bias Rs Ys Ss f r).1 ≠ 0 then oneN bias Rs Ys Ss f r else applyN bias Rs Ys Ss L (oneN bias Rs Ys Ss f r).2
end Go.Proofs.L.M
open Go Go.RowKit Go.Lib
namespace Go.Proofs.L.M
theorem one_w {w : World} {J mb : Nat} {v : Jv} {Rs : List Rl} {Ys : List Nat} {Ss : List Sp} {f : Nat → Nat} (r : Rl) (ht : r.ty = 1) (hH : OneH w J mb v Rs Ys Ss f) (hra : r.at_ < 4294967296) (hadd : r.add < 4294967296) :
    Calls Try.prog 27 #[.pointer (some ⟨J, 0, none⟩), .agg (RlC r).toArray] w (OneQ w mb (oneN v.bias Rs Ys Ss f r)) := by
  obtain ⟨ra, ty, sy, add⟩ := r
  obtain rfl : ty = 1 := ht
  exact one_1 hH hra hadd
end Go.Proofs.L.M
open Go Go.RowKit Go.Lib
namespace Go.Proofs.L.M
attribute [local irreducible] wpT
set_option maxRecDepth 100000 in
set_option maxHeartbeats 16000000 in
theorem apply_any {w : World} {mb : Nat} {v : Jv} {Rs : List Rl} {Ys : List Nat} {Ss : List Sp} {f : Nat → Nat} (hty : ∀ r ∈ Rs, r.ty = 1) (hJ : ∀ J w', Chg [] w w' → w'.row? J = some v.row → JobOk w' J v Rs Ys Ss) (hm : v.m = .iface 60 (.pointer (some ⟨mb, 0, none⟩))) (hr : w.row? mb = some (mem f)) (hf : ∀ i, f i < 256)
    (rm : v.brl ≠ mb) (ym : v.bsy ≠ mb) (sm : v.bsp ≠ mb) (ns : v.nsp < 1000000) (nr : v.nrl < 1000000) :
    Calls Try.prog 15 #[.pointer (some ⟨mb, 0, none⟩), .agg #[v.e, v.sg, .slice v.prl v.nrl v.crl, .slice v.psy v.nsy v.csy], .int .u32 (v.bias : Int), .slice v.psp v.nsp v.csp] w (OneQ w mb (applyN v.bias Rs Ys Ss Rs f)) := by
  obtain ⟨P, hP⟩ : ∃ P, P = v.prl := ⟨_, rfl⟩
  obtain ⟨V, hV⟩ : ∃ V, V = (w.alloc (.cells #[v.e, v.sg, .slice P v.nrl v.crl, .slice v.psy v.nsy v.csy] 30)).alloc (.cells #[v.e, v.sg, .slice P v.nrl v.crl, .slice v.psy v.nsy v.csy, .int .u32 (v.bias : Int), .slice v.psp v.nsp v.csp, .iface 60 (.pointer (some ⟨mb, 0, none⟩))] 103) := ⟨_, rfl⟩
  obtain ⟨B0, hB0⟩ : ∃ B, B = w.heap.size := ⟨_, rfl⟩
  obtain ⟨J, hJ0⟩ : ∃ J, J = w.heap.size + 1 := ⟨_, rfl⟩
  have hcV : Chg [] w V := by rw [hV]; exact ((Chg.refl _ _).alloc _).alloc _
  have hrJ : V.row? J = some v.row := by rw [hV, hJ0, row_alloc_at _ _ _ _ (by simp)]; unfold Jv.row; rw [hm, hP]
  have hr0 : V.row? B0 = some #[v.e, v.sg, .slice P v.nrl v.crl, .slice v.psy v.nsy v.csy] := by rw [hV, hB0, row_alloc_past _ _ _ (by simp)]; exact row_alloc_at _ _ _ _ rfl
  have hjob := hJ J V hcV hrJ
  have hml := row_lt hr
  have HH : Hid (OneH V J mb v Rs Ys Ss f) := Lib.hid ⟨hjob, hm, by rw [hcV.row hml (by simp)]; exact hr, hf, by omega, rm, ym, sm, ns, nr⟩
  have c02 : V.cell? ⟨B0, 2, none⟩ = some (.slice P v.nrl v.crl) := by rw [row_cell hr0]; rfl
  have HPP : Hid (0 < v.nrl → P = some ⟨v.brl, v.orl, none⟩) := Lib.hid (by rw [hP]; exact hjob.rp)
  have HCV := Lib.hid hcV
  have HV := Lib.hid hV
  have HB0 := Lib.hid hB0
  have HJ0 := Lib.hid hJ0
  have HNR := Lib.hid nr
  have HTY := Lib.hid hty
  clear hty
  rw [← hP]
  clear hP hV hB0 hJ0 hcV hrJ hr0 hjob hml hJ hm hr hf rm ym sm ns nr
  go_enter Try.func15, Try.ntmps15
  go_upto_region 4 with (fail)
  rw [← HV.out, ← HJ0.out, ← HB0.out]
  clear HV HJ0 HB0
  go_wp2_with fail
  clear c02
  go_loopw [25] (fun i wr => ∃ (j : Nat) (g : Nat → Nat), j ≤ v.nrl ∧ i = .int .i64 (j : Int) ∧ applyN v.bias Rs Ys Ss (Rs.drop j) g = applyN v.bias Rs Ys Ss Rs f ∧ OneH wr J mb v Rs Ys Ss g ∧ Chg [mb] w wr) (fun i _ => v.nrl - (intOf i).toNat)
  case atStart => exact ⟨0, f, by omega, rfl, rfl, HH.out, chg_any HCV.out⟩
  case round =>
    obtain ⟨j, g, hj, rfl, hap, hone, hch⟩ := hrel
    have HJJ := Lib.hid hj
    have HAP := Lib.hid hap
    have HO := Lib.hid hone
    have HC := Lib.hid hch
    clear hj hap hone hch
    by_cases hjn : j < v.nrl
    · have HJN := Lib.hid hjn
      have dI : (j : Int) < (v.nrl : Int) := by omega
      have hlen : j < Rs.length := by have := HO.out.job.rn; omega
      obtain ⟨r, hr⟩ : ∃ r, r = Rs[j] := ⟨_, rfl⟩
      have hrj : Rs[j]? = some r := by rw [hr]; exact List.getElem?_eq_getElem hlen
      have HMEM := Lib.hid (List.mem_of_getElem? hrj)
      obtain ⟨hsc, hst, hsz⟩ := HO.out.job.rl j r hrj
      obtain rfl := HPP.out (by omega)
      have HAP2 : Hid (applyN v.bias Rs Ys Ss Rs f = if (oneN v.bias Rs Ys Ss g r).1 ≠ 0 then oneN v.bias Rs Ys Ss g r else applyN v.bias Rs Ys Ss (Rs.drop (j + 1)) (oneN v.bias Rs Ys Ss g r).2) := Lib.hid (by rw [← HAP.out, List.drop_eq_getElem_cons hlen, ← hr]; rfl)
      have HSC : Hid (∀ i u, (RlC r)[i]? = some u → wr.cell? ⟨v.brl, v.orl + j * 4 + i, none⟩ = some u) := Lib.hid hsc
      have HST := Lib.hid hst
      have HSZ := Lib.hid hsz
      have HW : Hid (wrap64 ((j : Int) + 1) = ((j + 1 : Nat) : Int)) := Lib.hid (by have := HNR.out; rw [IntWalk.wrap64_in _ ⟨by omega, by omega⟩]; omega)
      obtain ⟨X, hX⟩ : ∃ X, X = wr.alloc (.cells (RlC r).toArray 44) := ⟨_, rfl⟩
      obtain ⟨B, hB⟩ : ∃ B, B = wr.heap.size := ⟨_, rfl⟩
      have hrX : X.row? B = some (RlC r).toArray := by rw [hX, hB]; exact row_alloc_at _ _ _ _ rfl
      have hcX : Chg [] wr X := by rw [hX]; exact (Chg.refl _ _).alloc _
      have HOX : Hid (OneH X J mb v Rs Ys Ss g) := Lib.hid (HO.out.keep hcX)
      have HCX : Hid (Chg [mb] w X) := Lib.hid (HC.out.trans (chg_any hcX))
      have HRX := Lib.hid hrX
      have HX := Lib.hid hX
      have HB := Lib.hid hB
      clear hlen hr hrj hsc hst hsz hX hB hrX hcX hjn
      go_upto_region 7 with (first | (refine wpList_load_part a32 (RlC r) rfl _ rfl rfl rfl HSC.out ?_) | (refine wpList_store_new a32 _ _ rfl rfl rfl rfl rfl rfl rfl rfl ?_))
      rw [← HX.out, ← HB.out]
      clear HX HB dI
      go_wp2_with (refine wpList_load_part a32 (RlC r) rfl _ rfl rfl rfl (fun i u hu => by rw [Nat.zero_add, row_cell HRX.out, ← hu]; simp) ?_)
      refine (one_w r (HTY.out r HMEM.out) HOX.out HST.out HSZ.out).mono ?_
      rintro e w2 ⟨rfl, hr2, hc2⟩
      obtain ⟨q, hq⟩ : ∃ q, q = oneN v.bias Rs Ys Ss g r := ⟨_, rfl⟩
      have hq2 : Byt q := by rw [hq]; exact oneN_lt _ _ _ _ _ HO.out.hf r
      rw [← hq] at HAP2 hr2 ⊢
      clear hq
      obtain ⟨qe, qf⟩ := q
      have HO2 : Hid (OneH w2 J mb v Rs Ys Ss qf) := Lib.hid (HOX.out.store hc2 hr2 hq2)
      have HC2 : Hid (Chg [mb] w w2) := Lib.hid (HCX.out.trans hc2)
      clear hr2 hc2 hq2
      by_cases h0 : qe = 0
      · have qI : (qe : Int) = 0 := by omega
        have HAP3 : Hid (applyN v.bias Rs Ys Ss (Rs.drop (j + 1)) qf = applyN v.bias Rs Ys Ss Rs f) := Lib.hid (by rw [HAP2.out, if_neg (by simpa using h0)])
        clear h0
        go_wp2
        case roundEnd => exact ⟨⟨j + 1, qf, HJN.out, by rw [HW.out], HAP3.out, HO2.out, HC2.out⟩, by rw [HW.out]; simp only [intOf, Int.toNat_natCast]; have := HJN.out; omega⟩
      · have qI : ¬ (qe : Int) = 0 := by omega
        have HAP3 : Hid (applyN v.bias Rs Ys Ss Rs f = (qe, qf)) := Lib.hid (by rw [HAP2.out, if_pos (by simpa using h0)])
        go_wp2
        go_ret
        exact ⟨by rw [HAP3.out]; rfl, by rw [HAP3.out]; exact HO2.out.row, HC2.out⟩
    · have hjn2 : j = v.nrl := by have := HJJ.out; omega
      have dI : ¬ (j : Int) < (v.nrl : Int) := by omega
      have HF : Hid (applyN v.bias Rs Ys Ss Rs f = (0, g)) := Lib.hid (by rw [← HAP.out, List.drop_eq_nil_of_le (by have := HO.out.job.rn; omega)]; rfl)
      clear hjn hjn2
      go_wp2
      go_ret
      exact ⟨by rw [HF.out]; rfl, by rw [HF.out]; exact HO.out.row, HC.out⟩
end Go.Proofs.L.M
