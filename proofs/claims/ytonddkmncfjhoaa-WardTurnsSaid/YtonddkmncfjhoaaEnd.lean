/- Proved here: lemmas and contracts (End) for the laws of this seat, for all values of the stated types; no further condition. -/
import Derived.Test.YtonddkmncfjhoaaPass
open Go Go.RowKit Go.Lib
namespace Go.Proofs.L
theorem chg1 {b : Nat} {w w' : World} (h : Chg [] w w') : Chg [b] w w' := ⟨h.os, h.tape, h.output, h.size, fun x hx _ => h.block x hx (by simp)⟩
theorem chgE {E F : List Nat} {w w' : World} (h : Chg E w w') (hE : ∀ x ∈ E, x ∈ F) : Chg F w w' := ⟨h.os, h.tape, h.output, h.size, fun x hx hF => h.block x hx (fun he => hF (hE x he))⟩
theorem end_off {w b n f t g o cap} (h : Wd w b n f t g o cap) (ht : t < 0) (s c : Int) : Calls Try.prog 17 #[.pointer (some ⟨b, 0, none⟩), .int .i64 s, .int .u32 c] w fun e w' => e = .returned (.tuple #[]) ∧ w' = w := by
  have HT := turn_in h
  rw [if_pos ht] at HT
  have HT := Lib.hid HT
  clear h
  go_enter Try.func17, Try.ntmps17
  go_wp2_with fail
  refine HT.out.mono ?_
  rintro e w' ⟨rfl, rfl⟩
  go_wp2
  go_end0
  exact ⟨rfl, rfl⟩
def endSta (S : Sta) (s : Int) (c : Nat) : Sta := { S with s := s, c := c }
set_option maxHeartbeats 800000 in
theorem end_in {w b n f g o cap} (t : Nat) (h : Wd w b n f (t : Int) g o cap) (ht : t < n) (hn : n ≤ 4) (s : Int) (c : Nat) : Calls Try.prog 17 #[.pointer (some ⟨b, 0, none⟩), .int .i64 s, .int .u32 (c : Int)] w fun e w' => e = .returned (.tuple #[]) ∧ ∃ t', NextT (ups f t (endSta (f t) s c)) n t t' ∧ Wd w' b n (ups f t (endSta (f t) s c)) t' g o cap ∧ Chg [b, g] w w' := by
  have HT := turn_in h
  rw [if_neg (by omega)] at HT
  have HT := Lib.hid HT
  have H := Lib.hid h
  have HG := Lib.hid h.2.2
  have HC0 : Hid (Chg [] w w.drew) := Lib.hid (Chg.refl _ _).drew
  have hD := h.keep HC0.out (by simp) (by simp)
  have s0 := h.c0
  have HD := Lib.hid hD
  have hI : (t : Int) < (n : Int) := by omega
  have x0 := h.ce t ht 0 _ (stL_0 _)
  have y0 := h.fe t ht 0 (by omega)
  have x1 := h.ce t ht 1 _ (stL_1 _)
  have y1 := h.fe t ht 1 (by omega)
  rw [Nat.add_zero] at x0 y0
  have HLT := Lib.hid ht
  have hgb : g ≠ b := h.2.2
  have hbg : b ≠ g := h.2.2.symm
  have d0 : decide ((t : Int) ≥ 0) = true := by simp
  have d1 : decide ((0 : Int) ≤ (t : Int)) = true := by simp
  clear h hD ht
  go_enter Try.func17, Try.ntmps17
  go_wp2_with fail
  refine HT.out.mono ?_
  rintro e w' ⟨rfl, rfl⟩
  go_wp2_with fail
  refine wp_region_C (fun w' => w'.cell? ⟨b, 0, none⟩ = some (.slice (some ⟨g, o, none⟩) n cap)) [(0, 0), (1, 0), (2, 0), (3, 1), (4, 0), (5, 0), (6, 0), (7, 0), (8, 1), (9, 0), (10, 0), (11, 0), (12, 0), (13, 0), (14, 2), (15, 0), (16, 0), (17, 2)] rfl (by kernel_rfl) ?hSA ?hTA
  case hSA => exact s0
  refine wpT_pureD (v := ?_) (some 11) rfl rfl (by rfl) (fun w' => ?_) ?_
  rotate_left
  · (go_simp; try with_reducible rfl)
  try simp only [Act.put, List.setIfInBounds_toArray, List.set_cons_zero, List.set_cons_succ]
  refine wpT_pureD (v := ?_) (some 12) rfl rfl (by rfl) (fun w' => ?_) ?_
  rotate_left
  · (go_simp; try with_reducible rfl)
  try simp only [Act.put, List.setIfInBounds_toArray, List.set_cons_zero, List.set_cons_succ]
  refine wpT_pureD (v := ?_) (some 13) rfl rfl (by rfl) (fun w' => ?_) ?_
  rotate_left
  · (go_simp; try with_reducible rfl)
  try simp only [Act.put, List.setIfInBounds_toArray, List.set_cons_zero, List.set_cons_succ]
  refine wpT_readD (v := ?_) (some 14) rfl rfl (by rfl) (fun w' hw => ?_) ?_
  rotate_left
  · (obtain q0 := hw; go_simp; try with_reducible rfl)
  try simp only [Act.put, List.setIfInBounds_toArray, List.set_cons_zero, List.set_cons_succ]
  refine wpT_pureD (v := ?_) (some 15) rfl rfl (by rfl) (fun w' => ?_) ?_
  rotate_left
  · (go_simp; try with_reducible rfl)
  try simp only [Act.put, List.setIfInBounds_toArray, List.set_cons_zero, List.set_cons_succ]
  refine wpT_pureD (v := ?_) (some 16) rfl rfl (by rfl) (fun w' => ?_) ?_
  rotate_left
  · (go_simp; try with_reducible rfl)
  try simp only [Act.put, List.setIfInBounds_toArray, List.set_cons_zero, List.set_cons_succ]
  refine wpT_pureD (v := ?_) (some 17) rfl rfl (by rfl) (fun w' => ?_) ?_
  rotate_left
  · (go_simp; try with_reducible rfl)
  try simp only [Act.put, List.setIfInBounds_toArray, List.set_cons_zero, List.set_cons_succ]
  refine wpT_pureD (v := ?_) (some 18) rfl rfl (by rfl) (fun w' => ?_) ?_
  rotate_left
  · (go_simp; try with_reducible rfl)
  try simp only [Act.put, List.setIfInBounds_toArray, List.set_cons_zero, List.set_cons_succ]
  refine wpT_readD (v := ?_) (some 19) rfl rfl (by rfl) (fun w' hw => ?_) ?_
  rotate_left
  · (obtain q0 := hw; go_simp; try with_reducible rfl)
  try simp only [Act.put, List.setIfInBounds_toArray, List.set_cons_zero, List.set_cons_succ]
  refine wpT_pureD (v := ?_) (some 20) rfl rfl (by rfl) (fun w' => ?_) ?_
  rotate_left
  · (go_simp; try with_reducible rfl)
  try simp only [Act.put, List.setIfInBounds_toArray, List.set_cons_zero, List.set_cons_succ]
  refine wpT_pureD (v := ?_) (some 21) rfl rfl (by rfl) (fun w' => ?_) ?_
  rotate_left
  · (go_simp; try with_reducible rfl)
  try simp only [Act.put, List.setIfInBounds_toArray, List.set_cons_zero, List.set_cons_succ]
  refine wpT_pureD (v := ?_) (some 22) rfl rfl (by rfl) (fun w' => ?_) ?_
  rotate_left
  · (go_simp; try with_reducible rfl)
  try simp only [Act.put, List.setIfInBounds_toArray, List.set_cons_zero, List.set_cons_succ]
  refine wpT_pureD (v := ?_) (some 23) rfl rfl (by rfl) (fun w' => ?_) ?_
  rotate_left
  · (go_simp; try with_reducible rfl)
  try simp only [Act.put, List.setIfInBounds_toArray, List.set_cons_zero, List.set_cons_succ]
  refine wpT_pureD (v := ?_) (some 24) rfl rfl (by rfl) (fun w' => ?_) ?_
  rotate_left
  · (go_simp; try with_reducible rfl)
  try simp only [Act.put, List.setIfInBounds_toArray, List.set_cons_zero, List.set_cons_succ]
  refine wpT_eff rfl (by rfl) (fun K hK => ?_)
  go_wp2_with fail
  refine hK _ _ (by go_simp; try with_reducible rfl) ?_
  clear hK K
  refine wpT_pureD (v := ?_) (some 25) rfl rfl (by rfl) (fun w' => ?_) ?_
  rotate_left
  · (go_simp; try with_reducible rfl)
  try simp only [Act.put, List.setIfInBounds_toArray, List.set_cons_zero, List.set_cons_succ]
  refine wpT_pureD (v := ?_) (some 26) rfl rfl (by rfl) (fun w' => ?_) ?_
  rotate_left
  · (go_simp; try with_reducible rfl)
  try simp only [Act.put, List.setIfInBounds_toArray, List.set_cons_zero, List.set_cons_succ]
  refine wpT_eff rfl (by rfl) (fun K hK => ?_)
  go_wp2_with fail
  refine hK _ _ (by go_simp; try with_reducible rfl) ?_
  clear hK K
  refine wpT_end ?_
  have hE : Wd ((w'.drew.setCell ⟨g, o + t * 35, none⟩ (.int .i64 s)).setCell ⟨g, o + t * 35 + 1, none⟩ (.int .u32 (c : Int))) b n (ups f t (endSta (f t) s c)) (t : Int) g o cap := by
    have h1 := HD.out.put t 0 (.int .i64 s) { f t with s := s } HLT.out (by omega) rfl
    rw [Nat.add_zero] at h1
    have h2 := h1.put t 1 (.int .u32 (c : Int)) (endSta (f t) s c) HLT.out (by omega) (by unfold ups; rw [if_pos rfl]; rfl)
    have e : ups (ups f t { f t with s := s }) t (endSta (f t) s c) = ups f t (endSta (f t) s c) := by
      funext k; unfold ups; split <;> rfl
    rw [e] at h2
    exact h2
  have HCE : Hid (Chg [b, g] w' ((w'.drew.setCell ⟨g, o + t * 35, none⟩ (.int .i64 s)).setCell ⟨g, o + t * 35 + 1, none⟩ (.int .u32 (c : Int)))) := Lib.hid (((chgE HC0.out (by simp)).setCell (Or.inl (by simp)) _).setCell (Or.inl (by simp)) _)
  have HP := Lib.hid (pass_in t hE HLT.out hn)
  clear hE
  go_wp2_with fail
  refine HP.out.mono ?_
  rintro e w3 ⟨rfl, t', hn', hw', hc'⟩
  go_wp2
  go_end0
  exact ⟨rfl, t', hn', hw', HCE.out.trans (chgE hc' (by simp))⟩
end Go.Proofs.L
