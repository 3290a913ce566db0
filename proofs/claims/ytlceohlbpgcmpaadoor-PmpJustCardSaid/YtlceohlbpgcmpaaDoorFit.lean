/- Proved here: lemmas and contracts (Fit) for the laws of this seat, for all values of the stated types; no further condition. -/
import Derived.Test.YtlceohlbpgcmpaaDoorPlan
open Go Go.RowKit Go.Lib
namespace Go.Proofs.L
attribute [local irreducible] wpT
theorem flatE_get (L : List Ent) (j : Nat) (e : Ent) (h : L[j]? = some e) (i : Nat) (hi : i < 3) : (flatE L)[j * 3 + i]? = (Ent.L e)[i]? := by
  unfold flatE
  induction L generalizing j with
  | nil => simp at h
  | cons a l ih =>
    rw [List.flatMap_cons]
    cases j with
    | zero =>
      simp at h
      subst h
      rw [Nat.zero_mul, Nat.zero_add, List.getElem?_append_left (by simp [Ent.L]; omega)]
    | succ j =>
      simp at h
      have hl : (Ent.L a).length = 3 := rfl
      rw [List.getElem?_append_right (by rw [hl]; omega), hl, show (j + 1) * 3 + i - 3 = j * 3 + i by omega]
      exact ih j h
theorem ents_own {w : World} {base m : Nat} {v : Value} {L : List Ent} (h : w.ownsRow base 32 3 v m (flatE L)) (h0 : 0 < m) (hl : ∀ e ∈ L, e.addr < 4294967296) :
    ∃ g cap, v = .slice (some ⟨g, 0, none⟩) m cap ∧ base ≤ g ∧ EntsAt w g 0 L := by
  obtain ⟨p, cap, rfl, hp⟩ := own_form h
  obtain ⟨g, rfl, hb⟩ := hp h0
  refine ⟨g, cap, rfl, (h.lt g hb).1, fun j e he => ?_⟩
  have hc := fun i u hu => cellsAt h hb (j * 3 + i) u hu
  refine ⟨?_, ?_, ?_, hl e (List.mem_of_getElem? he)⟩
  · have := hc 0 (.int .i64 e.way) (by rw [flatE_get L j e he 0 (by omega)]; rfl)
    rw [Nat.zero_add]; exact this
  · have := hc 1 (.int .i64 e.rights) (by rw [flatE_get L j e he 1 (by omega)]; rfl)
    rw [Nat.zero_add]; exact this
  · have := hc 2 (.int .u32 (e.addr : Int)) (by rw [flatE_get L j e he 2 (by omega)]; rfl)
    rw [Nat.zero_add]; exact this
def fitG : List Gr := [⟨2147487744, 4096, 5⟩]
def fitE : List Ent := [⟨3, 5, 536872447⟩, ⟨3, 0, 536870911⟩]
set_option maxRecDepth 100000 in
theorem fit_out : outN fitG = fitE := by decide +kernel
set_option maxRecDepth 100000 in
theorem fit_c1 : checkN fitE 2147487744 (2147487744 + 4) 4 = true := by decide +kernel
set_option maxRecDepth 100000 in
theorem fit_c2 : checkN fitE 2147487742 (2147487742 + 4) 1 = false := by decide +kernel
theorem EntsAt.keep {w w' : World} {b o : Nat} {L : List Ent} (h : EntsAt w b o L) (hc : Chg [] w w') : EntsAt w' b o L := fun j g hg => by
  obtain ⟨a0, a1, a2, l0⟩ := h j g hg
  have hb : b < w.heap.size := World.block_lt_of_cell? w _ a0
  have e : ∀ i, w'.cell? ⟨b, i, none⟩ = w.cell? ⟨b, i, none⟩ := fun i => World.cell?_of_block (hc.block b hb (by simp))
  exact ⟨by rw [e]; exact a0, by rw [e]; exact a1, by rw [e]; exact a2, l0⟩
set_option maxRecDepth 100000 in
set_option maxHeartbeats 800000 in
theorem fit_ok (w : World) (h : LaidOk w) : Calls Tryd.prog 8 #[] w fun e w' => e = .returned (.bool true) ∧ Chg [] w w' := by
  have H := Lib.hid h
  obtain ⟨B, hB⟩ : ∃ B, B = w.heap.size := ⟨_, rfl⟩
  obtain ⟨V, hV⟩ : ∃ V, V = w.alloc (.cells #[.int .u32 2147487744, .int .u32 4096, .int .i64 5] 36) := ⟨_, rfl⟩
  have hcV : Chg [] w V := by rw [hV]; exact (Chg.refl _ _).alloc _
  have rb : V.row? B = some #[.int .u32 2147487744, .int .u32 4096, .int .i64 5] := by rw [hV]; exact row_alloc_at _ _ _ _ hB
  have hG : GrsAt V B 0 fitG := fun j g hg => by
    match j, hg with
    | 0, hg =>
      simp [fitG] at hg
      subst hg
      exact ⟨by rw [row_cell rb]; rfl, by rw [row_cell rb]; rfl, by rw [row_cell rb]; rfl, by decide, by decide⟩
    | j + 1, hg => simp [fitG] at hg
  have HPL := Lib.hid (plan_any (p := some ⟨B, 0, none⟩) (c := 1) hG (show fitG.length = 1 from rfl) (fun _ => rfl) (by omega))
  have HCV := Lib.hid hcV
  have HB := Lib.hid hB
  have HV := Lib.hid hV
  clear h hcV rb hG hB hV
  go_enter Tryd.func8, Tryd.ntmps8
  go_wp2_with fail
  rw [← HB.out, ← HV.out]
  refine HPL.out.mono ?_
  rintro e w1 ⟨hc1, hq⟩
  rcases hq with ⟨hno, _⟩ | ⟨_, hno, _⟩ | ⟨_, _, v, rfl, hown⟩
  · exact absurd hno (by decide)
  · rw [fit_out] at hno; exact absurd hno (by decide)
  rw [fit_out] at hown
  obtain ⟨g, cap, rfl, _, hE⟩ := ents_own hown (by decide) (by decide)
  have HC1 := Lib.hid (HCV.out.trans hc1)
  have HE := Lib.hid hE
  obtain ⟨c0, c1, c2, _⟩ := hE 0 ⟨3, 5, 536872447⟩ rfl
  have hck := fun (x r : Nat) (hx : x < 4294967296) => check_any (w := w1) (c := cap) HE.out (show fitE.length = 2 from rfl) (by omega) (H.out.keep HC1.out) x 4 r hx (by omega) (by omega)
  have k1 := hck 2147487744 4 (by decide)
  have k2 := hck 2147487742 1 (by decide)
  rw [show ((4 : Nat) : Int) = 4 from rfl, fit_c1] at k1
  rw [show ((1 : Nat) : Int) = 1 from rfl, fit_c2] at k2
  have K1 := Lib.hid k1
  have K2 := Lib.hid k2
  rw [show fitE.length = 2 from rfl]
  simp only [] at c0 c1 c2
  clear hc1 hown hE hck k1 k2
  go_wp2_with fail
  refine K1.out.mono ?_
  rintro e w' ⟨rfl, rfl⟩
  go_wp2_with fail
  refine K2.out.mono ?_
  rintro e w' ⟨rfl, rfl⟩
  go_wp2
  go_ret
  exact ⟨rfl, HC1.out⟩
end Go.Proofs.L
