/- Proved here: lemmas and contracts (Fit) for the laws of this seat, for all values of the stated types; no further condition. -/
import Derived.Test.YteikhmabgnpljaaNil
open Go Go.RowKit Go.Lib Go.Conc
namespace Go.Proofs.L
theorem fit_ok (w : World) : Calls Try.prog 6 #[] w fun e w' => e = .returned (.bool true) ∧ Below w.heap.size w w' := by
  go_enter Try.func6, Try.ntmps6
  go_wp2_with fail
  refine (new_ok 2 (by omega) (by omega) _).mono ?_
  rintro e w1 ⟨rfl, v, C, hI⟩
  obtain ⟨g, cap, hP⟩ := hI.po (by omega) (by omega)
  have hCl : C.length = 2 := hI.len
  have H1 := Lib.hid (send_ok hP 1 (by omega) (0, ⟨#[120]⟩) (by decide) (by decide) (by simp))
  have HI := Lib.hid hI.below
  have HG : Hid (w.heap.size < C[1]) := Lib.hid (hI.box _ (List.getElem_mem (by omega))).2
  have HZ : Hid (w.heap.size < w1.heap.size) := Lib.hid (row_lt hI.row)
  clear hI hP
  go_wp2_with fail
  refine H1.out.mono ?_
  rintro e w2 ⟨rfl, hP2, hC2⟩
  have H2 := Lib.hid (count_in hP2 1 (by omega))
  have H3 := Lib.hid (take_ok hP2 1 (by omega) (0, ⟨#[120]⟩) [] (by simp))
  have HC2 := Lib.hid hC2
  clear hP2 hC2 H1
  go_wp2_with fail
  refine H2.out.mono ?_
  rintro e w3 ⟨rfl, rfl⟩
  simp only [List.getD_eq_getElem?_getD, List.replicate, List.set_cons_succ, List.set_cons_zero, List.getElem?_cons_succ, List.getElem?_cons_zero, Option.getD_some, List.nil_append, List.length_cons, List.length_nil]
  go_wp2_with fail
  refine H3.out.mono ?_
  rintro e w4 ⟨rfl, hP4, hC4⟩
  clear hP4
  have HC4 := Lib.hid hC4
  clear hC4 H2 H3
  unfold letV
  go_wp2
  go_ret
  have hg := HG.out
  have hz := HZ.out
  have z2 := HC2.out.size
  have z4 := HC4.out.size
  have b := (HI.out.trans (HC2.out.below (by simp; omega) (by omega))).trans (HC4.out.below (by simp; omega) (by omega))
  exact ⟨rfl, b.alloc (by omega) _⟩
end Go.Proofs.L
