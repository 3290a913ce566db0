/- Proved here: lemmas and contracts (NoneWalk) for the laws of this seat, for all values of the stated types; no further condition. -/
import Derived.Test.YteikhmabgnpljaaFit
open Go Go.RowKit Go.Lib Go.Conc
namespace Go.Proofs.L
theorem alloc_row_self (w : World) (cs : Array Value) (t : Nat) : (w.alloc (.cells cs t)).row? w.heap.size = some cs := by
  exact row_alloc_at _ _ _ _ rfl
theorem none_calls (i : Int) (s : ByteArray) (w : World) : Calls Try.prog 5 #[.int .i64 i, .string s] w fun e w' => e = .returned (.bool true) ∧ Below w.heap.size w w' := by
  go_enter Try.func5, Try.ntmps5
  go_wp2_with fail
  refine (fit_ok _).mono ?_
  rintro e w1 ⟨rfl, hB⟩
  have HB := Lib.hid hB
  clear hB
  go_wp2_with fail
  refine (take_nil i _).mono ?_
  rintro e w2 ⟨rfl, hC⟩
  have HC := Lib.hid hC
  clear hC
  unfold zV
  go_wp2_with fail
  refine (send_nil i (0, s) _).mono ?_
  rintro e w3 ⟨rfl, hw⟩
  have hD := letW_chg (w2.alloc (Obj.cells #[Value.int IntKind.i64 0, Value.string { data := #[] }] 30)) (0, s)
  rw [← hw] at hD
  have hr := hD.row (b := w2.heap.size) (by simp) (by simp)
  rw [alloc_row_self] at hr
  have c0 := row_cell hr 0
  have c1 := row_cell hr 1
  have HD := Lib.hid hD
  clear hw hD hr
  go_wp2_with fail
  refine (all_nil i _).mono ?_
  rintro e w4 ⟨rfl, rfl⟩
  go_wp2_with fail
  refine (count_nil i _).mono ?_
  rintro e w4 ⟨rfl, rfl⟩
  go_wp2_with fail
  go_ret
  have c := (HC.out.alloc (.cells #[.int .i64 0, .string ⟨#[]⟩] 30)).trans HD.out
  exact ⟨rfl, HB.out.trans (c.below (by simp) HB.out.size)⟩
end Go.Proofs.L
