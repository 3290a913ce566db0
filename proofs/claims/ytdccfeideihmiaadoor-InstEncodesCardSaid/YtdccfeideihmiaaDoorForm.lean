/- Proved here: lemmas and contracts (Form) for the laws of this seat, for all values of the stated types; no further condition. -/
import Derived.Test.YtdccfeideihmiaaDoorDecode
open Go Go.RowKit Go.Lib
namespace Go.Proofs.L
def formN (op : Int) : Int :=
  if op = 1 ∨ op = 2 then 0 else if op = 3 then 1 else if op = 4 ∨ (11 ≤ op ∧ op ≤ 15) ∨ (19 ≤ op ∧ op ≤ 24) then 2 else if 5 ≤ op ∧ op ≤ 10 then 3 else if 16 ≤ op ∧ op ≤ 18 then 4
  else if 25 ≤ op ∧ op ≤ 27 then 6 else if 28 ≤ op ∧ op ≤ 45 then 5 else if 46 ≤ op ∧ op ≤ 50 then 7 else if 51 ≤ op ∧ op ≤ 53 then 8 else if 54 ≤ op ∧ op ≤ 56 then 9 else -1
set_option maxHeartbeats 2000000 in
theorem form_any (op : Int) (w : World) : Calls Tryd.prog 15 #[.int .i64 op] w fun e w' => e = .returned (.int .i64 (formN op)) ∧ w' = w := by
  obtain ⟨K, hK⟩ : ∃ K, K = formN op := ⟨_, rfl⟩
  rw [← hK]
  have HK := Lib.hid hK
  clear hK
  go_enter Tryd.func15, Tryd.ntmps15
  go_wp2
  all_goals (go_ret; refine ⟨ret_i ?_, rfl⟩; rw [HK.out]; unfold formN)
  all_goals (clear HK; (try simp only [beq_iff_eq, beq_eq_false_iff_ne, ne_eq] at *); first | decide | omega | ((repeat' split) <;> omega))
end Go.Proofs.L
