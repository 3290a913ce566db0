/- Proved here: lemmas and contracts (New) for the laws of this seat, for all values of the stated types; no further condition. -/
import Derived.Test.YtaoocfemgkjcnaaDoorWrite
open Go Go.RowKit Go.Lib
namespace Go.Proofs.L
attribute [local irreducible] wpT
theorem writeNil (pp : Option Addr) (k c : Nat) (w : World) : Calls Tryd.prog 10 #[.pointer none, .slice pp k c] w fun e w' => e = .returned (.tuple #[]) ∧ w' = w := by
  go_enter Tryd.func10, Tryd.ntmps10
  go_wp2
  exact bodyPost_ret (results_none rfl _ _ _) rfl ⟨rfl, rfl⟩
theorem a24 : aggT Tryd.prog 24 32 := aggT_of (by kernel_rfl)
theorem a44 : aggT Tryd.prog 44 73 := aggT_of (by kernel_rfl)
def h0L : List Nat := [1779033703, 3144134277, 1013904242, 2773480762, 1359893119, 2600822924, 528734635, 1541459225]
def s0 : St := ⟨h0L, List.replicate 64 0, 0⟩
theorem build44 (w : World) : Sem.run Tryd.prog (Instr.build 44 #[(0, .agg (natL .u32 h0L).toArray)]) w = .ok (.agg (natL .u32 h0L ++ hashT (List.replicate 64 0) 0).toArray) w := by kernel_rfl
theorem wpList_build44 {ops : Array Oper} {rest : List Oper} {o : Oper} {a : Act} {Q : Exit → Act → World → Prop} {w : World} (hg : o.guard = none) (x : Operand) (ho : o.op = .build 44 #[(0, x)]) (hx : a.eval x = .agg (natL .u32 h0L).toArray)
    (hr : wpList Tryd.prog ops Q rest (a.put o.dst (.agg (natL .u32 h0L ++ hashT (List.replicate 64 0) 0).toArray)) w) : wpList Tryd.prog ops Q (o :: rest) a w :=
  wpList_plain hg fun K hK => by
    obtain ⟨d, op, t, p, af, g⟩ := o
    simp only at ho hg
    subst ho hg
    unfold Oper.wp
    have e : Sem.run Tryd.prog (execOp a.eval { dst := d, op := .build 44 #[(0, x)], type := t, pos := p, after := af, guard := none }) w = .ok (.value (.agg (natL .u32 h0L ++ hashT (List.replicate 64 0) 0).toArray)) w := by
      simp only [execOp, List.map_toArray, List.map_cons, List.map_nil, hx]
      rw [Sem.run_bind, build44]
      rfl
    rw [e]
    exact hK _ _ hr
set_option maxRecDepth 100000 in
theorem new_any (w : World) : Calls Tryd.prog 9 #[] w fun e w' => e = .returned (.pointer (some ⟨w.heap.size, 0, none⟩)) ∧ Hs w' w.heap.size s0.h s0.p s0.n ∧ Chg [] w w' := by
  have HR : Hid (∀ w : World, (w.alloc (.cells (natL .u32 h0L ++ hashT (List.replicate 64 0) 0).toArray 44)).row? w.heap.size = some (natL .u32 h0L ++ hashT (List.replicate 64 0) 0).toArray) := Lib.hid fun w => row_alloc_at _ _ _ _ rfl
  go_enter Tryd.func9, Tryd.ntmps9
  go_wp2_with (refine wpList_build44 rfl _ rfl rfl ?_)
  go_ret
  refine ⟨rfl, ⟨HR.out w, rfl, by simp [s0], by decide, ?_, by decide⟩, (Chg.refl _ _).alloc _⟩
  intro x hx; rw [List.eq_of_mem_replicate hx]; decide
end Go.Proofs.L
