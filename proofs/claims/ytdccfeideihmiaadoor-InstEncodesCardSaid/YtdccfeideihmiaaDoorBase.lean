/- Proved here: lemmas and contracts (Base) for the laws of this seat, for all values of the stated types; no further condition. -/
import Derived.Test.YtdccfeideihmiaaDoorProg
import Derived.Test.YtdccfeideihmiaaDoorRows
import Derived.StillTailTactics
import Derived.Lib.Hide
import Derived.OwnWalk
import Derived.Deep.DeepCutAuto
import Derived.Deep.CutBlock
import Derived.ProofKit
import Derived.LaidMore
import Derived.OpenShut
import Derived.Stop.Joined
import Derived.Test.YtdccfeideihmiaaDoorRow
import Derived.Test.YtdccfeideihmiaaDoorRegT
import Derived.Test.YtdccfeideihmiaaDoorPart
open Go Go.RowKit Go.Lib Go.ChangeShapes Go.WideShapes Go.ChangeAt Go.WideMaps Go.WideElems
open Go.Proofs.YtdccfeideihmiaaDoor
namespace Go.Proofs.L
def codesL : List Nat := [0, 55, 23, 111, 103, 99, 4195, 16483, 20579, 24675, 28771, 3, 4099, 8195, 16387, 20483, 35, 4131, 8227, 19, 8211, 12307, 16403, 24595, 28691, 4115, 20499, 1073762323, 51, 1073741875, 4147, 8243, 12339, 16435, 20531, 1073762355, 24627, 28723, 33554483, 33558579, 33562675, 33566771, 33570867, 33574963, 33579059, 33583155, 15, 115, 1048691, 807403635, 273678451, 4211, 8307, 12403, 20595, 24691, 28787]
/-- what the listed variable gives the walks -/
def LaidOk (W : World) : Prop := ∀ (i c : Nat), codesL[i]? = some c → W.cell? ⟨0, i, none⟩ = some (.int .u32 (c : Int))
theorem gCodes : Tryd.prog.globalNamed "portico/inst.codes" = some 0 := by kernel_rfl
theorem tCodes : (Tryd.prog.globals[0]?).map (·.type) = some 58 := by kernel_rfl
theorem of_laid {W : World} (h : laidMetH Tryd.prog [("portico/inst.codes", Rows.laid_portico_inst_codes)] W) : LaidOk W := by
  rw [MakeChecks.laidMetH_plain _ _ _ (by kernel_rfl)] at h
  obtain ⟨ps, ⟨g0, t0, cs0, f0, p0, q0, hg0, ht0, hv0, hd0, _, _⟩, _, _⟩ := h
  obtain rfl := Option.some.inj (gCodes.symm.trans hg0)
  obtain rfl := Option.some.inj (tCodes.symm.trans ht0)
  obtain ⟨xs, m1, _, hx1, hlen, hn3, hel⟩ := DataW.trod_array Tryd.underlying58 hd0
  intro i c hc
  have hi : i < 57 := by
    have := (List.getElem?_eq_some_iff.1 hc).1
    exact Nat.lt_of_lt_of_le this (by decide)
  have h0 := hel i hi
  have h2 : xs[i]? = some (xs[i]'(by omega)) := by simp
  rw [h2] at h0
  obtain ⟨k, e1, e2, _⟩ := DataW.trod_int Tryd.underlying22 h0
  have c22 : Tryd.prog.cellsOf 22 = 1 := by kernel_rfl
  rw [c22, Nat.mul_one] at e1
  have hv := World.var?_cell gCodes hv0 i
  have e3 : cs0[i]? = some (.int .u32 k) := by
    have := congrArg (fun l => l[0]?) e1
    simp only [List.getElem?_take, List.getElem?_drop, Nat.zero_lt_one, if_true, Nat.add_zero, List.getElem?_cons_zero] at this
    rw [← this]; simp
  have e4 : (Rows.laid_portico_inst_codes : DataW Unit) = .agg (codesL.map fun (c : Nat) => .lit (.int .u32 (c : Int))) := rfl
  rw [e4] at hx1
  simp only [Prod.mk.injEq, DataW.agg.injEq] at hx1
  have e5 := congrArg (fun l => l[i]?) hx1.1
  simp only [List.getElem?_map, hc, h2, Option.map_some, e2, Option.some.injEq, DataW.lit.injEq, Lit.int.injEq, true_and] at e5
  rw [hv, e3, e5]
end Go.Proofs.L
