/- Proved here: lemmas and contracts (OpenInst) for the laws of this seat, for all values of the stated types; no further condition. -/
import Derived.Test.YtdccfeideihmiaaDoorEncodesWalk
import Derived.Test.YtdccfeideihmiaaDoorFlat
open Go Go.RowKit Go.Lib Go.ChangeShapes Go.WideShapes
namespace Go.Proofs.L
theorem flat26 : flat Tryd.prog 10 26 = some [3, 3, 3, 3, 22] := by kernel_rfl
theorem cells26 : Tryd.prog.cellsOf 26 = 5 := by kernel_rfl
theorem arr5 {α : Type} (cs : Array α) (h : cs.size = 5) {a b c d e : α} (h0 : cs.toList[0]? = some a) (h1 : cs.toList[1]? = some b) (h2 : cs.toList[2]? = some c) (h3 : cs.toList[3]? = some d) (h4 : cs.toList[4]? = some e) : cs = #[a, b, c, d, e] := by
  obtain ⟨l⟩ := cs
  simp only [List.size_toArray] at h
  match l, h with
  | [p, q, r, s, t], _ => simp_all
theorem open_inst {H : Type} {enc : TypeId × Value → H} {W : World} {base : Nat} {v : Value} {d : DataW H} {ps : List MemPlace}
    (hv : Value.okWide Tryd.prog W .any base 26 v) (h : DataW.Trod enc Tryd.prog W 0 (fun _ => true) true 26 v d ps) :
    ∃ (op rd rs1 rs2 : Int) (imm : Nat), v = .agg #[.int .i64 op, .int .i64 rd, .int .i64 rs1, .int .i64 rs2, .int .u32 (imm : Int)] ∧ imm < 4294967296 := by
  obtain ⟨cs, rfl, hs, hl⟩ := open_aggW Tryd.underlying26 flat26 cells26 hv h
  obtain ⟨_, _, u0, h0, t0⟩ := hl 0 3 rfl
  obtain ⟨_, _, u1, h1, t1⟩ := hl 1 3 rfl
  obtain ⟨_, _, u2, h2, t2⟩ := hl 2 3 rfl
  obtain ⟨_, _, u3, h3, t3⟩ := hl 3 3 rfl
  obtain ⟨_, _, u4, h4, t4⟩ := hl 4 22 rfl
  obtain ⟨x0, rfl, -⟩ := leaf_i64 Tryd.underlying3 t0
  obtain ⟨x1, rfl, -⟩ := leaf_i64 Tryd.underlying3 t1
  obtain ⟨x2, rfl, -⟩ := leaf_i64 Tryd.underlying3 t2
  obtain ⟨x3, rfl, -⟩ := leaf_i64 Tryd.underlying3 t3
  obtain ⟨x4, rfl, hx⟩ := leaf_u32 Tryd.underlying22 t4
  exact ⟨x0, x1, x2, x3, x4, by rw [arr5 cs hs h0 h1 h2 h3 h4], hx⟩
end Go.Proofs.L
