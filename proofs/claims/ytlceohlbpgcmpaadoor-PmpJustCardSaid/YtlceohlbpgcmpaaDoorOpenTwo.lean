/- Proved here: lemmas and contracts (OpenTwo) for the laws of this seat, for all values of the stated types; no further condition. -/
import Derived.Test.YtlceohlbpgcmpaaDoorGrantsWalk
import Derived.Test.YtlceohlbpgcmpaaDoorClose
open Go Go.RowKit Go.Lib Go.ChangeShapes Go.WideShapes
namespace Go.Proofs.L
theorem open_two {H : Type} {enc : TypeId × Value → H} {W : World} {base : Nat} {v : Value} {d : DataW H} {ps : List MemPlace} (hv : Value.okWide Tryd.prog W .any base 34 v) (h : DataW.Trod enc Tryd.prog W 0 (fun _ => true) true 34 v d ps) :
    ∃ h0 h1 : Int, v = .agg #[.int .i64 h0, .int .i64 h1] := by
  obtain ⟨l, rfl, hl, -⟩ := open_ints_arr Tryd.underlying34 Tryd.underlying3 (by kernel_rfl) (by kernel_rfl) hv h
  match l, hl with
  | [a, b], _ => exact ⟨a, b, rfl⟩
end Go.Proofs.L
