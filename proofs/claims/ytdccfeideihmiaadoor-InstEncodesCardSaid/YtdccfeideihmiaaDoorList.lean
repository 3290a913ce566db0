/- Proved here: lemmas and contracts (List) for the laws of this seat, for all values of the stated types; no further condition. -/
import Derived.Test.YtdccfeideihmiaaDoorForm
open Go Go.RowKit Go.Lib
namespace Go.Proofs.L
/-- the operations: the letter of the form (0: none), the word -/
def opsL : List (Nat × Nat) := [(0, 0), (85, 55), (85, 23), (74, 111), (73, 103), (66, 99), (66, 4195), (66, 16483), (66, 20579), (66, 24675), (66, 28771), (73, 3), (73, 4099), (73, 8195), (73, 16387), (73, 20483), (83, 35), (83, 4131), (83, 8227), (73, 19), (73, 8211), (73, 12307), (73, 16403), (73, 24595), (73, 28691), (84, 4115), (84, 20499), (84, 1073762323), (82, 51), (82, 1073741875), (82, 4147), (82, 8243), (82, 12339), (82, 16435), (82, 20531), (82, 1073762355), (82, 24627), (82, 28723), (82, 33554483), (82, 33558579), (82, 33562675), (82, 33566771), (82, 33570867), (82, 33574963), (82, 33579059), (82, 33583155), (70, 15), (78, 115), (78, 1048691), (78, 807403635), (78, 273678451), (67, 4211), (67, 8307), (67, 12403), (90, 20595), (90, 24691), (90, 28787)]
def strB (c : Nat) : ByteArray := if c = 0 then ⟨#[]⟩ else ⟨#[UInt8.ofNat c]⟩
def listA : List Value := opsL.flatMap fun p => [.string (strB p.1), .int .i64 (p.2 : Int)]
set_option maxRecDepth 100000 in
set_option maxHeartbeats 3200000 in
theorem list_any (w : World) : Calls Tryd.prog 14 #[] w fun e w' => e = .returned (.slice (some ⟨w.heap.size, 0, none⟩) 57 57) ∧ w'.row? w.heap.size = some listA.toArray ∧ Chg [] w w' := by
  go_enter Tryd.func14, Tryd.ntmps14
  go_wp2
  go_ret
  exact ⟨rfl, row_alloc_at _ _ _ _ rfl, (Chg.refl _ _).alloc _⟩
end Go.Proofs.L
