/- Proved here: lemmas and contracts (Nil) for the laws of this seat, for all values of the stated types; no further condition. -/
import Derived.Test.YteikhmabgnpljaaTakePo
open Go Go.RowKit Go.Lib Go.Conc
namespace Go.Proofs.L
theorem send_nil (i : Int) (l : Int × ByteArray) (w : World) : Calls Try.prog 8 #[.pointer none, .int .i64 i, letV l] w fun e w' => e = .returned (.int .i64 1) ∧ w' = letW w l := send_none l (box_nil i _)
theorem take_nil (i : Int) (w : World) : Calls Try.prog 9 #[.pointer none, .int .i64 i] w fun e w' => e = .returned (.tuple #[zV, .int .i64 1]) ∧ Chg [] w w' := take_none (box_nil i _)
theorem all_nil (i : Int) (w : World) : Calls Try.prog 13 #[.pointer none, .int .i64 i] w fun e w' => e = .returned (.slice none 0 0) ∧ w' = w := all_none (box_nil i w)
end Go.Proofs.L
