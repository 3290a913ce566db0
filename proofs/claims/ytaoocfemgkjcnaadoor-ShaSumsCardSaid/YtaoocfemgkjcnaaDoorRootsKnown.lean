/- Proved here: lemmas and contracts (RootsKnown) for the laws of this seat, for all values of the stated types; no further condition. -/
import Derived.Test.YtaoocfemgkjcnaaDoorRootsDefs
open Go Go.RowKit Go.Lib
namespace Go.Proofs.L
theorem outAt_adds : outAt 3 312 = addsL := by decide +kernel
theorem outAt_h0 : outAt 2 20 = h0L := by decide +kernel
end Go.Proofs.L
