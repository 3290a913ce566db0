/- Proved here: lemmas and contracts (RootsDefs) for the laws of this seat, for all values of the stated types; no further condition. -/
import Derived.Test.YtaoocfemgkjcnaaDoorRefRoot
open Go Go.RowKit Go.Lib
namespace Go.Proofs.L
attribute [local irreducible] wpT
def primeB (p : Nat) : Bool := (List.range 18).all fun d => decide (d < 2) || decide (p < d * d) || decide (0 < p % d)
def primeTo (p d : Nat) : Bool := (List.range d).all fun c => decide (c < 2) || decide (0 < p % c)
def outAt (k p : Nat) : List Nat := ((List.range p).filter fun q => decide (2 ≤ q) && primeB q).map fun q => rootN q k
end Go.Proofs.L
