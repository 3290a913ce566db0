/-
  No cell of these rows narrows 'for every input' (looked for: loops, veiled, ifaces, maps, wideKeys, modest, calm, conditions, laid).
  DERIVED. THE GIVEN ROWS OF THIS SEAT. 5 by the template 'for every input the law returns true; each argument reads behind the call as it read before'; 0 by the template 'total and deterministic' (their statements: YtjiiojbenbldlaaTotals.lean).
  GIVEN WITH THE SEED: the statements are not yours to turn. If you find one false, say at which input.
  Laid BY PROGRAM, IN A SANDBOX (cutbox-rows.mjs): the forced cells as the released guide's own fill.sh prints them over the translation 344ba43132c3d67b… (all of the seat's roots in one cut). By AI agents, Wed Nov 11 2026. No macro, syntax, notation, axiom, sorry.
-/
import Derived.Test.YtjiiojbenbldlaaChecked
import GoSem.Claim
import GoSem.ClaimJoined
import GoSem.ClaimMapViews
import Derived.JoinedTies
import Derived.KernelRfl
namespace Go.Proofs.Ytjiiojbenbldlaa
/- THE CELL 'sum', in the pinned program and in every row, IS THE sha256 OF THE DUMP (.gsa) THAT YtjiiojbenbldlaaProg.lean LOADS. Nothing in Lean hashes anything: it is a label: what it is worth is what the hold of that sum in a sandbox is worth. -/
noncomputable def Try.pinned : Pinned := { name := "ytjiiojbenbldlaa", sum := "344ba43132c3d67bde9a883f574b14dc6bf705e2ad5ebe9ab93a29fd1cc74a44", checked := Try.checked }
namespace Rows
def none {H : Type} : Left H := { results := [], args := [] }

/-- 'porticolaw13.RelocMeans': WHATEVER THE INPUT: true; the input reads as it did. -/
def relocMeansSpec : ChangeSpec := { name := "relocMeans", fn := fun _ => fun
  | [d] => { results := [.lit (.bool true)], args := [d] }
  | _ => none }
def relocMeansRow : OpenClaim := { program := "ytjiiojbenbldlaa", sum := "344ba43132c3d67bde9a883f574b14dc6bf705e2ad5ebe9ab93a29fd1cc74a44", func := "portico/porticolaw13.RelocMeans", spec := "relocMeans", unfollowed := true, recurses := true, apart := false }
def RelocMeansSaid : Prop := relocMeansRow.holds Try.pinned (OpenSpec.ofChange relocMeansSpec)

/-- ITS FALSE NEIGHBOUR: 'it returns false'. Refute it at one input. -/
def relocMeansWrong : ChangeSpec := { name := "relocMeans", fn := fun _ => fun
  | [d] => { results := [.lit (.bool false)], args := [d] }
  | _ => none }
def RelocMeansWrongFalsely : Prop := relocMeansRow.holds Try.pinned (OpenSpec.ofChange relocMeansWrong)

/-- 'porticolaw13.RelocPairs': WHATEVER THE INPUT: true; the input reads as it did. -/
def relocPairsSpec : ChangeSpec := { name := "relocPairs", fn := fun _ => fun
  | [d1, d2, d3] => { results := [.lit (.bool true)], args := [d1, d2, d3] }
  | _ => none }
def relocPairsRow : OpenClaim := { program := "ytjiiojbenbldlaa", sum := "344ba43132c3d67bde9a883f574b14dc6bf705e2ad5ebe9ab93a29fd1cc74a44", func := "portico/porticolaw13.RelocPairs", spec := "relocPairs", unfollowed := true, recurses := true, apart := false }
def RelocPairsSaid : Prop := relocPairsRow.holds Try.pinned (OpenSpec.ofChange relocPairsSpec)

/-- ITS FALSE NEIGHBOUR: 'it returns false'. Refute it at one input. -/
def relocPairsWrong : ChangeSpec := { name := "relocPairs", fn := fun _ => fun
  | [d1, d2, d3] => { results := [.lit (.bool false)], args := [d1, d2, d3] }
  | _ => none }
def RelocPairsWrongFalsely : Prop := relocPairsRow.holds Try.pinned (OpenSpec.ofChange relocPairsWrong)

/-- 'porticolaw13.RelocFar': WHATEVER THE INPUT: true; the input reads as it did. -/
def relocFarSpec : ChangeSpec := { name := "relocFar", fn := fun _ => fun
  | [d1, d2] => { results := [.lit (.bool true)], args := [d1, d2] }
  | _ => none }
def relocFarRow : OpenClaim := { program := "ytjiiojbenbldlaa", sum := "344ba43132c3d67bde9a883f574b14dc6bf705e2ad5ebe9ab93a29fd1cc74a44", func := "portico/porticolaw13.RelocFar", spec := "relocFar", unfollowed := true, recurses := true, apart := false }
def RelocFarSaid : Prop := relocFarRow.holds Try.pinned (OpenSpec.ofChange relocFarSpec)

/-- ITS FALSE NEIGHBOUR: 'it returns false'. Refute it at one input. -/
def relocFarWrong : ChangeSpec := { name := "relocFar", fn := fun _ => fun
  | [d1, d2] => { results := [.lit (.bool false)], args := [d1, d2] }
  | _ => none }
def RelocFarWrongFalsely : Prop := relocFarRow.holds Try.pinned (OpenSpec.ofChange relocFarWrong)

/-- 'porticolaw13.RelocUpper': WHATEVER THE INPUT: true; the input reads as it did. -/
def relocUpperSpec : ChangeSpec := { name := "relocUpper", fn := fun _ => fun
  | [d] => { results := [.lit (.bool true)], args := [d] }
  | _ => none }
def relocUpperRow : OpenClaim := { program := "ytjiiojbenbldlaa", sum := "344ba43132c3d67bde9a883f574b14dc6bf705e2ad5ebe9ab93a29fd1cc74a44", func := "portico/porticolaw13.RelocUpper", spec := "relocUpper", unfollowed := true, recurses := true, apart := false }
def RelocUpperSaid : Prop := relocUpperRow.holds Try.pinned (OpenSpec.ofChange relocUpperSpec)

/-- ITS FALSE NEIGHBOUR: 'it returns false'. Refute it at one input. -/
def relocUpperWrong : ChangeSpec := { name := "relocUpper", fn := fun _ => fun
  | [d] => { results := [.lit (.bool false)], args := [d] }
  | _ => none }
def RelocUpperWrongFalsely : Prop := relocUpperRow.holds Try.pinned (OpenSpec.ofChange relocUpperWrong)

/-- 'porticolaw13.RelocRuns': WHATEVER THE INPUT: true; the input reads as it did. -/
def relocRunsSpec : ChangeSpec := { name := "relocRuns", fn := fun _ => fun
  | [d] => { results := [.lit (.bool true)], args := [d] }
  | _ => none }
def relocRunsRow : OpenClaim := { program := "ytjiiojbenbldlaa", sum := "344ba43132c3d67bde9a883f574b14dc6bf705e2ad5ebe9ab93a29fd1cc74a44", func := "portico/porticolaw13.RelocRuns", spec := "relocRuns", unfollowed := true, recurses := true, apart := false }
def RelocRunsSaid : Prop := relocRunsRow.holds Try.pinned (OpenSpec.ofChange relocRunsSpec)

/-- ITS FALSE NEIGHBOUR: 'it returns false'. Refute it at one input. -/
def relocRunsWrong : ChangeSpec := { name := "relocRuns", fn := fun _ => fun
  | [d] => { results := [.lit (.bool false)], args := [d] }
  | _ => none }
def RelocRunsWrongFalsely : Prop := relocRunsRow.holds Try.pinned (OpenSpec.ofChange relocRunsWrong)

/- THE SECOND FORM. 'bulk': how many values and letters a reading holds, each counted each time it is reached (what is shared counts as often as it is met; a slice's spare places count too). A statement '..UptoSaid' is the law's where the arguments, and the package variables that the reading takes, are together of bulk at most 1048576: NARROWER than '..Said'. Prove '..Said' where nothing that the law and all that it calls make is longer than what came in: it says more and counts as full. Else prove '..UptoSaid'. A law counts once. -/
mutual
def uptoBulk {H : Type} : DataW H → Nat
  | .lit (.string bytes) => bytes.length + 1
  | .lit _ => 1
  | .nil => 1
  | .ptr d => uptoBulk d + 1
  | .slice elems spare => uptoBulkAll elems + uptoBulkAll spare + 1
  | .agg parts => uptoBulkAll parts + 1
  | .iface _ d => uptoBulk d + 1
  | .map entries => uptoBulkEntries entries + 1
  | .held _ => 1
def uptoBulkAll {H : Type} : List (DataW H) → Nat
  | [] => 0
  | d :: r => uptoBulk d + uptoBulkAll r
def uptoBulkEntries {H : Type} : List (Lit × DataW H) → Nat
  | [] => 0
  | x :: r => uptoBulkEntry x + uptoBulkEntries r
def uptoBulkEntry {H : Type} : Lit × DataW H → Nat
  | (.string bytes, d) => bytes.length + uptoBulk d + 1
  | (_, d) => uptoBulk d + 1
 end
def uptoSmall : (H : Type) → List (DataW H) → Bool := fun _ ds => decide (uptoBulkAll ds ≤ 1048576)
def OpenSpec.upto (s : _root_.Go.ChangeSpec) : _root_.Go.OpenSpec := { _root_.Go.OpenSpec.ofChange s with cond := some uptoSmall }

/-- 'porticolaw13.RelocMeans', WHERE WHAT IT READS IS OF BULK AT MOST 1048576: true; the input reads as it did. -/
def relocMeansUptoRow : OpenClaim := { program := "ytjiiojbenbldlaa", sum := "344ba43132c3d67bde9a883f574b14dc6bf705e2ad5ebe9ab93a29fd1cc74a44", func := "portico/porticolaw13.RelocMeans", spec := "relocMeans", unfollowed := true, recurses := true, apart := false, narrowed := true }
def RelocMeansUptoSaid : Prop := relocMeansUptoRow.holds Try.pinned (OpenSpec.upto relocMeansSpec)

/-- 'porticolaw13.RelocPairs', WHERE WHAT IT READS IS OF BULK AT MOST 1048576: true; the input reads as it did. -/
def relocPairsUptoRow : OpenClaim := { program := "ytjiiojbenbldlaa", sum := "344ba43132c3d67bde9a883f574b14dc6bf705e2ad5ebe9ab93a29fd1cc74a44", func := "portico/porticolaw13.RelocPairs", spec := "relocPairs", unfollowed := true, recurses := true, apart := false, narrowed := true }
def RelocPairsUptoSaid : Prop := relocPairsUptoRow.holds Try.pinned (OpenSpec.upto relocPairsSpec)

/-- 'porticolaw13.RelocFar', WHERE WHAT IT READS IS OF BULK AT MOST 1048576: true; the input reads as it did. -/
def relocFarUptoRow : OpenClaim := { program := "ytjiiojbenbldlaa", sum := "344ba43132c3d67bde9a883f574b14dc6bf705e2ad5ebe9ab93a29fd1cc74a44", func := "portico/porticolaw13.RelocFar", spec := "relocFar", unfollowed := true, recurses := true, apart := false, narrowed := true }
def RelocFarUptoSaid : Prop := relocFarUptoRow.holds Try.pinned (OpenSpec.upto relocFarSpec)

/-- 'porticolaw13.RelocUpper', WHERE WHAT IT READS IS OF BULK AT MOST 1048576: true; the input reads as it did. -/
def relocUpperUptoRow : OpenClaim := { program := "ytjiiojbenbldlaa", sum := "344ba43132c3d67bde9a883f574b14dc6bf705e2ad5ebe9ab93a29fd1cc74a44", func := "portico/porticolaw13.RelocUpper", spec := "relocUpper", unfollowed := true, recurses := true, apart := false, narrowed := true }
def RelocUpperUptoSaid : Prop := relocUpperUptoRow.holds Try.pinned (OpenSpec.upto relocUpperSpec)

/-- 'porticolaw13.RelocRuns', WHERE WHAT IT READS IS OF BULK AT MOST 1048576: true; the input reads as it did. -/
def relocRunsUptoRow : OpenClaim := { program := "ytjiiojbenbldlaa", sum := "344ba43132c3d67bde9a883f574b14dc6bf705e2ad5ebe9ab93a29fd1cc74a44", func := "portico/porticolaw13.RelocRuns", spec := "relocRuns", unfollowed := true, recurses := true, apart := false, narrowed := true }
def RelocRunsUptoSaid : Prop := relocRunsUptoRow.holds Try.pinned (OpenSpec.upto relocRunsSpec)

end Rows
end Go.Proofs.Ytjiiojbenbldlaa
