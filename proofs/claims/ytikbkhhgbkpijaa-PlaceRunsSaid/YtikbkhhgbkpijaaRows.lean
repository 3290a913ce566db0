/-
  No cell of these rows narrows 'for every input' (looked for: loops, veiled, ifaces, maps, wideKeys, modest, calm, conditions, laid).
  DERIVED. THE GIVEN ROWS OF THIS SEAT. 4 by the template 'for every input the law returns true; each argument reads behind the call as it read before'; 0 by the template 'total and deterministic' (their statements: YtikbkhhgbkpijaaTotals.lean).
  GIVEN WITH THE SEED: the statements are not yours to turn. If you find one false, say at which input.
  Laid BY PROGRAM, IN A SANDBOX (cutbox-rows.mjs): the forced cells as the released guide's own fill.sh prints them over the translation 5e11195913bb8049… (all of the seat's roots in one cut). By AI agents, Wed Nov 11 2026. No macro, syntax, notation, axiom, sorry.
-/
import Derived.Test.YtikbkhhgbkpijaaChecked
import GoSem.Claim
import GoSem.ClaimJoined
import GoSem.ClaimMapViews
import Derived.JoinedTies
import Derived.KernelRfl
namespace Go.Proofs.Ytikbkhhgbkpijaa
/- THE CELL 'sum', in the pinned program and in every row, IS THE sha256 OF THE DUMP (.gsa) THAT YtikbkhhgbkpijaaProg.lean LOADS. Nothing in Lean hashes anything: it is a label: what it is worth is what the hold of that sum in a sandbox is worth. -/
noncomputable def Try.pinned : Pinned := { name := "ytikbkhhgbkpijaa", sum := "5e11195913bb80495a3d08862dc45fb367d68679654b5a45033fc1ee3cd1b3d4", checked := Try.checked }
namespace Rows
def none {H : Type} : Left H := { results := [], args := [] }

/-- 'porticolaw10.PlaceWords': WHATEVER THE INPUT: true; the input reads as it did. -/
def placeWordsSpec : ChangeSpec := { name := "placeWords", fn := fun _ => fun
  | [d1, d2, d3] => { results := [.lit (.bool true)], args := [d1, d2, d3] }
  | _ => none }
def placeWordsRow : OpenClaim := { program := "ytikbkhhgbkpijaa", sum := "5e11195913bb80495a3d08862dc45fb367d68679654b5a45033fc1ee3cd1b3d4", func := "portico/porticolaw10.PlaceWords", spec := "placeWords", apart := false }
def PlaceWordsSaid : Prop := placeWordsRow.holds Try.pinned (OpenSpec.ofChange placeWordsSpec)

/-- ITS FALSE NEIGHBOUR: 'it returns false'. Refute it at one input. -/
def placeWordsWrong : ChangeSpec := { name := "placeWords", fn := fun _ => fun
  | [d1, d2, d3] => { results := [.lit (.bool false)], args := [d1, d2, d3] }
  | _ => none }
def PlaceWordsWrongFalsely : Prop := placeWordsRow.holds Try.pinned (OpenSpec.ofChange placeWordsWrong)

/-- 'porticolaw10.PlaceRuns': WHATEVER THE INPUT: true; the input reads as it did. -/
def placeRunsSpec : ChangeSpec := { name := "placeRuns", fn := fun _ => fun
  | [d] => { results := [.lit (.bool true)], args := [d] }
  | _ => none }
def placeRunsRow : OpenClaim := { program := "ytikbkhhgbkpijaa", sum := "5e11195913bb80495a3d08862dc45fb367d68679654b5a45033fc1ee3cd1b3d4", func := "portico/porticolaw10.PlaceRuns", spec := "placeRuns", apart := false }
def PlaceRunsSaid : Prop := placeRunsRow.holds Try.pinned (OpenSpec.ofChange placeRunsSpec)

/-- ITS FALSE NEIGHBOUR: 'it returns false'. Refute it at one input. -/
def placeRunsWrong : ChangeSpec := { name := "placeRuns", fn := fun _ => fun
  | [d] => { results := [.lit (.bool false)], args := [d] }
  | _ => none }
def PlaceRunsWrongFalsely : Prop := placeRunsRow.holds Try.pinned (OpenSpec.ofChange placeRunsWrong)

/-- 'porticolaw10.PlaceNone': WHATEVER THE INPUT: true; the input reads as it did. -/
def placeNoneSpec : ChangeSpec := { name := "placeNone", fn := fun _ => fun
  | [d1, d2, d3] => { results := [.lit (.bool true)], args := [d1, d2, d3] }
  | _ => none }
def placeNoneRow : OpenClaim := { program := "ytikbkhhgbkpijaa", sum := "5e11195913bb80495a3d08862dc45fb367d68679654b5a45033fc1ee3cd1b3d4", func := "portico/porticolaw10.PlaceNone", spec := "placeNone", apart := false }
def PlaceNoneSaid : Prop := placeNoneRow.holds Try.pinned (OpenSpec.ofChange placeNoneSpec)

/-- ITS FALSE NEIGHBOUR: 'it returns false'. Refute it at one input. -/
def placeNoneWrong : ChangeSpec := { name := "placeNone", fn := fun _ => fun
  | [d1, d2, d3] => { results := [.lit (.bool false)], args := [d1, d2, d3] }
  | _ => none }
def PlaceNoneWrongFalsely : Prop := placeNoneRow.holds Try.pinned (OpenSpec.ofChange placeNoneWrong)

/-- 'porticolaw10.PlaceLoads': WHATEVER THE INPUT: true; the input reads as it did. -/
def placeLoadsSpec : ChangeSpec := { name := "placeLoads", fn := fun _ => fun
  | [d1, d2, d3] => { results := [.lit (.bool true)], args := [d1, d2, d3] }
  | _ => none }
def placeLoadsRow : OpenClaim := { program := "ytikbkhhgbkpijaa", sum := "5e11195913bb80495a3d08862dc45fb367d68679654b5a45033fc1ee3cd1b3d4", func := "portico/porticolaw10.PlaceLoads", spec := "placeLoads", apart := false }
def PlaceLoadsSaid : Prop := placeLoadsRow.holds Try.pinned (OpenSpec.ofChange placeLoadsSpec)

/-- ITS FALSE NEIGHBOUR: 'it returns false'. Refute it at one input. -/
def placeLoadsWrong : ChangeSpec := { name := "placeLoads", fn := fun _ => fun
  | [d1, d2, d3] => { results := [.lit (.bool false)], args := [d1, d2, d3] }
  | _ => none }
def PlaceLoadsWrongFalsely : Prop := placeLoadsRow.holds Try.pinned (OpenSpec.ofChange placeLoadsWrong)

/- THE SECOND FORM. 'bulk': how many values and letters a reading holds, each counted each time it is reached (what is shared counts as often as it is met; a slice's spare places count too). A statement '..UptoSaid' is the law's where the arguments, and the package variables that the reading takes, are together of bulk at most 1048576: NARROWER than '..Said'. Prove '..Said' where nothing that the law and all that it calls make is longer than what came in: it says more and counts as full. Else prove '..UptoSaid'. A law counts once. -/
mutual
def uptoBulk {H : Type} : DataW H → Nat
  | .lit (.string bytes) => bytes.length + 1
  | .lit _ => 1
  | .nil => 1
  | .ptr d => uptoBulk d + 1
  | .slice elems spare => uptoBulkAll elems + uptoBulkAll spare + 1
  | .agg parts => uptoBulkAll parts + 1
  | .iface _ d => uptoBulk d + 1
  | .map entries => uptoBulkEntries entries + 1
  | .held _ => 1
def uptoBulkAll {H : Type} : List (DataW H) → Nat
  | [] => 0
  | d :: r => uptoBulk d + uptoBulkAll r
def uptoBulkEntries {H : Type} : List (Lit × DataW H) → Nat
  | [] => 0
  | x :: r => uptoBulkEntry x + uptoBulkEntries r
def uptoBulkEntry {H : Type} : Lit × DataW H → Nat
  | (.string bytes, d) => bytes.length + uptoBulk d + 1
  | (_, d) => uptoBulk d + 1
 end
def uptoSmall : (H : Type) → List (DataW H) → Bool := fun _ ds => decide (uptoBulkAll ds ≤ 1048576)
def OpenSpec.upto (s : _root_.Go.ChangeSpec) : _root_.Go.OpenSpec := { _root_.Go.OpenSpec.ofChange s with cond := some uptoSmall }

/-- 'porticolaw10.PlaceWords', WHERE WHAT IT READS IS OF BULK AT MOST 1048576: true; the input reads as it did. -/
def placeWordsUptoRow : OpenClaim := { program := "ytikbkhhgbkpijaa", sum := "5e11195913bb80495a3d08862dc45fb367d68679654b5a45033fc1ee3cd1b3d4", func := "portico/porticolaw10.PlaceWords", spec := "placeWords", apart := false, narrowed := true }
def PlaceWordsUptoSaid : Prop := placeWordsUptoRow.holds Try.pinned (OpenSpec.upto placeWordsSpec)

/-- 'porticolaw10.PlaceRuns', WHERE WHAT IT READS IS OF BULK AT MOST 1048576: true; the input reads as it did. -/
def placeRunsUptoRow : OpenClaim := { program := "ytikbkhhgbkpijaa", sum := "5e11195913bb80495a3d08862dc45fb367d68679654b5a45033fc1ee3cd1b3d4", func := "portico/porticolaw10.PlaceRuns", spec := "placeRuns", apart := false, narrowed := true }
def PlaceRunsUptoSaid : Prop := placeRunsUptoRow.holds Try.pinned (OpenSpec.upto placeRunsSpec)

/-- 'porticolaw10.PlaceNone', WHERE WHAT IT READS IS OF BULK AT MOST 1048576: true; the input reads as it did. -/
def placeNoneUptoRow : OpenClaim := { program := "ytikbkhhgbkpijaa", sum := "5e11195913bb80495a3d08862dc45fb367d68679654b5a45033fc1ee3cd1b3d4", func := "portico/porticolaw10.PlaceNone", spec := "placeNone", apart := false, narrowed := true }
def PlaceNoneUptoSaid : Prop := placeNoneUptoRow.holds Try.pinned (OpenSpec.upto placeNoneSpec)

/-- 'porticolaw10.PlaceLoads', WHERE WHAT IT READS IS OF BULK AT MOST 1048576: true; the input reads as it did. -/
def placeLoadsUptoRow : OpenClaim := { program := "ytikbkhhgbkpijaa", sum := "5e11195913bb80495a3d08862dc45fb367d68679654b5a45033fc1ee3cd1b3d4", func := "portico/porticolaw10.PlaceLoads", spec := "placeLoads", apart := false, narrowed := true }
def PlaceLoadsUptoSaid : Prop := placeLoadsUptoRow.holds Try.pinned (OpenSpec.upto placeLoadsSpec)

end Rows
end Go.Proofs.Ytikbkhhgbkpijaa
