/-
  No cell of these rows narrows 'for every input' (looked for: loops, veiled, ifaces, maps, wideKeys, modest, calm, conditions, laid).
  DERIVED. THE GIVEN ROWS OF THIS SEAT. 3 by the template 'for every input the law returns true; each argument reads behind the call as it read before'; 0 by the template 'total and deterministic' (their statements: YteikhmabgnpljaaTotals.lean).
  GIVEN WITH THE SEED: the statements are not yours to turn. If you find one false, say at which input.
  Laid BY PROGRAM, IN A SANDBOX (cutbox-rows.mjs): the forced cells as the released guide's own fill.sh prints them over the translation 39c84e5b5e4268e0… (all of the seat's roots in one cut). By AI agents, Wed Nov 11 2026. No macro, syntax, notation, axiom, sorry.
-/
import Derived.Test.YteikhmabgnpljaaChecked
import GoSem.Claim
import GoSem.ClaimJoined
import GoSem.ClaimMapViews
import Derived.JoinedTies
import Derived.KernelRfl
namespace Go.Proofs.Yteikhmabgnpljaa
/- THE CELL 'sum', in the pinned program and in every row, IS THE sha256 OF THE DUMP (.gsa) THAT YteikhmabgnpljaaProg.lean LOADS. Nothing in Lean hashes anything: it is a label: what it is worth is what the hold of that sum in a sandbox is worth. -/
noncomputable def Try.pinned : Pinned := { name := "yteikhmabgnpljaa", sum := "39c84e5b5e4268e0cb3f530e07f8ffaf191542b2449c405997fde680d90844f4", checked := Try.checked }
namespace Rows
def none {H : Type} : Left H := { results := [], args := [] }

/-- 'porticolaw22.PostOrder': WHATEVER THE INPUT: true; the input reads as it did. -/
def postOrderSpec : ChangeSpec := { name := "postOrder", fn := fun _ => fun
  | [d1, d2] => { results := [.lit (.bool true)], args := [d1, d2] }
  | _ => none }
def postOrderRow : OpenClaim := { program := "yteikhmabgnpljaa", sum := "39c84e5b5e4268e0cb3f530e07f8ffaf191542b2449c405997fde680d90844f4", func := "portico/porticolaw22.PostOrder", spec := "postOrder", apart := false }
def PostOrderSaid : Prop := postOrderRow.holds Try.pinned (OpenSpec.ofChange postOrderSpec)

/-- ITS FALSE NEIGHBOUR: 'it returns false'. Refute it at one input. -/
def postOrderWrong : ChangeSpec := { name := "postOrder", fn := fun _ => fun
  | [d1, d2] => { results := [.lit (.bool false)], args := [d1, d2] }
  | _ => none }
def PostOrderWrongFalsely : Prop := postOrderRow.holds Try.pinned (OpenSpec.ofChange postOrderWrong)

/-- 'porticolaw22.PostRuns': WHATEVER THE INPUT: true; the input reads as it did. -/
def postRunsSpec : ChangeSpec := { name := "postRuns", fn := fun _ => fun
  | [d1, d2] => { results := [.lit (.bool true)], args := [d1, d2] }
  | _ => none }
def postRunsRow : OpenClaim := { program := "yteikhmabgnpljaa", sum := "39c84e5b5e4268e0cb3f530e07f8ffaf191542b2449c405997fde680d90844f4", func := "portico/porticolaw22.PostRuns", spec := "postRuns", apart := false }
def PostRunsSaid : Prop := postRunsRow.holds Try.pinned (OpenSpec.ofChange postRunsSpec)

/-- ITS FALSE NEIGHBOUR: 'it returns false'. Refute it at one input. -/
def postRunsWrong : ChangeSpec := { name := "postRuns", fn := fun _ => fun
  | [d1, d2] => { results := [.lit (.bool false)], args := [d1, d2] }
  | _ => none }
def PostRunsWrongFalsely : Prop := postRunsRow.holds Try.pinned (OpenSpec.ofChange postRunsWrong)

/-- 'porticolaw22.PostNone': WHATEVER THE INPUT: true; the input reads as it did. -/
def postNoneSpec : ChangeSpec := { name := "postNone", fn := fun _ => fun
  | [d1, d2] => { results := [.lit (.bool true)], args := [d1, d2] }
  | _ => none }
def postNoneRow : OpenClaim := { program := "yteikhmabgnpljaa", sum := "39c84e5b5e4268e0cb3f530e07f8ffaf191542b2449c405997fde680d90844f4", func := "portico/porticolaw22.PostNone", spec := "postNone", apart := false }
def PostNoneSaid : Prop := postNoneRow.holds Try.pinned (OpenSpec.ofChange postNoneSpec)

/-- ITS FALSE NEIGHBOUR: 'it returns false'. Refute it at one input. -/
def postNoneWrong : ChangeSpec := { name := "postNone", fn := fun _ => fun
  | [d1, d2] => { results := [.lit (.bool false)], args := [d1, d2] }
  | _ => none }
def PostNoneWrongFalsely : Prop := postNoneRow.holds Try.pinned (OpenSpec.ofChange postNoneWrong)

/- THE SECOND FORM. 'bulk': how many values and letters a reading holds, each counted each time it is reached (what is shared counts as often as it is met; a slice's spare places count too). A statement '..UptoSaid' is the law's where the arguments, and the package variables that the reading takes, are together of bulk at most 1048576: NARROWER than '..Said'. Prove '..Said' where nothing that the law and all that it calls make is longer than what came in: it says more and counts as full. Else prove '..UptoSaid'. A law counts once. -/
mutual
def uptoBulk {H : Type} : DataW H → Nat
  | .lit (.string bytes) => bytes.length + 1
  | .lit _ => 1
  | .nil => 1
  | .ptr d => uptoBulk d + 1
  | .slice elems spare => uptoBulkAll elems + uptoBulkAll spare + 1
  | .agg parts => uptoBulkAll parts + 1
  | .iface _ d => uptoBulk d + 1
  | .map entries => uptoBulkEntries entries + 1
  | .held _ => 1
def uptoBulkAll {H : Type} : List (DataW H) → Nat
  | [] => 0
  | d :: r => uptoBulk d + uptoBulkAll r
def uptoBulkEntries {H : Type} : List (Lit × DataW H) → Nat
  | [] => 0
  | x :: r => uptoBulkEntry x + uptoBulkEntries r
def uptoBulkEntry {H : Type} : Lit × DataW H → Nat
  | (.string bytes, d) => bytes.length + uptoBulk d + 1
  | (_, d) => uptoBulk d + 1
 end
def uptoSmall : (H : Type) → List (DataW H) → Bool := fun _ ds => decide (uptoBulkAll ds ≤ 1048576)
def OpenSpec.upto (s : _root_.Go.ChangeSpec) : _root_.Go.OpenSpec := { _root_.Go.OpenSpec.ofChange s with cond := some uptoSmall }

/-- 'porticolaw22.PostOrder', WHERE WHAT IT READS IS OF BULK AT MOST 1048576: true; the input reads as it did. -/
def postOrderUptoRow : OpenClaim := { program := "yteikhmabgnpljaa", sum := "39c84e5b5e4268e0cb3f530e07f8ffaf191542b2449c405997fde680d90844f4", func := "portico/porticolaw22.PostOrder", spec := "postOrder", apart := false, narrowed := true }
def PostOrderUptoSaid : Prop := postOrderUptoRow.holds Try.pinned (OpenSpec.upto postOrderSpec)

/-- 'porticolaw22.PostRuns', WHERE WHAT IT READS IS OF BULK AT MOST 1048576: true; the input reads as it did. -/
def postRunsUptoRow : OpenClaim := { program := "yteikhmabgnpljaa", sum := "39c84e5b5e4268e0cb3f530e07f8ffaf191542b2449c405997fde680d90844f4", func := "portico/porticolaw22.PostRuns", spec := "postRuns", apart := false, narrowed := true }
def PostRunsUptoSaid : Prop := postRunsUptoRow.holds Try.pinned (OpenSpec.upto postRunsSpec)

/-- 'porticolaw22.PostNone', WHERE WHAT IT READS IS OF BULK AT MOST 1048576: true; the input reads as it did. -/
def postNoneUptoRow : OpenClaim := { program := "yteikhmabgnpljaa", sum := "39c84e5b5e4268e0cb3f530e07f8ffaf191542b2449c405997fde680d90844f4", func := "portico/porticolaw22.PostNone", spec := "postNone", apart := false, narrowed := true }
def PostNoneUptoSaid : Prop := postNoneUptoRow.holds Try.pinned (OpenSpec.upto postNoneSpec)

end Rows
end Go.Proofs.Yteikhmabgnpljaa
