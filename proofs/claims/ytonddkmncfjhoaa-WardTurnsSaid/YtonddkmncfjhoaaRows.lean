/-
  No cell of these rows narrows 'for every input' (looked for: loops, veiled, ifaces, maps, wideKeys, modest, calm, conditions, laid).
  DERIVED. THE GIVEN ROWS OF THIS SEAT. 3 by the template 'for every input the law returns true; each argument reads behind the call as it read before'; 0 by the template 'total and deterministic' (their statements: YtonddkmncfjhoaaTotals.lean).
  GIVEN WITH THE SEED: the statements are not yours to turn. If you find one false, say at which input.
  Laid BY PROGRAM, IN A SANDBOX (cutbox-rows.mjs): the forced cells as the released guide's own fill.sh prints them over the translation 0d5b0aa5e9ef9992… (all of the seat's roots in one cut). By AI agents, Wed Nov 11 2026. No macro, syntax, notation, axiom, sorry.
-/
import Derived.Test.YtonddkmncfjhoaaChecked
import GoSem.Claim
import GoSem.ClaimJoined
import GoSem.ClaimMapViews
import Derived.JoinedTies
import Derived.KernelRfl
namespace Go.Proofs.Ytonddkmncfjhoaa
/- THE CELL 'sum', in the pinned program and in every row, IS THE sha256 OF THE DUMP (.gsa) THAT YtonddkmncfjhoaaProg.lean LOADS. Nothing in Lean hashes anything: it is a label: what it is worth is what the hold of that sum in a sandbox is worth. -/
noncomputable def Try.pinned : Pinned := { name := "ytonddkmncfjhoaa", sum := "0d5b0aa5e9ef99928478820aac8f21a17e129af8b8884d4321b783753f46370a", checked := Try.checked }
namespace Rows
def none {H : Type} : Left H := { results := [], args := [] }

/-- 'porticolaw24.WardRuns': WHATEVER THE INPUT: true; the input reads as it did. -/
def wardRunsSpec : ChangeSpec := { name := "wardRuns", fn := fun _ => fun
  | [d1, d2] => { results := [.lit (.bool true)], args := [d1, d2] }
  | _ => none }
def wardRunsRow : OpenClaim := { program := "ytonddkmncfjhoaa", sum := "0d5b0aa5e9ef99928478820aac8f21a17e129af8b8884d4321b783753f46370a", func := "portico/porticolaw24.WardRuns", spec := "wardRuns", apart := false }
def WardRunsSaid : Prop := wardRunsRow.holds Try.pinned (OpenSpec.ofChange wardRunsSpec)

/-- ITS FALSE NEIGHBOUR: 'it returns false'. Refute it at one input. -/
def wardRunsWrong : ChangeSpec := { name := "wardRuns", fn := fun _ => fun
  | [d1, d2] => { results := [.lit (.bool false)], args := [d1, d2] }
  | _ => none }
def WardRunsWrongFalsely : Prop := wardRunsRow.holds Try.pinned (OpenSpec.ofChange wardRunsWrong)

/-- 'porticolaw24.WardTurns': WHATEVER THE INPUT: true; the input reads as it did. -/
def wardTurnsSpec : ChangeSpec := { name := "wardTurns", fn := fun _ => fun
  | [d1, d2] => { results := [.lit (.bool true)], args := [d1, d2] }
  | _ => none }
def wardTurnsRow : OpenClaim := { program := "ytonddkmncfjhoaa", sum := "0d5b0aa5e9ef99928478820aac8f21a17e129af8b8884d4321b783753f46370a", func := "portico/porticolaw24.WardTurns", spec := "wardTurns", apart := false }
def WardTurnsSaid : Prop := wardTurnsRow.holds Try.pinned (OpenSpec.ofChange wardTurnsSpec)

/-- ITS FALSE NEIGHBOUR: 'it returns false'. Refute it at one input. -/
def wardTurnsWrong : ChangeSpec := { name := "wardTurns", fn := fun _ => fun
  | [d1, d2] => { results := [.lit (.bool false)], args := [d1, d2] }
  | _ => none }
def WardTurnsWrongFalsely : Prop := wardTurnsRow.holds Try.pinned (OpenSpec.ofChange wardTurnsWrong)

/-- 'porticolaw24.WardNone': WHATEVER THE INPUT: true; the input reads as it did. -/
def wardNoneSpec : ChangeSpec := { name := "wardNone", fn := fun _ => fun
  | [d1, d2] => { results := [.lit (.bool true)], args := [d1, d2] }
  | _ => none }
def wardNoneRow : OpenClaim := { program := "ytonddkmncfjhoaa", sum := "0d5b0aa5e9ef99928478820aac8f21a17e129af8b8884d4321b783753f46370a", func := "portico/porticolaw24.WardNone", spec := "wardNone", apart := false }
def WardNoneSaid : Prop := wardNoneRow.holds Try.pinned (OpenSpec.ofChange wardNoneSpec)

/-- ITS FALSE NEIGHBOUR: 'it returns false'. Refute it at one input. -/
def wardNoneWrong : ChangeSpec := { name := "wardNone", fn := fun _ => fun
  | [d1, d2] => { results := [.lit (.bool false)], args := [d1, d2] }
  | _ => none }
def WardNoneWrongFalsely : Prop := wardNoneRow.holds Try.pinned (OpenSpec.ofChange wardNoneWrong)

/- THE SECOND FORM. 'bulk': how many values and letters a reading holds, each counted each time it is reached (what is shared counts as often as it is met; a slice's spare places count too). A statement '..UptoSaid' is the law's where the arguments, and the package variables that the reading takes, are together of bulk at most 1048576: NARROWER than '..Said'. Prove '..Said' where nothing that the law and all that it calls make is longer than what came in: it says more and counts as full. Else prove '..UptoSaid'. A law counts once. -/
mutual
def uptoBulk {H : Type} : DataW H → Nat
  | .lit (.string bytes) => bytes.length + 1
  | .lit _ => 1
  | .nil => 1
  | .ptr d => uptoBulk d + 1
  | .slice elems spare => uptoBulkAll elems + uptoBulkAll spare + 1
  | .agg parts => uptoBulkAll parts + 1
  | .iface _ d => uptoBulk d + 1
  | .map entries => uptoBulkEntries entries + 1
  | .held _ => 1
def uptoBulkAll {H : Type} : List (DataW H) → Nat
  | [] => 0
  | d :: r => uptoBulk d + uptoBulkAll r
def uptoBulkEntries {H : Type} : List (Lit × DataW H) → Nat
  | [] => 0
  | x :: r => uptoBulkEntry x + uptoBulkEntries r
def uptoBulkEntry {H : Type} : Lit × DataW H → Nat
  | (.string bytes, d) => bytes.length + uptoBulk d + 1
  | (_, d) => uptoBulk d + 1
 end
def uptoSmall : (H : Type) → List (DataW H) → Bool := fun _ ds => decide (uptoBulkAll ds ≤ 1048576)
def OpenSpec.upto (s : _root_.Go.ChangeSpec) : _root_.Go.OpenSpec := { _root_.Go.OpenSpec.ofChange s with cond := some uptoSmall }

/-- 'porticolaw24.WardRuns', WHERE WHAT IT READS IS OF BULK AT MOST 1048576: true; the input reads as it did. -/
def wardRunsUptoRow : OpenClaim := { program := "ytonddkmncfjhoaa", sum := "0d5b0aa5e9ef99928478820aac8f21a17e129af8b8884d4321b783753f46370a", func := "portico/porticolaw24.WardRuns", spec := "wardRuns", apart := false, narrowed := true }
def WardRunsUptoSaid : Prop := wardRunsUptoRow.holds Try.pinned (OpenSpec.upto wardRunsSpec)

/-- 'porticolaw24.WardTurns', WHERE WHAT IT READS IS OF BULK AT MOST 1048576: true; the input reads as it did. -/
def wardTurnsUptoRow : OpenClaim := { program := "ytonddkmncfjhoaa", sum := "0d5b0aa5e9ef99928478820aac8f21a17e129af8b8884d4321b783753f46370a", func := "portico/porticolaw24.WardTurns", spec := "wardTurns", apart := false, narrowed := true }
def WardTurnsUptoSaid : Prop := wardTurnsUptoRow.holds Try.pinned (OpenSpec.upto wardTurnsSpec)

/-- 'porticolaw24.WardNone', WHERE WHAT IT READS IS OF BULK AT MOST 1048576: true; the input reads as it did. -/
def wardNoneUptoRow : OpenClaim := { program := "ytonddkmncfjhoaa", sum := "0d5b0aa5e9ef99928478820aac8f21a17e129af8b8884d4321b783753f46370a", func := "portico/porticolaw24.WardNone", spec := "wardNone", apart := false, narrowed := true }
def WardNoneUptoSaid : Prop := wardNoneUptoRow.holds Try.pinned (OpenSpec.upto wardNoneSpec)

end Rows
end Go.Proofs.Ytonddkmncfjhoaa
