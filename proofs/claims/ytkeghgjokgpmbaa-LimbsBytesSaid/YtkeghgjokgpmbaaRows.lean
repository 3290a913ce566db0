/-
  No cell of these rows narrows 'for every input' (looked for: loops, veiled, ifaces, maps, wideKeys, modest, calm, conditions, laid).
  DERIVED. THE GIVEN ROWS OF THIS SEAT. 4 by the template 'for every input the law returns true; each argument reads behind the call as it read before'; 0 by the template 'total and deterministic' (their statements: YtkeghgjokgpmbaaTotals.lean).
  GIVEN WITH THE SEED: the statements are not yours to turn. If you find one false, say at which input.
  Laid BY PROGRAM, IN A SANDBOX (cutbox-rows.mjs): the forced cells as the released guide's own fill.sh prints them over the translation 96aa583d43bdb6fc… (all of the seat's roots in one cut). By AI agents, Wed Nov 11 2026. No macro, syntax, notation, axiom, sorry.
-/
import Derived.Test.YtkeghgjokgpmbaaChecked
import GoSem.Claim
import GoSem.ClaimJoined
import GoSem.ClaimMapViews
import Derived.JoinedTies
import Derived.KernelRfl
namespace Go.Proofs.Ytkeghgjokgpmbaa
/- THE CELL 'sum', in the pinned program and in every row, IS THE sha256 OF THE DUMP (.gsa) THAT YtkeghgjokgpmbaaProg.lean LOADS. Nothing in Lean hashes anything: it is a label: what it is worth is what the hold of that sum in a sandbox is worth. -/
noncomputable def Try.pinned : Pinned := { name := "ytkeghgjokgpmbaa", sum := "96aa583d43bdb6fca107c6353fa753e2f35c7a476f7ecaf235455e02f34e14dd", checked := Try.checked }
namespace Rows
def none {H : Type} : Left H := { results := [], args := [] }

/-- 'porticolaw02.LimbsSums': WHATEVER THE INPUT: true; the input reads as it did. -/
def limbsSumsSpec : ChangeSpec := { name := "limbsSums", fn := fun _ => fun
  | [d1, d2] => { results := [.lit (.bool true)], args := [d1, d2] }
  | _ => none }
def limbsSumsRow : OpenClaim := { program := "ytkeghgjokgpmbaa", sum := "96aa583d43bdb6fca107c6353fa753e2f35c7a476f7ecaf235455e02f34e14dd", func := "portico/porticolaw02.LimbsSums", spec := "limbsSums", apart := false }
def LimbsSumsSaid : Prop := limbsSumsRow.holds Try.pinned (OpenSpec.ofChange limbsSumsSpec)

/-- ITS FALSE NEIGHBOUR: 'it returns false'. Refute it at one input. -/
def limbsSumsWrong : ChangeSpec := { name := "limbsSums", fn := fun _ => fun
  | [d1, d2] => { results := [.lit (.bool false)], args := [d1, d2] }
  | _ => none }
def LimbsSumsWrongFalsely : Prop := limbsSumsRow.holds Try.pinned (OpenSpec.ofChange limbsSumsWrong)

/-- 'porticolaw02.LimbsOrder': WHATEVER THE INPUT: true; the input reads as it did. -/
def limbsOrderSpec : ChangeSpec := { name := "limbsOrder", fn := fun _ => fun
  | [d1, d2] => { results := [.lit (.bool true)], args := [d1, d2] }
  | _ => none }
def limbsOrderRow : OpenClaim := { program := "ytkeghgjokgpmbaa", sum := "96aa583d43bdb6fca107c6353fa753e2f35c7a476f7ecaf235455e02f34e14dd", func := "portico/porticolaw02.LimbsOrder", spec := "limbsOrder", apart := false }
def LimbsOrderSaid : Prop := limbsOrderRow.holds Try.pinned (OpenSpec.ofChange limbsOrderSpec)

/-- ITS FALSE NEIGHBOUR: 'it returns false'. Refute it at one input. -/
def limbsOrderWrong : ChangeSpec := { name := "limbsOrder", fn := fun _ => fun
  | [d1, d2] => { results := [.lit (.bool false)], args := [d1, d2] }
  | _ => none }
def LimbsOrderWrongFalsely : Prop := limbsOrderRow.holds Try.pinned (OpenSpec.ofChange limbsOrderWrong)

/-- 'porticolaw02.LimbsBack': WHATEVER THE INPUT: true; the input reads as it did. -/
def limbsBackSpec : ChangeSpec := { name := "limbsBack", fn := fun _ => fun
  | [d1, d2, d3] => { results := [.lit (.bool true)], args := [d1, d2, d3] }
  | _ => none }
def limbsBackRow : OpenClaim := { program := "ytkeghgjokgpmbaa", sum := "96aa583d43bdb6fca107c6353fa753e2f35c7a476f7ecaf235455e02f34e14dd", func := "portico/porticolaw02.LimbsBack", spec := "limbsBack", apart := false }
def LimbsBackSaid : Prop := limbsBackRow.holds Try.pinned (OpenSpec.ofChange limbsBackSpec)

/-- ITS FALSE NEIGHBOUR: 'it returns false'. Refute it at one input. -/
def limbsBackWrong : ChangeSpec := { name := "limbsBack", fn := fun _ => fun
  | [d1, d2, d3] => { results := [.lit (.bool false)], args := [d1, d2, d3] }
  | _ => none }
def LimbsBackWrongFalsely : Prop := limbsBackRow.holds Try.pinned (OpenSpec.ofChange limbsBackWrong)

/-- 'porticolaw02.LimbsBytes': WHATEVER THE INPUT: true; the input reads as it did. -/
def limbsBytesSpec : ChangeSpec := { name := "limbsBytes", fn := fun _ => fun
  | [d1, d2, d3] => { results := [.lit (.bool true)], args := [d1, d2, d3] }
  | _ => none }
def limbsBytesRow : OpenClaim := { program := "ytkeghgjokgpmbaa", sum := "96aa583d43bdb6fca107c6353fa753e2f35c7a476f7ecaf235455e02f34e14dd", func := "portico/porticolaw02.LimbsBytes", spec := "limbsBytes", apart := false }
def LimbsBytesSaid : Prop := limbsBytesRow.holds Try.pinned (OpenSpec.ofChange limbsBytesSpec)

/-- ITS FALSE NEIGHBOUR: 'it returns false'. Refute it at one input. -/
def limbsBytesWrong : ChangeSpec := { name := "limbsBytes", fn := fun _ => fun
  | [d1, d2, d3] => { results := [.lit (.bool false)], args := [d1, d2, d3] }
  | _ => none }
def LimbsBytesWrongFalsely : Prop := limbsBytesRow.holds Try.pinned (OpenSpec.ofChange limbsBytesWrong)

/- THE SECOND FORM. 'bulk': how many values and letters a reading holds, each counted each time it is reached (what is shared counts as often as it is met; a slice's spare places count too). A statement '..UptoSaid' is the law's where the arguments, and the package variables that the reading takes, are together of bulk at most 1048576: NARROWER than '..Said'. Prove '..Said' where nothing that the law and all that it calls make is longer than what came in: it says more and counts as full. Else prove '..UptoSaid'. A law counts once. -/
mutual
def uptoBulk {H : Type} : DataW H → Nat
  | .lit (.string bytes) => bytes.length + 1
  | .lit _ => 1
  | .nil => 1
  | .ptr d => uptoBulk d + 1
  | .slice elems spare => uptoBulkAll elems + uptoBulkAll spare + 1
  | .agg parts => uptoBulkAll parts + 1
  | .iface _ d => uptoBulk d + 1
  | .map entries => uptoBulkEntries entries + 1
  | .held _ => 1
def uptoBulkAll {H : Type} : List (DataW H) → Nat
  | [] => 0
  | d :: r => uptoBulk d + uptoBulkAll r
def uptoBulkEntries {H : Type} : List (Lit × DataW H) → Nat
  | [] => 0
  | x :: r => uptoBulkEntry x + uptoBulkEntries r
def uptoBulkEntry {H : Type} : Lit × DataW H → Nat
  | (.string bytes, d) => bytes.length + uptoBulk d + 1
  | (_, d) => uptoBulk d + 1
 end
def uptoSmall : (H : Type) → List (DataW H) → Bool := fun _ ds => decide (uptoBulkAll ds ≤ 1048576)
def OpenSpec.upto (s : _root_.Go.ChangeSpec) : _root_.Go.OpenSpec := { _root_.Go.OpenSpec.ofChange s with cond := some uptoSmall }

/-- 'porticolaw02.LimbsSums', WHERE WHAT IT READS IS OF BULK AT MOST 1048576: true; the input reads as it did. -/
def limbsSumsUptoRow : OpenClaim := { program := "ytkeghgjokgpmbaa", sum := "96aa583d43bdb6fca107c6353fa753e2f35c7a476f7ecaf235455e02f34e14dd", func := "portico/porticolaw02.LimbsSums", spec := "limbsSums", apart := false, narrowed := true }
def LimbsSumsUptoSaid : Prop := limbsSumsUptoRow.holds Try.pinned (OpenSpec.upto limbsSumsSpec)

/-- 'porticolaw02.LimbsOrder', WHERE WHAT IT READS IS OF BULK AT MOST 1048576: true; the input reads as it did. -/
def limbsOrderUptoRow : OpenClaim := { program := "ytkeghgjokgpmbaa", sum := "96aa583d43bdb6fca107c6353fa753e2f35c7a476f7ecaf235455e02f34e14dd", func := "portico/porticolaw02.LimbsOrder", spec := "limbsOrder", apart := false, narrowed := true }
def LimbsOrderUptoSaid : Prop := limbsOrderUptoRow.holds Try.pinned (OpenSpec.upto limbsOrderSpec)

/-- 'porticolaw02.LimbsBack', WHERE WHAT IT READS IS OF BULK AT MOST 1048576: true; the input reads as it did. -/
def limbsBackUptoRow : OpenClaim := { program := "ytkeghgjokgpmbaa", sum := "96aa583d43bdb6fca107c6353fa753e2f35c7a476f7ecaf235455e02f34e14dd", func := "portico/porticolaw02.LimbsBack", spec := "limbsBack", apart := false, narrowed := true }
def LimbsBackUptoSaid : Prop := limbsBackUptoRow.holds Try.pinned (OpenSpec.upto limbsBackSpec)

/-- 'porticolaw02.LimbsBytes', WHERE WHAT IT READS IS OF BULK AT MOST 1048576: true; the input reads as it did. -/
def limbsBytesUptoRow : OpenClaim := { program := "ytkeghgjokgpmbaa", sum := "96aa583d43bdb6fca107c6353fa753e2f35c7a476f7ecaf235455e02f34e14dd", func := "portico/porticolaw02.LimbsBytes", spec := "limbsBytes", apart := false, narrowed := true }
def LimbsBytesUptoSaid : Prop := limbsBytesUptoRow.holds Try.pinned (OpenSpec.upto limbsBytesSpec)

end Rows
end Go.Proofs.Ytkeghgjokgpmbaa
