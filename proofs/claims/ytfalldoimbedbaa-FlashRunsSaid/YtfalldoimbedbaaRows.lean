/-
  No cell of these rows narrows 'for every input' (looked for: loops, veiled, ifaces, maps, wideKeys, modest, calm, conditions, laid).
  DERIVED. THE GIVEN ROWS OF THIS SEAT. 5 by the template 'for every input the law returns true; each argument reads behind the call as it read before'; 0 by the template 'total and deterministic' (their statements: YtfalldoimbedbaaTotals.lean).
  GIVEN WITH THE SEED: the statements are not yours to turn. If you find one false, say at which input.
  Laid BY PROGRAM, IN A SANDBOX (cutbox-rows.mjs): the forced cells as the released guide's own fill.sh prints them over the translation 7108248877710f2b… (all of the seat's roots in one cut). By AI agents, Wed Nov 11 2026. No macro, syntax, notation, axiom, sorry.
-/
import Derived.Test.YtfalldoimbedbaaChecked
import GoSem.Claim
import GoSem.ClaimJoined
import GoSem.ClaimMapViews
import Derived.JoinedTies
import Derived.KernelRfl
namespace Go.Proofs.Ytfalldoimbedbaa
/- THE CELL 'sum', in the pinned program and in every row, IS THE sha256 OF THE DUMP (.gsa) THAT YtfalldoimbedbaaProg.lean LOADS. Nothing in Lean hashes anything: it is a label: what it is worth is what the hold of that sum in a sandbox is worth. -/
noncomputable def Try.pinned : Pinned := { name := "ytfalldoimbedbaa", sum := "7108248877710f2b22f15f36835f3752d3ba0ed8597f5cf2cb1c7566583ef3a1", checked := Try.checked }
namespace Rows
def none {H : Type} : Left H := { results := [], args := [] }

/-- 'porticolaw28.FlashWears': WHATEVER THE INPUT: true; the input reads as it did. -/
def flashWearsSpec : ChangeSpec := { name := "flashWears", fn := fun _ => fun
  | [d1, d2, d3] => { results := [.lit (.bool true)], args := [d1, d2, d3] }
  | _ => none }
def flashWearsRow : OpenClaim := { program := "ytfalldoimbedbaa", sum := "7108248877710f2b22f15f36835f3752d3ba0ed8597f5cf2cb1c7566583ef3a1", func := "portico/porticolaw28.FlashWears", spec := "flashWears", apart := false }
def FlashWearsSaid : Prop := flashWearsRow.holds Try.pinned (OpenSpec.ofChange flashWearsSpec)

/-- ITS FALSE NEIGHBOUR: 'it returns false'. Refute it at one input. -/
def flashWearsWrong : ChangeSpec := { name := "flashWears", fn := fun _ => fun
  | [d1, d2, d3] => { results := [.lit (.bool false)], args := [d1, d2, d3] }
  | _ => none }
def FlashWearsWrongFalsely : Prop := flashWearsRow.holds Try.pinned (OpenSpec.ofChange flashWearsWrong)

/-- 'porticolaw28.FlashPlain': WHATEVER THE INPUT: true; the input reads as it did. -/
def flashPlainSpec : ChangeSpec := { name := "flashPlain", fn := fun _ => fun
  | [d] => { results := [.lit (.bool true)], args := [d] }
  | _ => none }
def flashPlainRow : OpenClaim := { program := "ytfalldoimbedbaa", sum := "7108248877710f2b22f15f36835f3752d3ba0ed8597f5cf2cb1c7566583ef3a1", func := "portico/porticolaw28.FlashPlain", spec := "flashPlain", apart := false }
def FlashPlainSaid : Prop := flashPlainRow.holds Try.pinned (OpenSpec.ofChange flashPlainSpec)

/-- ITS FALSE NEIGHBOUR: 'it returns false'. Refute it at one input. -/
def flashPlainWrong : ChangeSpec := { name := "flashPlain", fn := fun _ => fun
  | [d] => { results := [.lit (.bool false)], args := [d] }
  | _ => none }
def FlashPlainWrongFalsely : Prop := flashPlainRow.holds Try.pinned (OpenSpec.ofChange flashPlainWrong)

/-- 'porticolaw28.FlashRuns': WHATEVER THE INPUT: true; the input reads as it did. -/
def flashRunsSpec : ChangeSpec := { name := "flashRuns", fn := fun _ => fun
  | [d] => { results := [.lit (.bool true)], args := [d] }
  | _ => none }
def flashRunsRow : OpenClaim := { program := "ytfalldoimbedbaa", sum := "7108248877710f2b22f15f36835f3752d3ba0ed8597f5cf2cb1c7566583ef3a1", func := "portico/porticolaw28.FlashRuns", spec := "flashRuns", apart := false }
def FlashRunsSaid : Prop := flashRunsRow.holds Try.pinned (OpenSpec.ofChange flashRunsSpec)

/-- ITS FALSE NEIGHBOUR: 'it returns false'. Refute it at one input. -/
def flashRunsWrong : ChangeSpec := { name := "flashRuns", fn := fun _ => fun
  | [d] => { results := [.lit (.bool false)], args := [d] }
  | _ => none }
def FlashRunsWrongFalsely : Prop := flashRunsRow.holds Try.pinned (OpenSpec.ofChange flashRunsWrong)

/-- 'porticolaw28.FlashRises': WHATEVER THE INPUT: true; the input reads as it did. -/
def flashRisesSpec : ChangeSpec := { name := "flashRises", fn := fun _ => fun
  | [d1, d2, d3] => { results := [.lit (.bool true)], args := [d1, d2, d3] }
  | _ => none }
def flashRisesRow : OpenClaim := { program := "ytfalldoimbedbaa", sum := "7108248877710f2b22f15f36835f3752d3ba0ed8597f5cf2cb1c7566583ef3a1", func := "portico/porticolaw28.FlashRises", spec := "flashRises", apart := false }
def FlashRisesSaid : Prop := flashRisesRow.holds Try.pinned (OpenSpec.ofChange flashRisesSpec)

/-- ITS FALSE NEIGHBOUR: 'it returns false'. Refute it at one input. -/
def flashRisesWrong : ChangeSpec := { name := "flashRises", fn := fun _ => fun
  | [d1, d2, d3] => { results := [.lit (.bool false)], args := [d1, d2, d3] }
  | _ => none }
def FlashRisesWrongFalsely : Prop := flashRisesRow.holds Try.pinned (OpenSpec.ofChange flashRisesWrong)

/-- 'porticolaw28.FlashNone': WHATEVER THE INPUT: true; the input reads as it did. -/
def flashNoneSpec : ChangeSpec := { name := "flashNone", fn := fun _ => fun
  | [d1, d2] => { results := [.lit (.bool true)], args := [d1, d2] }
  | _ => none }
def flashNoneRow : OpenClaim := { program := "ytfalldoimbedbaa", sum := "7108248877710f2b22f15f36835f3752d3ba0ed8597f5cf2cb1c7566583ef3a1", func := "portico/porticolaw28.FlashNone", spec := "flashNone", apart := false }
def FlashNoneSaid : Prop := flashNoneRow.holds Try.pinned (OpenSpec.ofChange flashNoneSpec)

/-- ITS FALSE NEIGHBOUR: 'it returns false'. Refute it at one input. -/
def flashNoneWrong : ChangeSpec := { name := "flashNone", fn := fun _ => fun
  | [d1, d2] => { results := [.lit (.bool false)], args := [d1, d2] }
  | _ => none }
def FlashNoneWrongFalsely : Prop := flashNoneRow.holds Try.pinned (OpenSpec.ofChange flashNoneWrong)

/- THE SECOND FORM. 'bulk': how many values and letters a reading holds, each counted each time it is reached (what is shared counts as often as it is met; a slice's spare places count too). A statement '..UptoSaid' is the law's where the arguments, and the package variables that the reading takes, are together of bulk at most 1048576: NARROWER than '..Said'. Prove '..Said' where nothing that the law and all that it calls make is longer than what came in: it says more and counts as full. Else prove '..UptoSaid'. A law counts once. -/
mutual
def uptoBulk {H : Type} : DataW H → Nat
  | .lit (.string bytes) => bytes.length + 1
  | .lit _ => 1
  | .nil => 1
  | .ptr d => uptoBulk d + 1
  | .slice elems spare => uptoBulkAll elems + uptoBulkAll spare + 1
  | .agg parts => uptoBulkAll parts + 1
  | .iface _ d => uptoBulk d + 1
  | .map entries => uptoBulkEntries entries + 1
  | .held _ => 1
def uptoBulkAll {H : Type} : List (DataW H) → Nat
  | [] => 0
  | d :: r => uptoBulk d + uptoBulkAll r
def uptoBulkEntries {H : Type} : List (Lit × DataW H) → Nat
  | [] => 0
  | x :: r => uptoBulkEntry x + uptoBulkEntries r
def uptoBulkEntry {H : Type} : Lit × DataW H → Nat
  | (.string bytes, d) => bytes.length + uptoBulk d + 1
  | (_, d) => uptoBulk d + 1
 end
def uptoSmall : (H : Type) → List (DataW H) → Bool := fun _ ds => decide (uptoBulkAll ds ≤ 1048576)
def OpenSpec.upto (s : _root_.Go.ChangeSpec) : _root_.Go.OpenSpec := { _root_.Go.OpenSpec.ofChange s with cond := some uptoSmall }

/-- 'porticolaw28.FlashWears', WHERE WHAT IT READS IS OF BULK AT MOST 1048576: true; the input reads as it did. -/
def flashWearsUptoRow : OpenClaim := { program := "ytfalldoimbedbaa", sum := "7108248877710f2b22f15f36835f3752d3ba0ed8597f5cf2cb1c7566583ef3a1", func := "portico/porticolaw28.FlashWears", spec := "flashWears", apart := false, narrowed := true }
def FlashWearsUptoSaid : Prop := flashWearsUptoRow.holds Try.pinned (OpenSpec.upto flashWearsSpec)

/-- 'porticolaw28.FlashPlain', WHERE WHAT IT READS IS OF BULK AT MOST 1048576: true; the input reads as it did. -/
def flashPlainUptoRow : OpenClaim := { program := "ytfalldoimbedbaa", sum := "7108248877710f2b22f15f36835f3752d3ba0ed8597f5cf2cb1c7566583ef3a1", func := "portico/porticolaw28.FlashPlain", spec := "flashPlain", apart := false, narrowed := true }
def FlashPlainUptoSaid : Prop := flashPlainUptoRow.holds Try.pinned (OpenSpec.upto flashPlainSpec)

/-- 'porticolaw28.FlashRuns', WHERE WHAT IT READS IS OF BULK AT MOST 1048576: true; the input reads as it did. -/
def flashRunsUptoRow : OpenClaim := { program := "ytfalldoimbedbaa", sum := "7108248877710f2b22f15f36835f3752d3ba0ed8597f5cf2cb1c7566583ef3a1", func := "portico/porticolaw28.FlashRuns", spec := "flashRuns", apart := false, narrowed := true }
def FlashRunsUptoSaid : Prop := flashRunsUptoRow.holds Try.pinned (OpenSpec.upto flashRunsSpec)

/-- 'porticolaw28.FlashRises', WHERE WHAT IT READS IS OF BULK AT MOST 1048576: true; the input reads as it did. -/
def flashRisesUptoRow : OpenClaim := { program := "ytfalldoimbedbaa", sum := "7108248877710f2b22f15f36835f3752d3ba0ed8597f5cf2cb1c7566583ef3a1", func := "portico/porticolaw28.FlashRises", spec := "flashRises", apart := false, narrowed := true }
def FlashRisesUptoSaid : Prop := flashRisesUptoRow.holds Try.pinned (OpenSpec.upto flashRisesSpec)

/-- 'porticolaw28.FlashNone', WHERE WHAT IT READS IS OF BULK AT MOST 1048576: true; the input reads as it did. -/
def flashNoneUptoRow : OpenClaim := { program := "ytfalldoimbedbaa", sum := "7108248877710f2b22f15f36835f3752d3ba0ed8597f5cf2cb1c7566583ef3a1", func := "portico/porticolaw28.FlashNone", spec := "flashNone", apart := false, narrowed := true }
def FlashNoneUptoSaid : Prop := flashNoneUptoRow.holds Try.pinned (OpenSpec.upto flashNoneSpec)

end Rows
end Go.Proofs.Ytfalldoimbedbaa
