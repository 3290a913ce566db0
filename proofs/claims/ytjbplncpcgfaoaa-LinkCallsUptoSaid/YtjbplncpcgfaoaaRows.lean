/-
  No cell of these rows narrows 'for every input' (looked for: loops, veiled, ifaces, maps, wideKeys, modest, calm, conditions, laid).
  DERIVED. THE GIVEN ROWS OF THIS SEAT. 4 by the template 'for every input the law returns true; each argument reads behind the call as it read before'; 0 by the template 'total and deterministic' (their statements: YtjbplncpcgfaoaaTotals.lean).
  GIVEN WITH THE SEED: the statements are not yours to turn. If you find one false, say at which input.
  Laid BY PROGRAM, IN A SANDBOX (cutbox-rows.mjs): the forced cells as the released guide's own fill.sh prints them over the translation 3f07e7bbe2d66026… (all of the seat's roots in one cut). By AI agents, Wed Nov 11 2026. No macro, syntax, notation, axiom, sorry.
-/
import Derived.Test.YtjbplncpcgfaoaaChecked
import GoSem.Claim
import GoSem.ClaimJoined
import GoSem.ClaimMapViews
import Derived.JoinedTies
import Derived.KernelRfl
namespace Go.Proofs.Ytjbplncpcgfaoaa
/- THE CELL 'sum', in the pinned program and in every row, IS THE sha256 OF THE DUMP (.gsa) THAT YtjbplncpcgfaoaaProg.lean LOADS. Nothing in Lean hashes anything: it is a label: what it is worth is what the hold of that sum in a sandbox is worth. -/
noncomputable def Try.pinned : Pinned := { name := "ytjbplncpcgfaoaa", sum := "3f07e7bbe2d66026744725300fd3f74784b98c619b1ee0fe2471d25c15ea048a", checked := Try.checked }
namespace Rows
def none {H : Type} : Left H := { results := [], args := [] }

/-- 'porticolaw21.LinkFiles': WHATEVER THE INPUT: true; the input reads as it did. -/
def linkFilesSpec : ChangeSpec := { name := "linkFiles", fn := fun _ => fun
  | [d] => { results := [.lit (.bool true)], args := [d] }
  | _ => none }
def linkFilesRow : OpenClaim := { program := "ytjbplncpcgfaoaa", sum := "3f07e7bbe2d66026744725300fd3f74784b98c619b1ee0fe2471d25c15ea048a", func := "portico/porticolaw21.LinkFiles", spec := "linkFiles", apart := false }
def LinkFilesSaid : Prop := linkFilesRow.holds Try.pinned (OpenSpec.ofChange linkFilesSpec)

/-- ITS FALSE NEIGHBOUR: 'it returns false'. Refute it at one input. -/
def linkFilesWrong : ChangeSpec := { name := "linkFiles", fn := fun _ => fun
  | [d] => { results := [.lit (.bool false)], args := [d] }
  | _ => none }
def LinkFilesWrongFalsely : Prop := linkFilesRow.holds Try.pinned (OpenSpec.ofChange linkFilesWrong)

/-- 'porticolaw21.LinkOrder': WHATEVER THE INPUT: true; the input reads as it did. -/
def linkOrderSpec : ChangeSpec := { name := "linkOrder", fn := fun _ => fun
  | [d1, d2] => { results := [.lit (.bool true)], args := [d1, d2] }
  | _ => none }
def linkOrderRow : OpenClaim := { program := "ytjbplncpcgfaoaa", sum := "3f07e7bbe2d66026744725300fd3f74784b98c619b1ee0fe2471d25c15ea048a", func := "portico/porticolaw21.LinkOrder", spec := "linkOrder", apart := false }
def LinkOrderSaid : Prop := linkOrderRow.holds Try.pinned (OpenSpec.ofChange linkOrderSpec)

/-- ITS FALSE NEIGHBOUR: 'it returns false'. Refute it at one input. -/
def linkOrderWrong : ChangeSpec := { name := "linkOrder", fn := fun _ => fun
  | [d1, d2] => { results := [.lit (.bool false)], args := [d1, d2] }
  | _ => none }
def LinkOrderWrongFalsely : Prop := linkOrderRow.holds Try.pinned (OpenSpec.ofChange linkOrderWrong)

/-- 'porticolaw21.LinkLimits': WHATEVER THE INPUT: true; the input reads as it did. -/
def linkLimitsSpec : ChangeSpec := { name := "linkLimits", fn := fun _ => fun
  | [d1, d2, d3] => { results := [.lit (.bool true)], args := [d1, d2, d3] }
  | _ => none }
def linkLimitsRow : OpenClaim := { program := "ytjbplncpcgfaoaa", sum := "3f07e7bbe2d66026744725300fd3f74784b98c619b1ee0fe2471d25c15ea048a", func := "portico/porticolaw21.LinkLimits", spec := "linkLimits", apart := false }
def LinkLimitsSaid : Prop := linkLimitsRow.holds Try.pinned (OpenSpec.ofChange linkLimitsSpec)

/-- ITS FALSE NEIGHBOUR: 'it returns false'. Refute it at one input. -/
def linkLimitsWrong : ChangeSpec := { name := "linkLimits", fn := fun _ => fun
  | [d1, d2, d3] => { results := [.lit (.bool false)], args := [d1, d2, d3] }
  | _ => none }
def LinkLimitsWrongFalsely : Prop := linkLimitsRow.holds Try.pinned (OpenSpec.ofChange linkLimitsWrong)

/-- 'porticolaw21.LinkCalls': WHATEVER THE INPUT: true; the input reads as it did. -/
def linkCallsSpec : ChangeSpec := { name := "linkCalls", fn := fun _ => fun
  | [d1, d2, d3] => { results := [.lit (.bool true)], args := [d1, d2, d3] }
  | _ => none }
def linkCallsRow : OpenClaim := { program := "ytjbplncpcgfaoaa", sum := "3f07e7bbe2d66026744725300fd3f74784b98c619b1ee0fe2471d25c15ea048a", func := "portico/porticolaw21.LinkCalls", spec := "linkCalls", unfollowed := true, recurses := true, apart := false }
def LinkCallsSaid : Prop := linkCallsRow.holds Try.pinned (OpenSpec.ofChange linkCallsSpec)

/-- ITS FALSE NEIGHBOUR: 'it returns false'. Refute it at one input. -/
def linkCallsWrong : ChangeSpec := { name := "linkCalls", fn := fun _ => fun
  | [d1, d2, d3] => { results := [.lit (.bool false)], args := [d1, d2, d3] }
  | _ => none }
def LinkCallsWrongFalsely : Prop := linkCallsRow.holds Try.pinned (OpenSpec.ofChange linkCallsWrong)

/- THE SECOND FORM. 'bulk': how many values and letters a reading holds, each counted each time it is reached (what is shared counts as often as it is met; a slice's spare places count too). A statement '..UptoSaid' is the law's where the arguments, and the package variables that the reading takes, are together of bulk at most 1048576: NARROWER than '..Said'. Prove '..Said' where nothing that the law and all that it calls make is longer than what came in: it says more and counts as full. Else prove '..UptoSaid'. A law counts once. -/
mutual
def uptoBulk {H : Type} : DataW H → Nat
  | .lit (.string bytes) => bytes.length + 1
  | .lit _ => 1
  | .nil => 1
  | .ptr d => uptoBulk d + 1
  | .slice elems spare => uptoBulkAll elems + uptoBulkAll spare + 1
  | .agg parts => uptoBulkAll parts + 1
  | .iface _ d => uptoBulk d + 1
  | .map entries => uptoBulkEntries entries + 1
  | .held _ => 1
def uptoBulkAll {H : Type} : List (DataW H) → Nat
  | [] => 0
  | d :: r => uptoBulk d + uptoBulkAll r
def uptoBulkEntries {H : Type} : List (Lit × DataW H) → Nat
  | [] => 0
  | x :: r => uptoBulkEntry x + uptoBulkEntries r
def uptoBulkEntry {H : Type} : Lit × DataW H → Nat
  | (.string bytes, d) => bytes.length + uptoBulk d + 1
  | (_, d) => uptoBulk d + 1
 end
def uptoSmall : (H : Type) → List (DataW H) → Bool := fun _ ds => decide (uptoBulkAll ds ≤ 1048576)
def OpenSpec.upto (s : _root_.Go.ChangeSpec) : _root_.Go.OpenSpec := { _root_.Go.OpenSpec.ofChange s with cond := some uptoSmall }

/-- 'porticolaw21.LinkFiles', WHERE WHAT IT READS IS OF BULK AT MOST 1048576: true; the input reads as it did. -/
def linkFilesUptoRow : OpenClaim := { program := "ytjbplncpcgfaoaa", sum := "3f07e7bbe2d66026744725300fd3f74784b98c619b1ee0fe2471d25c15ea048a", func := "portico/porticolaw21.LinkFiles", spec := "linkFiles", apart := false, narrowed := true }
def LinkFilesUptoSaid : Prop := linkFilesUptoRow.holds Try.pinned (OpenSpec.upto linkFilesSpec)

/-- 'porticolaw21.LinkOrder', WHERE WHAT IT READS IS OF BULK AT MOST 1048576: true; the input reads as it did. -/
def linkOrderUptoRow : OpenClaim := { program := "ytjbplncpcgfaoaa", sum := "3f07e7bbe2d66026744725300fd3f74784b98c619b1ee0fe2471d25c15ea048a", func := "portico/porticolaw21.LinkOrder", spec := "linkOrder", apart := false, narrowed := true }
def LinkOrderUptoSaid : Prop := linkOrderUptoRow.holds Try.pinned (OpenSpec.upto linkOrderSpec)

/-- 'porticolaw21.LinkLimits', WHERE WHAT IT READS IS OF BULK AT MOST 1048576: true; the input reads as it did. -/
def linkLimitsUptoRow : OpenClaim := { program := "ytjbplncpcgfaoaa", sum := "3f07e7bbe2d66026744725300fd3f74784b98c619b1ee0fe2471d25c15ea048a", func := "portico/porticolaw21.LinkLimits", spec := "linkLimits", apart := false, narrowed := true }
def LinkLimitsUptoSaid : Prop := linkLimitsUptoRow.holds Try.pinned (OpenSpec.upto linkLimitsSpec)

/-- 'porticolaw21.LinkCalls', WHERE WHAT IT READS IS OF BULK AT MOST 1048576: true; the input reads as it did. -/
def linkCallsUptoRow : OpenClaim := { program := "ytjbplncpcgfaoaa", sum := "3f07e7bbe2d66026744725300fd3f74784b98c619b1ee0fe2471d25c15ea048a", func := "portico/porticolaw21.LinkCalls", spec := "linkCalls", unfollowed := true, recurses := true, apart := false, narrowed := true }
def LinkCallsUptoSaid : Prop := linkCallsUptoRow.holds Try.pinned (OpenSpec.upto linkCallsSpec)

end Rows
end Go.Proofs.Ytjbplncpcgfaoaa
