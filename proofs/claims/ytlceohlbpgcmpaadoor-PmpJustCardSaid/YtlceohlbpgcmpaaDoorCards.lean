/-
  DERIVED. GIVEN WITH THE SEED: THE CARDS: each row of YtlceohlbpgcmpaaDoorRows.lean that lists a variable, with what it lists TIED to the program's text (the seventh form; the later family's looks); each row that meets fmt, with fmt's text TOLD by the authors' own Lean function (tested against real Go, not proved from fmt's source: count such statements apart). THE CARD IS WHAT COUNTS. Prove the row's statement (the work); the ties are given (YtlceohlbpgcmpaaDoorTie.lean); close each card by the builder's one call (the guide's Derived/Test/ToyasCard.lean, 'card_holds'). Laid BY PROGRAM, IN A SANDBOX (cutbox-door.mjs). By AI agents, Wed Nov 11 2026. No macro, syntax, notation, axiom, sorry.
-/
import Derived.Test.YtlceohlbpgcmpaaDoorRows
import GoSem.ClaimSeven
namespace Go.Proofs.YtlceohlbpgcmpaaDoor
namespace Rows

/-- THE TIED CARD OF 'porticolaw12.PmpPlans'. -/
def pmpPlansCard : Claim7 := { stood := { row := pmpPlansRow, standIns := [], harness := (true, "77b907593cf80b636a22ea4a220750cbc362137007611b9d5cf8463710da0a7b"), looks := false }, kinds := [], alts := [], laidByText := true, laidKinds := [.data], laidTests := true, laidLooks := .later }
def PmpPlansCardSaid : Prop := Claim7.holds Tryd.pinned (.plain (OpenSpec.ofChange pmpPlansSpec)) pmpPlansCard

/-- THE TIED CARD OF 'porticolaw12.PmpGrants'. -/
def pmpGrantsCard : Claim7 := { stood := { row := pmpGrantsRow, standIns := [], harness := (true, "77b907593cf80b636a22ea4a220750cbc362137007611b9d5cf8463710da0a7b"), looks := false }, kinds := [], alts := [], laidByText := true, laidKinds := [.data], laidTests := true, laidLooks := .later }
def PmpGrantsCardSaid : Prop := Claim7.holds Tryd.pinned (.plain (OpenSpec.ofChange pmpGrantsSpec)) pmpGrantsCard

/-- THE TIED CARD OF 'porticolaw12.PmpBytes'. -/
def pmpBytesCard : Claim7 := { stood := { row := pmpBytesRow, standIns := [], harness := (true, "77b907593cf80b636a22ea4a220750cbc362137007611b9d5cf8463710da0a7b"), looks := false }, kinds := [], alts := [], laidByText := true, laidKinds := [.data], laidTests := true, laidLooks := .later }
def PmpBytesCardSaid : Prop := Claim7.holds Tryd.pinned (.plain (OpenSpec.ofChange pmpBytesSpec)) pmpBytesCard

/-- THE TIED CARD OF 'porticolaw12.PmpRuns'. -/
def pmpRunsCard : Claim7 := { stood := { row := pmpRunsRow, standIns := [], harness := (true, "77b907593cf80b636a22ea4a220750cbc362137007611b9d5cf8463710da0a7b"), looks := false }, kinds := [], alts := [], laidByText := true, laidKinds := [.data], laidTests := true, laidLooks := .later }
def PmpRunsCardSaid : Prop := Claim7.holds Tryd.pinned (.plain (OpenSpec.ofChange pmpRunsSpec)) pmpRunsCard

/-- THE TIED CARD OF 'porticolaw12.PmpJust'. -/
def pmpJustCard : Claim7 := { stood := { row := pmpJustRow, standIns := [], harness := (true, "77b907593cf80b636a22ea4a220750cbc362137007611b9d5cf8463710da0a7b"), looks := false }, kinds := [], alts := [], laidByText := true, laidKinds := [.data], laidTests := true, laidLooks := .later }
def PmpJustCardSaid : Prop := Claim7.holds Tryd.pinned (.plain (OpenSpec.ofChange pmpJustSpec)) pmpJustCard

/-- THE SECOND FORM's CARD OF 'porticolaw12.PmpPlans'. -/
def pmpPlansUptoCard : Claim7 := { stood := { row := pmpPlansUptoRow, standIns := [], harness := (true, "77b907593cf80b636a22ea4a220750cbc362137007611b9d5cf8463710da0a7b"), looks := false }, kinds := [], alts := [], laidByText := true, laidKinds := [.data], laidTests := true, laidLooks := .later }
def PmpPlansUptoCardSaid : Prop := Claim7.holds Tryd.pinned (.plain (OpenSpec.upto pmpPlansSpec)) pmpPlansUptoCard

/-- THE SECOND FORM's CARD OF 'porticolaw12.PmpGrants'. -/
def pmpGrantsUptoCard : Claim7 := { stood := { row := pmpGrantsUptoRow, standIns := [], harness := (true, "77b907593cf80b636a22ea4a220750cbc362137007611b9d5cf8463710da0a7b"), looks := false }, kinds := [], alts := [], laidByText := true, laidKinds := [.data], laidTests := true, laidLooks := .later }
def PmpGrantsUptoCardSaid : Prop := Claim7.holds Tryd.pinned (.plain (OpenSpec.upto pmpGrantsSpec)) pmpGrantsUptoCard

/-- THE SECOND FORM's CARD OF 'porticolaw12.PmpBytes'. -/
def pmpBytesUptoCard : Claim7 := { stood := { row := pmpBytesUptoRow, standIns := [], harness := (true, "77b907593cf80b636a22ea4a220750cbc362137007611b9d5cf8463710da0a7b"), looks := false }, kinds := [], alts := [], laidByText := true, laidKinds := [.data], laidTests := true, laidLooks := .later }
def PmpBytesUptoCardSaid : Prop := Claim7.holds Tryd.pinned (.plain (OpenSpec.upto pmpBytesSpec)) pmpBytesUptoCard

/-- THE SECOND FORM's CARD OF 'porticolaw12.PmpRuns'. -/
def pmpRunsUptoCard : Claim7 := { stood := { row := pmpRunsUptoRow, standIns := [], harness := (true, "77b907593cf80b636a22ea4a220750cbc362137007611b9d5cf8463710da0a7b"), looks := false }, kinds := [], alts := [], laidByText := true, laidKinds := [.data], laidTests := true, laidLooks := .later }
def PmpRunsUptoCardSaid : Prop := Claim7.holds Tryd.pinned (.plain (OpenSpec.upto pmpRunsSpec)) pmpRunsUptoCard

/-- THE SECOND FORM's CARD OF 'porticolaw12.PmpJust'. -/
def pmpJustUptoCard : Claim7 := { stood := { row := pmpJustUptoRow, standIns := [], harness := (true, "77b907593cf80b636a22ea4a220750cbc362137007611b9d5cf8463710da0a7b"), looks := false }, kinds := [], alts := [], laidByText := true, laidKinds := [.data], laidTests := true, laidLooks := .later }
def PmpJustUptoCardSaid : Prop := Claim7.holds Tryd.pinned (.plain (OpenSpec.upto pmpJustSpec)) pmpJustUptoCard
end Rows
end Go.Proofs.YtlceohlbpgcmpaaDoor
