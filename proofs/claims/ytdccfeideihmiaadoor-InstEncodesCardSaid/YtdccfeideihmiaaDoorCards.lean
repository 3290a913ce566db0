/-
  DERIVED. GIVEN WITH THE SEED: THE CARDS: each row of YtdccfeideihmiaaDoorRows.lean that lists a variable, with what it lists TIED to the program's text (the seventh form; the later family's looks); each row that meets fmt, with fmt's text TOLD by the authors' own Lean function (tested against real Go, not proved from fmt's source: count such statements apart). THE CARD IS WHAT COUNTS. Prove the row's statement (the work); the ties are given (YtdccfeideihmiaaDoorTie.lean); close each card by the builder's one call (the guide's Derived/Test/ToyasCard.lean, 'card_holds'). Laid BY PROGRAM, IN A SANDBOX (cutbox-door.mjs). By AI agents, Wed Nov 11 2026. No macro, syntax, notation, axiom, sorry.
-/
import Derived.Test.YtdccfeideihmiaaDoorRows
import GoSem.ClaimSeven
namespace Go.Proofs.YtdccfeideihmiaaDoor
namespace Rows

/-- THE TIED CARD OF 'porticolaw11.InstDecodes'. -/
def instDecodesCard : Claim7 := { stood := { row := instDecodesRow, standIns := [], harness := (true, "06ad527c87d8aedec4ae55f6ca1f499e029d365103567640bbfc140e309422b6"), looks := false }, kinds := [], alts := [], laidByText := true, laidKinds := [.data], laidTests := true, laidLooks := .later }
def InstDecodesCardSaid : Prop := Claim7.holds Tryd.pinned (.plain (OpenSpec.ofChange instDecodesSpec)) instDecodesCard

/-- THE TIED CARD OF 'porticolaw11.InstBack'. -/
def instBackCard : Claim7 := { stood := { row := instBackRow, standIns := [], harness := (true, "06ad527c87d8aedec4ae55f6ca1f499e029d365103567640bbfc140e309422b6"), looks := false }, kinds := [], alts := [], laidByText := true, laidKinds := [.data], laidTests := true, laidLooks := .later }
def InstBackCardSaid : Prop := Claim7.holds Tryd.pinned (.plain (OpenSpec.ofChange instBackSpec)) instBackCard

/-- THE TIED CARD OF 'porticolaw11.InstEncodes'. -/
def instEncodesCard : Claim7 := { stood := { row := instEncodesRow, standIns := [], harness := (true, "06ad527c87d8aedec4ae55f6ca1f499e029d365103567640bbfc140e309422b6"), looks := false }, kinds := [], alts := [], laidByText := true, laidKinds := [.data], laidTests := true, laidLooks := .later }
def InstEncodesCardSaid : Prop := Claim7.holds Tryd.pinned (.plain (OpenSpec.ofChange instEncodesSpec)) instEncodesCard

/-- THE TIED CARD OF 'porticolaw11.InstForms'. -/
def instFormsCard : Claim7 := { stood := { row := instFormsRow, standIns := [], harness := (true, "06ad527c87d8aedec4ae55f6ca1f499e029d365103567640bbfc140e309422b6"), looks := false }, kinds := [], alts := [], laidByText := true, laidKinds := [.data], laidTests := true, laidLooks := .later }
def InstFormsCardSaid : Prop := Claim7.holds Tryd.pinned (.plain (OpenSpec.ofChange instFormsSpec)) instFormsCard

/-- THE TIED CARD OF 'porticolaw11.InstNumbers'. -/
def instNumbersCard : Claim7 := { stood := { row := instNumbersRow, standIns := [], harness := (true, "06ad527c87d8aedec4ae55f6ca1f499e029d365103567640bbfc140e309422b6"), looks := false }, kinds := [], alts := [], laidByText := true, laidKinds := [.data], laidTests := true, laidLooks := .later }
def InstNumbersCardSaid : Prop := Claim7.holds Tryd.pinned (.plain (OpenSpec.ofChange instNumbersSpec)) instNumbersCard

/-- THE SECOND FORM's CARD OF 'porticolaw11.InstDecodes'. -/
def instDecodesUptoCard : Claim7 := { stood := { row := instDecodesUptoRow, standIns := [], harness := (true, "06ad527c87d8aedec4ae55f6ca1f499e029d365103567640bbfc140e309422b6"), looks := false }, kinds := [], alts := [], laidByText := true, laidKinds := [.data], laidTests := true, laidLooks := .later }
def InstDecodesUptoCardSaid : Prop := Claim7.holds Tryd.pinned (.plain (OpenSpec.upto instDecodesSpec)) instDecodesUptoCard

/-- THE SECOND FORM's CARD OF 'porticolaw11.InstBack'. -/
def instBackUptoCard : Claim7 := { stood := { row := instBackUptoRow, standIns := [], harness := (true, "06ad527c87d8aedec4ae55f6ca1f499e029d365103567640bbfc140e309422b6"), looks := false }, kinds := [], alts := [], laidByText := true, laidKinds := [.data], laidTests := true, laidLooks := .later }
def InstBackUptoCardSaid : Prop := Claim7.holds Tryd.pinned (.plain (OpenSpec.upto instBackSpec)) instBackUptoCard

/-- THE SECOND FORM's CARD OF 'porticolaw11.InstEncodes'. -/
def instEncodesUptoCard : Claim7 := { stood := { row := instEncodesUptoRow, standIns := [], harness := (true, "06ad527c87d8aedec4ae55f6ca1f499e029d365103567640bbfc140e309422b6"), looks := false }, kinds := [], alts := [], laidByText := true, laidKinds := [.data], laidTests := true, laidLooks := .later }
def InstEncodesUptoCardSaid : Prop := Claim7.holds Tryd.pinned (.plain (OpenSpec.upto instEncodesSpec)) instEncodesUptoCard

/-- THE SECOND FORM's CARD OF 'porticolaw11.InstForms'. -/
def instFormsUptoCard : Claim7 := { stood := { row := instFormsUptoRow, standIns := [], harness := (true, "06ad527c87d8aedec4ae55f6ca1f499e029d365103567640bbfc140e309422b6"), looks := false }, kinds := [], alts := [], laidByText := true, laidKinds := [.data], laidTests := true, laidLooks := .later }
def InstFormsUptoCardSaid : Prop := Claim7.holds Tryd.pinned (.plain (OpenSpec.upto instFormsSpec)) instFormsUptoCard

/-- THE SECOND FORM's CARD OF 'porticolaw11.InstNumbers'. -/
def instNumbersUptoCard : Claim7 := { stood := { row := instNumbersUptoRow, standIns := [], harness := (true, "06ad527c87d8aedec4ae55f6ca1f499e029d365103567640bbfc140e309422b6"), looks := false }, kinds := [], alts := [], laidByText := true, laidKinds := [.data], laidTests := true, laidLooks := .later }
def InstNumbersUptoCardSaid : Prop := Claim7.holds Tryd.pinned (.plain (OpenSpec.upto instNumbersSpec)) instNumbersUptoCard
end Rows
end Go.Proofs.YtdccfeideihmiaaDoor
