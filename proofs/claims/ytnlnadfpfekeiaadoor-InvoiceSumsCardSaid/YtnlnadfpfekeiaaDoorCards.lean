/-
  DERIVED. GIVEN WITH THE SEED: THE CARDS: each row of YtnlnadfpfekeiaaDoorRows.lean that lists a variable, with what it lists TIED to the program's text (the seventh form; the later family's looks); each row that meets fmt, with fmt's text TOLD by the authors' own Lean function (tested against real Go, not proved from fmt's source: count such statements apart). THE CARD IS WHAT COUNTS. Prove the row's statement (the work); the ties are given (YtnlnadfpfekeiaaDoorTie.lean); close each card by the builder's one call (the guide's Derived/Test/ToyasCard.lean, 'card_holds'). Laid BY PROGRAM, IN A SANDBOX (cutbox-door.mjs). By AI agents, Wed Nov 11 2026. No macro, syntax, notation, axiom, sorry.
-/
import Derived.Test.YtnlnadfpfekeiaaDoorRows
import GoSem.ClaimSeven
namespace Go.Proofs.YtnlnadfpfekeiaaDoor
namespace Rows

/-- THE TIED CARD OF 'billinglaw46.InvoiceLines'. -/
def invoiceLinesCard : Claim7 := { stood := { row := invoiceLinesRow, standIns := [], harness := (true, "992b21c8ec4abeaa62fa39d4b9048b012eef1fddf24099bb35f06df1be7fe9bf"), looks := false }, kinds := [], alts := [], laidByText := true, laidKinds := [.data, .data, .data, .data], laidTests := true, laidLooks := .later }
def InvoiceLinesCardSaid : Prop := Claim7.holds Tryd.pinned (.plain (OpenSpec.ofChange invoiceLinesSpec)) invoiceLinesCard

/-- THE TIED CARD OF 'billinglaw46.InvoiceBuilds'. -/
def invoiceBuildsCard : Claim7 := { stood := { row := invoiceBuildsRow, standIns := [], harness := (true, "992b21c8ec4abeaa62fa39d4b9048b012eef1fddf24099bb35f06df1be7fe9bf"), looks := false }, kinds := [], alts := [], laidByText := true, laidKinds := [.data, .data, .data, .data], laidTests := true, laidLooks := .later }
def InvoiceBuildsCardSaid : Prop := Claim7.holds Tryd.pinned (.plain (OpenSpec.ofChange invoiceBuildsSpec)) invoiceBuildsCard

/-- THE TIED CARD OF 'billinglaw46.InvoiceTexts'. -/
def invoiceTextsCard : Claim7 := { stood := { row := invoiceTextsRow, standIns := [], harness := (true, "992b21c8ec4abeaa62fa39d4b9048b012eef1fddf24099bb35f06df1be7fe9bf"), looks := false }, kinds := [], alts := [], laidByText := true, laidKinds := [.data, .data, .data, .data], laidTests := true, laidLooks := .later }
def InvoiceTextsCardSaid : Prop := Claim7.holds Tryd.pinned (.plain (OpenSpec.ofChange invoiceTextsSpec)) invoiceTextsCard

/-- THE TIED CARD OF 'billinglaw46.InvoiceSums'. -/
def invoiceSumsCard : Claim7 := { stood := { row := invoiceSumsRow, standIns := [], harness := (true, "992b21c8ec4abeaa62fa39d4b9048b012eef1fddf24099bb35f06df1be7fe9bf"), looks := false }, kinds := [], alts := [], laidByText := true, laidKinds := [.data, .data, .data, .data], laidTests := true, laidLooks := .later }
def InvoiceSumsCardSaid : Prop := Claim7.holds Tryd.pinned (.plain (OpenSpec.ofChange invoiceSumsSpec)) invoiceSumsCard

/-- THE TIED CARD OF 'billinglaw46.InvoiceTampered'. -/
def invoiceTamperedCard : Claim7 := { stood := { row := invoiceTamperedRow, standIns := [], harness := (true, "992b21c8ec4abeaa62fa39d4b9048b012eef1fddf24099bb35f06df1be7fe9bf"), looks := false }, kinds := [], alts := [], laidByText := true, laidKinds := [.data, .data, .data, .data], laidTests := true, laidLooks := .later }
def InvoiceTamperedCardSaid : Prop := Claim7.holds Tryd.pinned (.plain (OpenSpec.ofChange invoiceTamperedSpec)) invoiceTamperedCard

/-- THE TIED CARD OF 'billinglaw46.InvoicePlaces'. -/
def invoicePlacesCard : Claim7 := { stood := { row := invoicePlacesRow, standIns := [], harness := (true, "992b21c8ec4abeaa62fa39d4b9048b012eef1fddf24099bb35f06df1be7fe9bf"), looks := false }, kinds := [], alts := [], laidByText := true, laidKinds := [.data, .data, .data, .data], laidTests := true, laidLooks := .later }
def InvoicePlacesCardSaid : Prop := Claim7.holds Tryd.pinned (.plain (OpenSpec.ofChange invoicePlacesSpec)) invoicePlacesCard

/-- THE TIED CARD OF 'billinglaw46.InvoiceTaxes'. -/
def invoiceTaxesCard : Claim7 := { stood := { row := invoiceTaxesRow, standIns := [], harness := (true, "992b21c8ec4abeaa62fa39d4b9048b012eef1fddf24099bb35f06df1be7fe9bf"), looks := false }, kinds := [], alts := [], laidByText := true, laidKinds := [.data, .data, .data, .data], laidTests := true, laidLooks := .later }
def InvoiceTaxesCardSaid : Prop := Claim7.holds Tryd.pinned (.plain (OpenSpec.ofChange invoiceTaxesSpec)) invoiceTaxesCard

/-- THE SECOND FORM's CARD OF 'billinglaw46.InvoiceLines'. -/
def invoiceLinesUptoCard : Claim7 := { stood := { row := invoiceLinesUptoRow, standIns := [], harness := (true, "992b21c8ec4abeaa62fa39d4b9048b012eef1fddf24099bb35f06df1be7fe9bf"), looks := false }, kinds := [], alts := [], laidByText := true, laidKinds := [.data, .data, .data, .data], laidTests := true, laidLooks := .later }
def InvoiceLinesUptoCardSaid : Prop := Claim7.holds Tryd.pinned (.plain (OpenSpec.upto invoiceLinesSpec)) invoiceLinesUptoCard

/-- THE SECOND FORM's CARD OF 'billinglaw46.InvoiceBuilds'. -/
def invoiceBuildsUptoCard : Claim7 := { stood := { row := invoiceBuildsUptoRow, standIns := [], harness := (true, "992b21c8ec4abeaa62fa39d4b9048b012eef1fddf24099bb35f06df1be7fe9bf"), looks := false }, kinds := [], alts := [], laidByText := true, laidKinds := [.data, .data, .data, .data], laidTests := true, laidLooks := .later }
def InvoiceBuildsUptoCardSaid : Prop := Claim7.holds Tryd.pinned (.plain (OpenSpec.upto invoiceBuildsSpec)) invoiceBuildsUptoCard

/-- THE SECOND FORM's CARD OF 'billinglaw46.InvoiceTexts'. -/
def invoiceTextsUptoCard : Claim7 := { stood := { row := invoiceTextsUptoRow, standIns := [], harness := (true, "992b21c8ec4abeaa62fa39d4b9048b012eef1fddf24099bb35f06df1be7fe9bf"), looks := false }, kinds := [], alts := [], laidByText := true, laidKinds := [.data, .data, .data, .data], laidTests := true, laidLooks := .later }
def InvoiceTextsUptoCardSaid : Prop := Claim7.holds Tryd.pinned (.plain (OpenSpec.upto invoiceTextsSpec)) invoiceTextsUptoCard

/-- THE SECOND FORM's CARD OF 'billinglaw46.InvoiceSums'. -/
def invoiceSumsUptoCard : Claim7 := { stood := { row := invoiceSumsUptoRow, standIns := [], harness := (true, "992b21c8ec4abeaa62fa39d4b9048b012eef1fddf24099bb35f06df1be7fe9bf"), looks := false }, kinds := [], alts := [], laidByText := true, laidKinds := [.data, .data, .data, .data], laidTests := true, laidLooks := .later }
def InvoiceSumsUptoCardSaid : Prop := Claim7.holds Tryd.pinned (.plain (OpenSpec.upto invoiceSumsSpec)) invoiceSumsUptoCard

/-- THE SECOND FORM's CARD OF 'billinglaw46.InvoiceTampered'. -/
def invoiceTamperedUptoCard : Claim7 := { stood := { row := invoiceTamperedUptoRow, standIns := [], harness := (true, "992b21c8ec4abeaa62fa39d4b9048b012eef1fddf24099bb35f06df1be7fe9bf"), looks := false }, kinds := [], alts := [], laidByText := true, laidKinds := [.data, .data, .data, .data], laidTests := true, laidLooks := .later }
def InvoiceTamperedUptoCardSaid : Prop := Claim7.holds Tryd.pinned (.plain (OpenSpec.upto invoiceTamperedSpec)) invoiceTamperedUptoCard

/-- THE SECOND FORM's CARD OF 'billinglaw46.InvoicePlaces'. -/
def invoicePlacesUptoCard : Claim7 := { stood := { row := invoicePlacesUptoRow, standIns := [], harness := (true, "992b21c8ec4abeaa62fa39d4b9048b012eef1fddf24099bb35f06df1be7fe9bf"), looks := false }, kinds := [], alts := [], laidByText := true, laidKinds := [.data, .data, .data, .data], laidTests := true, laidLooks := .later }
def InvoicePlacesUptoCardSaid : Prop := Claim7.holds Tryd.pinned (.plain (OpenSpec.upto invoicePlacesSpec)) invoicePlacesUptoCard

/-- THE SECOND FORM's CARD OF 'billinglaw46.InvoiceTaxes'. -/
def invoiceTaxesUptoCard : Claim7 := { stood := { row := invoiceTaxesUptoRow, standIns := [], harness := (true, "992b21c8ec4abeaa62fa39d4b9048b012eef1fddf24099bb35f06df1be7fe9bf"), looks := false }, kinds := [], alts := [], laidByText := true, laidKinds := [.data, .data, .data, .data], laidTests := true, laidLooks := .later }
def InvoiceTaxesUptoCardSaid : Prop := Claim7.holds Tryd.pinned (.plain (OpenSpec.upto invoiceTaxesSpec)) invoiceTaxesUptoCard
end Rows
end Go.Proofs.YtnlnadfpfekeiaaDoor
