/-
  DERIVED. GIVEN WITH THE SEED: THE CARDS: each row of YtjcniejccgofbaaDoorRows.lean that lists a variable, with what it lists TIED to the program's text (the seventh form; the later family's looks); each row that meets fmt, with fmt's text TOLD by the authors' own Lean function (tested against real Go, not proved from fmt's source: count such statements apart). THE CARD IS WHAT COUNTS. Prove the row's statement (the work); the ties are given (YtjcniejccgofbaaDoorTie.lean); close each card by the builder's one call (the guide's Derived/Test/ToyasCard.lean, 'card_holds'). Laid BY PROGRAM, IN A SANDBOX (cutbox-door.mjs). By AI agents, Wed Nov 11 2026. No macro, syntax, notation, axiom, sorry.
-/
import Derived.Test.YtjcniejccgofbaaDoorRows
import GoSem.ClaimSeven
namespace Go.Proofs.YtjcniejccgofbaaDoor
namespace Rows

/-- THE TIED CARD OF 'billinglaw01.AmountScales'. -/
def amountScalesCard : Claim7 := { stood := { row := amountScalesRow, standIns := [], harness := (true, "fad210967e209c7d3885355149286db7f8051611d1a76ebd06ee20d1ec0252a5"), looks := false }, kinds := [], alts := [], laidByText := true, laidKinds := [.data, .data, .data, .data, .data, .pinned], laidTests := true, laidLooks := .later }
def AmountScalesCardSaid : Prop := Claim7.holds Tryd.pinned (.plain (OpenSpec.ofChange amountScalesSpec)) amountScalesCard

/-- THE TIED CARD OF 'billinglaw01.AmountRounds'. -/
def amountRoundsCard : Claim7 := { stood := { row := amountRoundsRow, standIns := [], harness := (true, "fad210967e209c7d3885355149286db7f8051611d1a76ebd06ee20d1ec0252a5"), looks := false }, kinds := [], alts := [], laidByText := true, laidKinds := [.data, .data, .data, .data, .data, .pinned], laidTests := true, laidLooks := .later }
def AmountRoundsCardSaid : Prop := Claim7.holds Tryd.pinned (.plain (OpenSpec.ofChange amountRoundsSpec)) amountRoundsCard

/-- THE TIED CARD OF 'billinglaw01.AmountTotals'. -/
def amountTotalsCard : Claim7 := { stood := { row := amountTotalsRow, standIns := [], harness := (true, "fad210967e209c7d3885355149286db7f8051611d1a76ebd06ee20d1ec0252a5"), looks := false }, kinds := [], alts := [], laidByText := true, laidKinds := [.data, .data, .data, .data, .data, .pinned], laidTests := true, laidLooks := .later }
def AmountTotalsCardSaid : Prop := Claim7.holds Tryd.pinned (.plain (OpenSpec.ofChange amountTotalsSpec)) amountTotalsCard

/-- THE TIED CARD OF 'billinglaw01.AmountDivides'. -/
def amountDividesCard : Claim7 := { stood := { row := amountDividesRow, standIns := [], harness := (true, "fad210967e209c7d3885355149286db7f8051611d1a76ebd06ee20d1ec0252a5"), looks := false }, kinds := [], alts := [], laidByText := true, laidKinds := [.data, .data, .data, .data, .data, .pinned], laidTests := true, laidLooks := .later }
def AmountDividesCardSaid : Prop := Claim7.holds Tryd.pinned (.plain (OpenSpec.ofChange amountDividesSpec)) amountDividesCard

/-- THE TIED CARD OF 'billinglaw01.AmountSplit'. -/
def amountSplitCard : Claim7 := { stood := { row := amountSplitRow, standIns := [], harness := (true, "fad210967e209c7d3885355149286db7f8051611d1a76ebd06ee20d1ec0252a5"), looks := false }, kinds := [], alts := [], laidByText := true, laidKinds := [.data, .data, .data, .data, .data, .pinned], laidTests := true, laidLooks := .later }
def AmountSplitCardSaid : Prop := Claim7.holds Tryd.pinned (.plain (OpenSpec.ofChange amountSplitSpec)) amountSplitCard

/-- THE TIED CARD OF 'billinglaw01.AmountBack'. -/
def amountBackCard : Claim7 := { stood := { row := amountBackRow, standIns := [], harness := (true, "fad210967e209c7d3885355149286db7f8051611d1a76ebd06ee20d1ec0252a5"), looks := false }, kinds := [], alts := [], laidByText := true, laidKinds := [.data, .data, .data, .data, .data, .pinned], laidTests := true, laidLooks := .later }
def AmountBackCardSaid : Prop := Claim7.holds Tryd.pinned (.plain (OpenSpec.ofChange amountBackSpec)) amountBackCard

/-- THE TIED CARD OF 'billinglaw01.AmountParses'. -/
def amountParsesCard : Claim7 := { stood := { row := amountParsesRow, standIns := [], harness := (true, "fad210967e209c7d3885355149286db7f8051611d1a76ebd06ee20d1ec0252a5"), looks := false }, kinds := [], alts := [], laidByText := true, laidKinds := [.data, .data, .data, .data, .data, .pinned], laidTests := true, laidLooks := .later }
def AmountParsesCardSaid : Prop := Claim7.holds Tryd.pinned (.plain (OpenSpec.ofChange amountParsesSpec)) amountParsesCard

/-- THE TIED CARD OF 'billinglaw01.AmountPercents'. -/
def amountPercentsCard : Claim7 := { stood := { row := amountPercentsRow, standIns := [], harness := (true, "fad210967e209c7d3885355149286db7f8051611d1a76ebd06ee20d1ec0252a5"), looks := false }, kinds := [], alts := [], laidByText := true, laidKinds := [.data, .data, .data, .data, .data, .pinned], laidTests := true, laidLooks := .later }
def AmountPercentsCardSaid : Prop := Claim7.holds Tryd.pinned (.plain (OpenSpec.ofChange amountPercentsSpec)) amountPercentsCard

/-- THE TIED CARD OF 'billinglaw01.AmountAdds'. -/
def amountAddsCard : Claim7 := { stood := { row := amountAddsRow, standIns := [], harness := (true, "fad210967e209c7d3885355149286db7f8051611d1a76ebd06ee20d1ec0252a5"), looks := false }, kinds := [], alts := [], laidByText := true, laidKinds := [.data, .data, .data, .data, .data, .pinned], laidTests := true, laidLooks := .later }
def AmountAddsCardSaid : Prop := Claim7.holds Tryd.pinned (.plain (OpenSpec.ofChange amountAddsSpec)) amountAddsCard

/-- THE SECOND FORM's CARD OF 'billinglaw01.AmountScales'. -/
def amountScalesUptoCard : Claim7 := { stood := { row := amountScalesUptoRow, standIns := [], harness := (true, "fad210967e209c7d3885355149286db7f8051611d1a76ebd06ee20d1ec0252a5"), looks := false }, kinds := [], alts := [], laidByText := true, laidKinds := [.data, .data, .data, .data, .data, .pinned], laidTests := true, laidLooks := .later }
def AmountScalesUptoCardSaid : Prop := Claim7.holds Tryd.pinned (.plain (OpenSpec.upto amountScalesSpec)) amountScalesUptoCard

/-- THE SECOND FORM's CARD OF 'billinglaw01.AmountRounds'. -/
def amountRoundsUptoCard : Claim7 := { stood := { row := amountRoundsUptoRow, standIns := [], harness := (true, "fad210967e209c7d3885355149286db7f8051611d1a76ebd06ee20d1ec0252a5"), looks := false }, kinds := [], alts := [], laidByText := true, laidKinds := [.data, .data, .data, .data, .data, .pinned], laidTests := true, laidLooks := .later }
def AmountRoundsUptoCardSaid : Prop := Claim7.holds Tryd.pinned (.plain (OpenSpec.upto amountRoundsSpec)) amountRoundsUptoCard

/-- THE SECOND FORM's CARD OF 'billinglaw01.AmountTotals'. -/
def amountTotalsUptoCard : Claim7 := { stood := { row := amountTotalsUptoRow, standIns := [], harness := (true, "fad210967e209c7d3885355149286db7f8051611d1a76ebd06ee20d1ec0252a5"), looks := false }, kinds := [], alts := [], laidByText := true, laidKinds := [.data, .data, .data, .data, .data, .pinned], laidTests := true, laidLooks := .later }
def AmountTotalsUptoCardSaid : Prop := Claim7.holds Tryd.pinned (.plain (OpenSpec.upto amountTotalsSpec)) amountTotalsUptoCard

/-- THE SECOND FORM's CARD OF 'billinglaw01.AmountDivides'. -/
def amountDividesUptoCard : Claim7 := { stood := { row := amountDividesUptoRow, standIns := [], harness := (true, "fad210967e209c7d3885355149286db7f8051611d1a76ebd06ee20d1ec0252a5"), looks := false }, kinds := [], alts := [], laidByText := true, laidKinds := [.data, .data, .data, .data, .data, .pinned], laidTests := true, laidLooks := .later }
def AmountDividesUptoCardSaid : Prop := Claim7.holds Tryd.pinned (.plain (OpenSpec.upto amountDividesSpec)) amountDividesUptoCard

/-- THE SECOND FORM's CARD OF 'billinglaw01.AmountSplit'. -/
def amountSplitUptoCard : Claim7 := { stood := { row := amountSplitUptoRow, standIns := [], harness := (true, "fad210967e209c7d3885355149286db7f8051611d1a76ebd06ee20d1ec0252a5"), looks := false }, kinds := [], alts := [], laidByText := true, laidKinds := [.data, .data, .data, .data, .data, .pinned], laidTests := true, laidLooks := .later }
def AmountSplitUptoCardSaid : Prop := Claim7.holds Tryd.pinned (.plain (OpenSpec.upto amountSplitSpec)) amountSplitUptoCard

/-- THE SECOND FORM's CARD OF 'billinglaw01.AmountBack'. -/
def amountBackUptoCard : Claim7 := { stood := { row := amountBackUptoRow, standIns := [], harness := (true, "fad210967e209c7d3885355149286db7f8051611d1a76ebd06ee20d1ec0252a5"), looks := false }, kinds := [], alts := [], laidByText := true, laidKinds := [.data, .data, .data, .data, .data, .pinned], laidTests := true, laidLooks := .later }
def AmountBackUptoCardSaid : Prop := Claim7.holds Tryd.pinned (.plain (OpenSpec.upto amountBackSpec)) amountBackUptoCard

/-- THE SECOND FORM's CARD OF 'billinglaw01.AmountParses'. -/
def amountParsesUptoCard : Claim7 := { stood := { row := amountParsesUptoRow, standIns := [], harness := (true, "fad210967e209c7d3885355149286db7f8051611d1a76ebd06ee20d1ec0252a5"), looks := false }, kinds := [], alts := [], laidByText := true, laidKinds := [.data, .data, .data, .data, .data, .pinned], laidTests := true, laidLooks := .later }
def AmountParsesUptoCardSaid : Prop := Claim7.holds Tryd.pinned (.plain (OpenSpec.upto amountParsesSpec)) amountParsesUptoCard

/-- THE SECOND FORM's CARD OF 'billinglaw01.AmountPercents'. -/
def amountPercentsUptoCard : Claim7 := { stood := { row := amountPercentsUptoRow, standIns := [], harness := (true, "fad210967e209c7d3885355149286db7f8051611d1a76ebd06ee20d1ec0252a5"), looks := false }, kinds := [], alts := [], laidByText := true, laidKinds := [.data, .data, .data, .data, .data, .pinned], laidTests := true, laidLooks := .later }
def AmountPercentsUptoCardSaid : Prop := Claim7.holds Tryd.pinned (.plain (OpenSpec.upto amountPercentsSpec)) amountPercentsUptoCard

/-- THE SECOND FORM's CARD OF 'billinglaw01.AmountAdds'. -/
def amountAddsUptoCard : Claim7 := { stood := { row := amountAddsUptoRow, standIns := [], harness := (true, "fad210967e209c7d3885355149286db7f8051611d1a76ebd06ee20d1ec0252a5"), looks := false }, kinds := [], alts := [], laidByText := true, laidKinds := [.data, .data, .data, .data, .data, .pinned], laidTests := true, laidLooks := .later }
def AmountAddsUptoCardSaid : Prop := Claim7.holds Tryd.pinned (.plain (OpenSpec.upto amountAddsSpec)) amountAddsUptoCard
end Rows
end Go.Proofs.YtjcniejccgofbaaDoor
