/-
  No cell of these rows narrows 'for every input' (looked for: loops, veiled, ifaces, maps, wideKeys, modest, calm, conditions, laid).
  DERIVED. THE GIVEN ROWS OF THIS SEAT. 5 by the template 'for every input the law returns true; each argument reads behind the call as it read before'; 0 by the template 'total and deterministic' (their statements: YtaekakpannjacaaTotals.lean).
  GIVEN WITH THE SEED: the statements are not yours to turn. If you find one false, say at which input.
  Laid BY PROGRAM, IN A SANDBOX (cutbox-rows.mjs): the forced cells as the released guide's own fill.sh prints them over the translation f5e6c8130177e7c0… (all of the seat's roots in one cut). By AI agents, Wed Nov 11 2026. No macro, syntax, notation, axiom, sorry.
-/
import Derived.Test.YtaekakpannjacaaChecked
import GoSem.Claim
import GoSem.ClaimJoined
import GoSem.ClaimMapViews
import Derived.JoinedTies
import Derived.KernelRfl
namespace Go.Proofs.Ytaekakpannjacaa
/- THE CELL 'sum', in the pinned program and in every row, IS THE sha256 OF THE DUMP (.gsa) THAT YtaekakpannjacaaProg.lean LOADS. Nothing in Lean hashes anything: it is a label: what it is worth is what the hold of that sum in a sandbox is worth. -/
noncomputable def Try.pinned : Pinned := { name := "ytaekakpannjacaa", sum := "f5e6c8130177e7c0f199af4e1d4fb2f7a9428390618ab360cb98ed80a31011c4", checked := Try.checked }
namespace Rows
def none {H : Type} : Left H := { results := [], args := [] }

/-- 'billinglaw45.TaxChecks': WHATEVER THE INPUT: true; the input reads as it did. -/
def taxChecksSpec : ChangeSpec := { name := "taxChecks", fn := fun _ => fun
  | [d] => { results := [.lit (.bool true)], args := [d] }
  | _ => none }
def taxChecksRow : OpenClaim := { program := "ytaekakpannjacaa", sum := "f5e6c8130177e7c0f199af4e1d4fb2f7a9428390618ab360cb98ed80a31011c4", func := "billing/billinglaw45.TaxChecks", spec := "taxChecks", apart := false }
def TaxChecksSaid : Prop := taxChecksRow.holds Try.pinned (OpenSpec.ofChange taxChecksSpec)

/-- ITS FALSE NEIGHBOUR: 'it returns false'. Refute it at one input. -/
def taxChecksWrong : ChangeSpec := { name := "taxChecks", fn := fun _ => fun
  | [d] => { results := [.lit (.bool false)], args := [d] }
  | _ => none }
def TaxChecksWrongFalsely : Prop := taxChecksRow.holds Try.pinned (OpenSpec.ofChange taxChecksWrong)

/-- 'billinglaw45.TaxPoints': WHATEVER THE INPUT: true; the input reads as it did. -/
def taxPointsSpec : ChangeSpec := { name := "taxPoints", fn := fun _ => fun
  | [d1, d2, d3] => { results := [.lit (.bool true)], args := [d1, d2, d3] }
  | _ => none }
def taxPointsRow : OpenClaim := { program := "ytaekakpannjacaa", sum := "f5e6c8130177e7c0f199af4e1d4fb2f7a9428390618ab360cb98ed80a31011c4", func := "billing/billinglaw45.TaxPoints", spec := "taxPoints", apart := false }
def TaxPointsSaid : Prop := taxPointsRow.holds Try.pinned (OpenSpec.ofChange taxPointsSpec)

/-- ITS FALSE NEIGHBOUR: 'it returns false'. Refute it at one input. -/
def taxPointsWrong : ChangeSpec := { name := "taxPoints", fn := fun _ => fun
  | [d1, d2, d3] => { results := [.lit (.bool false)], args := [d1, d2, d3] }
  | _ => none }
def TaxPointsWrongFalsely : Prop := taxPointsRow.holds Try.pinned (OpenSpec.ofChange taxPointsWrong)

/-- 'billinglaw45.TaxLines': WHATEVER THE INPUT: true; the input reads as it did. -/
def taxLinesSpec : ChangeSpec := { name := "taxLines", fn := fun _ => fun
  | [d1, d2, d3] => { results := [.lit (.bool true)], args := [d1, d2, d3] }
  | _ => none }
def taxLinesRow : OpenClaim := { program := "ytaekakpannjacaa", sum := "f5e6c8130177e7c0f199af4e1d4fb2f7a9428390618ab360cb98ed80a31011c4", func := "billing/billinglaw45.TaxLines", spec := "taxLines", recurses := true, apart := false }
def TaxLinesSaid : Prop := taxLinesRow.holds Try.pinned (OpenSpec.ofChange taxLinesSpec)

/-- ITS FALSE NEIGHBOUR: 'it returns false'. Refute it at one input. -/
def taxLinesWrong : ChangeSpec := { name := "taxLines", fn := fun _ => fun
  | [d1, d2, d3] => { results := [.lit (.bool false)], args := [d1, d2, d3] }
  | _ => none }
def TaxLinesWrongFalsely : Prop := taxLinesRow.holds Try.pinned (OpenSpec.ofChange taxLinesWrong)

/-- 'billinglaw45.TaxSums': WHATEVER THE INPUT: true; the input reads as it did. -/
def taxSumsSpec : ChangeSpec := { name := "taxSums", fn := fun _ => fun
  | [d1, d2, d3] => { results := [.lit (.bool true)], args := [d1, d2, d3] }
  | _ => none }
def taxSumsRow : OpenClaim := { program := "ytaekakpannjacaa", sum := "f5e6c8130177e7c0f199af4e1d4fb2f7a9428390618ab360cb98ed80a31011c4", func := "billing/billinglaw45.TaxSums", spec := "taxSums", apart := false }
def TaxSumsSaid : Prop := taxSumsRow.holds Try.pinned (OpenSpec.ofChange taxSumsSpec)

/-- ITS FALSE NEIGHBOUR: 'it returns false'. Refute it at one input. -/
def taxSumsWrong : ChangeSpec := { name := "taxSums", fn := fun _ => fun
  | [d1, d2, d3] => { results := [.lit (.bool false)], args := [d1, d2, d3] }
  | _ => none }
def TaxSumsWrongFalsely : Prop := taxSumsRow.holds Try.pinned (OpenSpec.ofChange taxSumsWrong)

/-- 'billinglaw45.TaxExtracts': WHATEVER THE INPUT: true; the input reads as it did. -/
def taxExtractsSpec : ChangeSpec := { name := "taxExtracts", fn := fun _ => fun
  | [d1, d2] => { results := [.lit (.bool true)], args := [d1, d2] }
  | _ => none }
def taxExtractsRow : OpenClaim := { program := "ytaekakpannjacaa", sum := "f5e6c8130177e7c0f199af4e1d4fb2f7a9428390618ab360cb98ed80a31011c4", func := "billing/billinglaw45.TaxExtracts", spec := "taxExtracts", recurses := true, apart := false }
def TaxExtractsSaid : Prop := taxExtractsRow.holds Try.pinned (OpenSpec.ofChange taxExtractsSpec)

/-- ITS FALSE NEIGHBOUR: 'it returns false'. Refute it at one input. -/
def taxExtractsWrong : ChangeSpec := { name := "taxExtracts", fn := fun _ => fun
  | [d1, d2] => { results := [.lit (.bool false)], args := [d1, d2] }
  | _ => none }
def TaxExtractsWrongFalsely : Prop := taxExtractsRow.holds Try.pinned (OpenSpec.ofChange taxExtractsWrong)

/- THE SECOND FORM. 'bulk': how many values and letters a reading holds, each counted each time it is reached (what is shared counts as often as it is met; a slice's spare places count too). A statement '..UptoSaid' is the law's where the arguments, and the package variables that the reading takes, are together of bulk at most 1048576: NARROWER than '..Said'. Prove '..Said' where nothing that the law and all that it calls make is longer than what came in: it says more and counts as full. Else prove '..UptoSaid'. A law counts once. -/
mutual
def uptoBulk {H : Type} : DataW H → Nat
  | .lit (.string bytes) => bytes.length + 1
  | .lit _ => 1
  | .nil => 1
  | .ptr d => uptoBulk d + 1
  | .slice elems spare => uptoBulkAll elems + uptoBulkAll spare + 1
  | .agg parts => uptoBulkAll parts + 1
  | .iface _ d => uptoBulk d + 1
  | .map entries => uptoBulkEntries entries + 1
  | .held _ => 1
def uptoBulkAll {H : Type} : List (DataW H) → Nat
  | [] => 0
  | d :: r => uptoBulk d + uptoBulkAll r
def uptoBulkEntries {H : Type} : List (Lit × DataW H) → Nat
  | [] => 0
  | x :: r => uptoBulkEntry x + uptoBulkEntries r
def uptoBulkEntry {H : Type} : Lit × DataW H → Nat
  | (.string bytes, d) => bytes.length + uptoBulk d + 1
  | (_, d) => uptoBulk d + 1
 end
def uptoSmall : (H : Type) → List (DataW H) → Bool := fun _ ds => decide (uptoBulkAll ds ≤ 1048576)
def OpenSpec.upto (s : _root_.Go.ChangeSpec) : _root_.Go.OpenSpec := { _root_.Go.OpenSpec.ofChange s with cond := some uptoSmall }

/-- 'billinglaw45.TaxChecks', WHERE WHAT IT READS IS OF BULK AT MOST 1048576: true; the input reads as it did. -/
def taxChecksUptoRow : OpenClaim := { program := "ytaekakpannjacaa", sum := "f5e6c8130177e7c0f199af4e1d4fb2f7a9428390618ab360cb98ed80a31011c4", func := "billing/billinglaw45.TaxChecks", spec := "taxChecks", apart := false, narrowed := true }
def TaxChecksUptoSaid : Prop := taxChecksUptoRow.holds Try.pinned (OpenSpec.upto taxChecksSpec)

/-- 'billinglaw45.TaxPoints', WHERE WHAT IT READS IS OF BULK AT MOST 1048576: true; the input reads as it did. -/
def taxPointsUptoRow : OpenClaim := { program := "ytaekakpannjacaa", sum := "f5e6c8130177e7c0f199af4e1d4fb2f7a9428390618ab360cb98ed80a31011c4", func := "billing/billinglaw45.TaxPoints", spec := "taxPoints", apart := false, narrowed := true }
def TaxPointsUptoSaid : Prop := taxPointsUptoRow.holds Try.pinned (OpenSpec.upto taxPointsSpec)

/-- 'billinglaw45.TaxLines', WHERE WHAT IT READS IS OF BULK AT MOST 1048576: true; the input reads as it did. -/
def taxLinesUptoRow : OpenClaim := { program := "ytaekakpannjacaa", sum := "f5e6c8130177e7c0f199af4e1d4fb2f7a9428390618ab360cb98ed80a31011c4", func := "billing/billinglaw45.TaxLines", spec := "taxLines", recurses := true, apart := false, narrowed := true }
def TaxLinesUptoSaid : Prop := taxLinesUptoRow.holds Try.pinned (OpenSpec.upto taxLinesSpec)

/-- 'billinglaw45.TaxSums', WHERE WHAT IT READS IS OF BULK AT MOST 1048576: true; the input reads as it did. -/
def taxSumsUptoRow : OpenClaim := { program := "ytaekakpannjacaa", sum := "f5e6c8130177e7c0f199af4e1d4fb2f7a9428390618ab360cb98ed80a31011c4", func := "billing/billinglaw45.TaxSums", spec := "taxSums", apart := false, narrowed := true }
def TaxSumsUptoSaid : Prop := taxSumsUptoRow.holds Try.pinned (OpenSpec.upto taxSumsSpec)

/-- 'billinglaw45.TaxExtracts', WHERE WHAT IT READS IS OF BULK AT MOST 1048576: true; the input reads as it did. -/
def taxExtractsUptoRow : OpenClaim := { program := "ytaekakpannjacaa", sum := "f5e6c8130177e7c0f199af4e1d4fb2f7a9428390618ab360cb98ed80a31011c4", func := "billing/billinglaw45.TaxExtracts", spec := "taxExtracts", recurses := true, apart := false, narrowed := true }
def TaxExtractsUptoSaid : Prop := taxExtractsUptoRow.holds Try.pinned (OpenSpec.upto taxExtractsSpec)

end Rows
end Go.Proofs.Ytaekakpannjacaa
