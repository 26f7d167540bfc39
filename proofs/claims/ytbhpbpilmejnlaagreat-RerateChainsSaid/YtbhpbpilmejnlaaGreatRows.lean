/-
  No cell of these rows narrows 'for every input' (looked for: loops, veiled, ifaces, maps, wideKeys, modest, calm, conditions, laid).
  DERIVED. THE GIVEN ROWS OF THIS SEAT. 6 by the template 'for every input the law returns true; each argument reads behind the call as it read before'; 0 by the template 'total and deterministic' (their statements: YtbhpbpilmejnlaaGreatTotals.lean).
  GIVEN WITH THE SEED: the statements are not yours to turn. If you find one false, say at which input.
  Laid BY PROGRAM, IN A SANDBOX (cutbox-rows.mjs): the forced cells as the released guide's own fill.sh prints them over the translation 3c6c6ffd6f4a1d19… (all of the seat's roots in one cut). By AI agents, Wed Nov 11 2026. No macro, syntax, notation, axiom, sorry.
-/
import Derived.Test.YtbhpbpilmejnlaaGreatChecked
import GoSem.Claim
import GoSem.ClaimJoined
import GoSem.ClaimMapViews
import Derived.JoinedTies
import Derived.KernelRfl
namespace Go.Proofs.YtbhpbpilmejnlaaGreat
/- THE CELL 'sum', in the pinned program and in every row, IS THE sha256 OF THE DUMP (.gsa) THAT YtbhpbpilmejnlaaGreatProg.lean LOADS. Nothing in Lean hashes anything: it is a label: what it is worth is what the hold of that sum in a sandbox is worth. -/
noncomputable def Tryz.pinned : Pinned := { name := "ytbhpbpilmejnlaagreat", sum := "3c6c6ffd6f4a1d1970db46e24e05b3e6429fde404a9238ba6eb89bfd67b5a85e", checked := Tryz.checked }
namespace Rows
def none {H : Type} : Left H := { results := [], args := [] }

/-- 'billinglaw37.RateChecks': WHATEVER THE INPUT: true; the input reads as it did. -/
def rateChecksSpec : ChangeSpec := { name := "rateChecks", fn := fun _ => fun
  | [d] => { results := [.lit (.bool true)], args := [d] }
  | _ => none }
def rateChecksRow : OpenClaim := { program := "ytbhpbpilmejnlaagreat", sum := "3c6c6ffd6f4a1d1970db46e24e05b3e6429fde404a9238ba6eb89bfd67b5a85e", func := "billing/billinglaw37.RateChecks", spec := "rateChecks", unfollowed := true, recurses := true, plainKeys := false, apart := false }
def RateChecksSaid : Prop := rateChecksRow.holds Tryz.pinned (OpenSpec.ofChange rateChecksSpec)

/-- ITS FALSE NEIGHBOUR: 'it returns false'. Refute it at one input. -/
def rateChecksWrong : ChangeSpec := { name := "rateChecks", fn := fun _ => fun
  | [d] => { results := [.lit (.bool false)], args := [d] }
  | _ => none }
def RateChecksWrongFalsely : Prop := rateChecksRow.holds Tryz.pinned (OpenSpec.ofChange rateChecksWrong)

/-- 'billinglaw37.RateUnits': WHATEVER THE INPUT: true; the input reads as it did. -/
def rateUnitsSpec : ChangeSpec := { name := "rateUnits", fn := fun _ => fun
  | [d] => { results := [.lit (.bool true)], args := [d] }
  | _ => none }
def rateUnitsRow : OpenClaim := { program := "ytbhpbpilmejnlaagreat", sum := "3c6c6ffd6f4a1d1970db46e24e05b3e6429fde404a9238ba6eb89bfd67b5a85e", func := "billing/billinglaw37.RateUnits", spec := "rateUnits", unfollowed := true, recurses := true, plainKeys := false, apart := false }
def RateUnitsSaid : Prop := rateUnitsRow.holds Tryz.pinned (OpenSpec.ofChange rateUnitsSpec)

/-- ITS FALSE NEIGHBOUR: 'it returns false'. Refute it at one input. -/
def rateUnitsWrong : ChangeSpec := { name := "rateUnits", fn := fun _ => fun
  | [d] => { results := [.lit (.bool false)], args := [d] }
  | _ => none }
def RateUnitsWrongFalsely : Prop := rateUnitsRow.holds Tryz.pinned (OpenSpec.ofChange rateUnitsWrong)

/-- 'billinglaw38.HistoryTotals': WHATEVER THE INPUT: true; the input reads as it did. -/
def historyTotalsSpec : ChangeSpec := { name := "historyTotals", fn := fun _ => fun
  | [d] => { results := [.lit (.bool true)], args := [d] }
  | _ => none }
def historyTotalsRow : OpenClaim := { program := "ytbhpbpilmejnlaagreat", sum := "3c6c6ffd6f4a1d1970db46e24e05b3e6429fde404a9238ba6eb89bfd67b5a85e", func := "billing/billinglaw38.HistoryTotals", spec := "historyTotals", unfollowed := true, recurses := true, plainKeys := false, apart := false }
def HistoryTotalsSaid : Prop := historyTotalsRow.holds Tryz.pinned (OpenSpec.ofChange historyTotalsSpec)

/-- ITS FALSE NEIGHBOUR: 'it returns false'. Refute it at one input. -/
def historyTotalsWrong : ChangeSpec := { name := "historyTotals", fn := fun _ => fun
  | [d] => { results := [.lit (.bool false)], args := [d] }
  | _ => none }
def HistoryTotalsWrongFalsely : Prop := historyTotalsRow.holds Tryz.pinned (OpenSpec.ofChange historyTotalsWrong)

/-- 'billinglaw48.RerateAdjusts': WHATEVER THE INPUT: true; the input reads as it did. -/
def rerateAdjustsSpec : ChangeSpec := { name := "rerateAdjusts", fn := fun _ => fun
  | [d1, d2] => { results := [.lit (.bool true)], args := [d1, d2] }
  | _ => none }
def rerateAdjustsRow : OpenClaim := { program := "ytbhpbpilmejnlaagreat", sum := "3c6c6ffd6f4a1d1970db46e24e05b3e6429fde404a9238ba6eb89bfd67b5a85e", func := "billing/billinglaw48.RerateAdjusts", spec := "rerateAdjusts", unfollowed := true, recurses := true, plainKeys := false, apart := false }
def RerateAdjustsSaid : Prop := rerateAdjustsRow.holds Tryz.pinned (OpenSpec.ofChange rerateAdjustsSpec)

/-- ITS FALSE NEIGHBOUR: 'it returns false'. Refute it at one input. -/
def rerateAdjustsWrong : ChangeSpec := { name := "rerateAdjusts", fn := fun _ => fun
  | [d1, d2] => { results := [.lit (.bool false)], args := [d1, d2] }
  | _ => none }
def RerateAdjustsWrongFalsely : Prop := rerateAdjustsRow.holds Tryz.pinned (OpenSpec.ofChange rerateAdjustsWrong)

/-- 'billinglaw48.RerateMerges': WHATEVER THE INPUT: true; the input reads as it did. -/
def rerateMergesSpec : ChangeSpec := { name := "rerateMerges", fn := fun _ => fun
  | [d1, d2] => { results := [.lit (.bool true)], args := [d1, d2] }
  | _ => none }
def rerateMergesRow : OpenClaim := { program := "ytbhpbpilmejnlaagreat", sum := "3c6c6ffd6f4a1d1970db46e24e05b3e6429fde404a9238ba6eb89bfd67b5a85e", func := "billing/billinglaw48.RerateMerges", spec := "rerateMerges", unfollowed := true, recurses := true, plainKeys := false, apart := false }
def RerateMergesSaid : Prop := rerateMergesRow.holds Tryz.pinned (OpenSpec.ofChange rerateMergesSpec)

/-- ITS FALSE NEIGHBOUR: 'it returns false'. Refute it at one input. -/
def rerateMergesWrong : ChangeSpec := { name := "rerateMerges", fn := fun _ => fun
  | [d1, d2] => { results := [.lit (.bool false)], args := [d1, d2] }
  | _ => none }
def RerateMergesWrongFalsely : Prop := rerateMergesRow.holds Tryz.pinned (OpenSpec.ofChange rerateMergesWrong)

/-- 'billinglaw48.RerateChains': WHATEVER THE INPUT: true; the input reads as it did. -/
def rerateChainsSpec : ChangeSpec := { name := "rerateChains", fn := fun _ => fun
  | [d1, d2, d3] => { results := [.lit (.bool true)], args := [d1, d2, d3] }
  | _ => none }
def rerateChainsRow : OpenClaim := { program := "ytbhpbpilmejnlaagreat", sum := "3c6c6ffd6f4a1d1970db46e24e05b3e6429fde404a9238ba6eb89bfd67b5a85e", func := "billing/billinglaw48.RerateChains", spec := "rerateChains", unfollowed := true, recurses := true, plainKeys := false, apart := false }
def RerateChainsSaid : Prop := rerateChainsRow.holds Tryz.pinned (OpenSpec.ofChange rerateChainsSpec)

/-- ITS FALSE NEIGHBOUR: 'it returns false'. Refute it at one input. -/
def rerateChainsWrong : ChangeSpec := { name := "rerateChains", fn := fun _ => fun
  | [d1, d2, d3] => { results := [.lit (.bool false)], args := [d1, d2, d3] }
  | _ => none }
def RerateChainsWrongFalsely : Prop := rerateChainsRow.holds Tryz.pinned (OpenSpec.ofChange rerateChainsWrong)

/- THE SECOND FORM. 'bulk': how many values and letters a reading holds, each counted each time it is reached (what is shared counts as often as it is met; a slice's spare places count too). A statement '..UptoSaid' is the law's where the arguments, and the package variables that the reading takes, are together of bulk at most 1048576: NARROWER than '..Said'. Prove '..Said' where nothing that the law and all that it calls make is longer than what came in: it says more and counts as full. Else prove '..UptoSaid'. A law counts once. -/
mutual
def uptoBulk {H : Type} : DataW H → Nat
  | .lit (.string bytes) => bytes.length + 1
  | .lit _ => 1
  | .nil => 1
  | .ptr d => uptoBulk d + 1
  | .slice elems spare => uptoBulkAll elems + uptoBulkAll spare + 1
  | .agg parts => uptoBulkAll parts + 1
  | .iface _ d => uptoBulk d + 1
  | .map entries => uptoBulkEntries entries + 1
  | .held _ => 1
def uptoBulkAll {H : Type} : List (DataW H) → Nat
  | [] => 0
  | d :: r => uptoBulk d + uptoBulkAll r
def uptoBulkEntries {H : Type} : List (Lit × DataW H) → Nat
  | [] => 0
  | x :: r => uptoBulkEntry x + uptoBulkEntries r
def uptoBulkEntry {H : Type} : Lit × DataW H → Nat
  | (.string bytes, d) => bytes.length + uptoBulk d + 1
  | (_, d) => uptoBulk d + 1
 end
def uptoSmall : (H : Type) → List (DataW H) → Bool := fun _ ds => decide (uptoBulkAll ds ≤ 1048576)
def OpenSpec.upto (s : _root_.Go.ChangeSpec) : _root_.Go.OpenSpec := { _root_.Go.OpenSpec.ofChange s with cond := some uptoSmall }

/-- 'billinglaw37.RateChecks', WHERE WHAT IT READS IS OF BULK AT MOST 1048576: true; the input reads as it did. -/
def rateChecksUptoRow : OpenClaim := { program := "ytbhpbpilmejnlaagreat", sum := "3c6c6ffd6f4a1d1970db46e24e05b3e6429fde404a9238ba6eb89bfd67b5a85e", func := "billing/billinglaw37.RateChecks", spec := "rateChecks", unfollowed := true, recurses := true, plainKeys := false, apart := false, narrowed := true }
def RateChecksUptoSaid : Prop := rateChecksUptoRow.holds Tryz.pinned (OpenSpec.upto rateChecksSpec)

/-- 'billinglaw37.RateUnits', WHERE WHAT IT READS IS OF BULK AT MOST 1048576: true; the input reads as it did. -/
def rateUnitsUptoRow : OpenClaim := { program := "ytbhpbpilmejnlaagreat", sum := "3c6c6ffd6f4a1d1970db46e24e05b3e6429fde404a9238ba6eb89bfd67b5a85e", func := "billing/billinglaw37.RateUnits", spec := "rateUnits", unfollowed := true, recurses := true, plainKeys := false, apart := false, narrowed := true }
def RateUnitsUptoSaid : Prop := rateUnitsUptoRow.holds Tryz.pinned (OpenSpec.upto rateUnitsSpec)

/-- 'billinglaw38.HistoryTotals', WHERE WHAT IT READS IS OF BULK AT MOST 1048576: true; the input reads as it did. -/
def historyTotalsUptoRow : OpenClaim := { program := "ytbhpbpilmejnlaagreat", sum := "3c6c6ffd6f4a1d1970db46e24e05b3e6429fde404a9238ba6eb89bfd67b5a85e", func := "billing/billinglaw38.HistoryTotals", spec := "historyTotals", unfollowed := true, recurses := true, plainKeys := false, apart := false, narrowed := true }
def HistoryTotalsUptoSaid : Prop := historyTotalsUptoRow.holds Tryz.pinned (OpenSpec.upto historyTotalsSpec)

/-- 'billinglaw48.RerateAdjusts', WHERE WHAT IT READS IS OF BULK AT MOST 1048576: true; the input reads as it did. -/
def rerateAdjustsUptoRow : OpenClaim := { program := "ytbhpbpilmejnlaagreat", sum := "3c6c6ffd6f4a1d1970db46e24e05b3e6429fde404a9238ba6eb89bfd67b5a85e", func := "billing/billinglaw48.RerateAdjusts", spec := "rerateAdjusts", unfollowed := true, recurses := true, plainKeys := false, apart := false, narrowed := true }
def RerateAdjustsUptoSaid : Prop := rerateAdjustsUptoRow.holds Tryz.pinned (OpenSpec.upto rerateAdjustsSpec)

/-- 'billinglaw48.RerateMerges', WHERE WHAT IT READS IS OF BULK AT MOST 1048576: true; the input reads as it did. -/
def rerateMergesUptoRow : OpenClaim := { program := "ytbhpbpilmejnlaagreat", sum := "3c6c6ffd6f4a1d1970db46e24e05b3e6429fde404a9238ba6eb89bfd67b5a85e", func := "billing/billinglaw48.RerateMerges", spec := "rerateMerges", unfollowed := true, recurses := true, plainKeys := false, apart := false, narrowed := true }
def RerateMergesUptoSaid : Prop := rerateMergesUptoRow.holds Tryz.pinned (OpenSpec.upto rerateMergesSpec)

/-- 'billinglaw48.RerateChains', WHERE WHAT IT READS IS OF BULK AT MOST 1048576: true; the input reads as it did. -/
def rerateChainsUptoRow : OpenClaim := { program := "ytbhpbpilmejnlaagreat", sum := "3c6c6ffd6f4a1d1970db46e24e05b3e6429fde404a9238ba6eb89bfd67b5a85e", func := "billing/billinglaw48.RerateChains", spec := "rerateChains", unfollowed := true, recurses := true, plainKeys := false, apart := false, narrowed := true }
def RerateChainsUptoSaid : Prop := rerateChainsUptoRow.holds Tryz.pinned (OpenSpec.upto rerateChainsSpec)

end Rows
end Go.Proofs.YtbhpbpilmejnlaaGreat
