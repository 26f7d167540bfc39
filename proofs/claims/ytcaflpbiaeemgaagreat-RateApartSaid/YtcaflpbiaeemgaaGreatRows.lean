/-
  NARROWER THAN 'FOR EVERY INPUT', by the rows' own cells (each row's printed sentence says how): RateOne: loops · RateQuote: loops · RateApart: loops.
  DERIVED. THE GIVEN ROWS OF THIS SEAT. 3 by the template 'for every input the law returns true; each argument reads behind the call as it read before'; 0 by the template 'total and deterministic' (their statements: YtcaflpbiaeemgaaGreatTotals.lean).
  GIVEN WITH THE SEED: the statements are not yours to turn. If you find one false, say at which input.
  Laid BY PROGRAM, IN A SANDBOX (cutbox-rows.mjs): the forced cells as the released guide's own fill.sh prints them over the translation 5cd6f7e5f23f163f… (all of the seat's roots in one cut). By AI agents, Wed Nov 11 2026. No macro, syntax, notation, axiom, sorry.
-/
import Derived.Test.YtcaflpbiaeemgaaGreatChecked
import GoSem.Claim
import GoSem.ClaimJoined
import GoSem.ClaimMapViews
import Derived.JoinedTies
import Derived.KernelRfl
namespace Go.Proofs.YtcaflpbiaeemgaaGreat
/- THE CELL 'sum', in the pinned program and in every row, IS THE sha256 OF THE DUMP (.gsa) THAT YtcaflpbiaeemgaaGreatProg.lean LOADS. Nothing in Lean hashes anything: it is a label: what it is worth is what the hold of that sum in a sandbox is worth. -/
noncomputable def Tryz.pinned : Pinned := { name := "ytcaflpbiaeemgaagreat", sum := "5cd6f7e5f23f163f49b1b4597456041e810bfbcb0a2105ceb0cd7bf2e36852d9", checked := Tryz.checked }
namespace Rows
def none {H : Type} : Left H := { results := [], args := [] }

/-- 'billinglaw37.RateOne': WHATEVER THE INPUT: true; the input reads as it did. -/
def rateOneSpec : ChangeSpec := { name := "rateOne", fn := fun _ => fun
  | [d1, d2] => { results := [.lit (.bool true)], args := [d1, d2] }
  | _ => none }
def rateOneRow : OpenClaim := { program := "ytcaflpbiaeemgaagreat", sum := "5cd6f7e5f23f163f49b1b4597456041e810bfbcb0a2105ceb0cd7bf2e36852d9", func := "billing/billinglaw37.RateOne", spec := "rateOne", unfollowed := true, recurses := true, loops := true, plainKeys := false, apart := false }
def RateOneSaid : Prop := rateOneRow.holds Tryz.pinned (OpenSpec.ofChange rateOneSpec)

/-- ITS FALSE NEIGHBOUR: 'it returns false'. Refute it at one input. -/
def rateOneWrong : ChangeSpec := { name := "rateOne", fn := fun _ => fun
  | [d1, d2] => { results := [.lit (.bool false)], args := [d1, d2] }
  | _ => none }
def RateOneWrongFalsely : Prop := rateOneRow.holds Tryz.pinned (OpenSpec.ofChange rateOneWrong)

/-- 'billinglaw37.RateQuote': WHATEVER THE INPUT: true; the input reads as it did. -/
def rateQuoteSpec : ChangeSpec := { name := "rateQuote", fn := fun _ => fun
  | [d1, d2] => { results := [.lit (.bool true)], args := [d1, d2] }
  | _ => none }
def rateQuoteRow : OpenClaim := { program := "ytcaflpbiaeemgaagreat", sum := "5cd6f7e5f23f163f49b1b4597456041e810bfbcb0a2105ceb0cd7bf2e36852d9", func := "billing/billinglaw37.RateQuote", spec := "rateQuote", unfollowed := true, recurses := true, loops := true, plainKeys := false, apart := false }
def RateQuoteSaid : Prop := rateQuoteRow.holds Tryz.pinned (OpenSpec.ofChange rateQuoteSpec)

/-- ITS FALSE NEIGHBOUR: 'it returns false'. Refute it at one input. -/
def rateQuoteWrong : ChangeSpec := { name := "rateQuote", fn := fun _ => fun
  | [d1, d2] => { results := [.lit (.bool false)], args := [d1, d2] }
  | _ => none }
def RateQuoteWrongFalsely : Prop := rateQuoteRow.holds Tryz.pinned (OpenSpec.ofChange rateQuoteWrong)

/-- 'billinglaw37.RateApart': WHATEVER THE INPUT: true; the input reads as it did. -/
def rateApartSpec : ChangeSpec := { name := "rateApart", fn := fun _ => fun
  | [d1, d2] => { results := [.lit (.bool true)], args := [d1, d2] }
  | _ => none }
def rateApartRow : OpenClaim := { program := "ytcaflpbiaeemgaagreat", sum := "5cd6f7e5f23f163f49b1b4597456041e810bfbcb0a2105ceb0cd7bf2e36852d9", func := "billing/billinglaw37.RateApart", spec := "rateApart", unfollowed := true, recurses := true, loops := true, plainKeys := false, apart := false }
def RateApartSaid : Prop := rateApartRow.holds Tryz.pinned (OpenSpec.ofChange rateApartSpec)

/-- ITS FALSE NEIGHBOUR: 'it returns false'. Refute it at one input. -/
def rateApartWrong : ChangeSpec := { name := "rateApart", fn := fun _ => fun
  | [d1, d2] => { results := [.lit (.bool false)], args := [d1, d2] }
  | _ => none }
def RateApartWrongFalsely : Prop := rateApartRow.holds Tryz.pinned (OpenSpec.ofChange rateApartWrong)

/- THE SECOND FORM. 'bulk': how many values and letters a reading holds, each counted each time it is reached (what is shared counts as often as it is met; a slice's spare places count too). A statement '..UptoSaid' is the law's where the arguments, and the package variables that the reading takes, are together of bulk at most 1048576: NARROWER than '..Said'. Prove '..Said' where nothing that the law and all that it calls make is longer than what came in: it says more and counts as full. Else prove '..UptoSaid'. A law counts once. -/
mutual
def uptoBulk {H : Type} : DataW H → Nat
  | .lit (.string bytes) => bytes.length + 1
  | .lit _ => 1
  | .nil => 1
  | .ptr d => uptoBulk d + 1
  | .slice elems spare => uptoBulkAll elems + uptoBulkAll spare + 1
  | .agg parts => uptoBulkAll parts + 1
  | .iface _ d => uptoBulk d + 1
  | .map entries => uptoBulkEntries entries + 1
  | .held _ => 1
def uptoBulkAll {H : Type} : List (DataW H) → Nat
  | [] => 0
  | d :: r => uptoBulk d + uptoBulkAll r
def uptoBulkEntries {H : Type} : List (Lit × DataW H) → Nat
  | [] => 0
  | x :: r => uptoBulkEntry x + uptoBulkEntries r
def uptoBulkEntry {H : Type} : Lit × DataW H → Nat
  | (.string bytes, d) => bytes.length + uptoBulk d + 1
  | (_, d) => uptoBulk d + 1
 end
def uptoSmall : (H : Type) → List (DataW H) → Bool := fun _ ds => decide (uptoBulkAll ds ≤ 1048576)
def OpenSpec.upto (s : _root_.Go.ChangeSpec) : _root_.Go.OpenSpec := { _root_.Go.OpenSpec.ofChange s with cond := some uptoSmall }

/-- 'billinglaw37.RateOne', WHERE WHAT IT READS IS OF BULK AT MOST 1048576: true; the input reads as it did. -/
def rateOneUptoRow : OpenClaim := { program := "ytcaflpbiaeemgaagreat", sum := "5cd6f7e5f23f163f49b1b4597456041e810bfbcb0a2105ceb0cd7bf2e36852d9", func := "billing/billinglaw37.RateOne", spec := "rateOne", unfollowed := true, recurses := true, loops := true, plainKeys := false, apart := false, narrowed := true }
def RateOneUptoSaid : Prop := rateOneUptoRow.holds Tryz.pinned (OpenSpec.upto rateOneSpec)

/-- 'billinglaw37.RateQuote', WHERE WHAT IT READS IS OF BULK AT MOST 1048576: true; the input reads as it did. -/
def rateQuoteUptoRow : OpenClaim := { program := "ytcaflpbiaeemgaagreat", sum := "5cd6f7e5f23f163f49b1b4597456041e810bfbcb0a2105ceb0cd7bf2e36852d9", func := "billing/billinglaw37.RateQuote", spec := "rateQuote", unfollowed := true, recurses := true, loops := true, plainKeys := false, apart := false, narrowed := true }
def RateQuoteUptoSaid : Prop := rateQuoteUptoRow.holds Tryz.pinned (OpenSpec.upto rateQuoteSpec)

/-- 'billinglaw37.RateApart', WHERE WHAT IT READS IS OF BULK AT MOST 1048576: true; the input reads as it did. -/
def rateApartUptoRow : OpenClaim := { program := "ytcaflpbiaeemgaagreat", sum := "5cd6f7e5f23f163f49b1b4597456041e810bfbcb0a2105ceb0cd7bf2e36852d9", func := "billing/billinglaw37.RateApart", spec := "rateApart", unfollowed := true, recurses := true, loops := true, plainKeys := false, apart := false, narrowed := true }
def RateApartUptoSaid : Prop := rateApartUptoRow.holds Tryz.pinned (OpenSpec.upto rateApartSpec)

end Rows
end Go.Proofs.YtcaflpbiaeemgaaGreat
