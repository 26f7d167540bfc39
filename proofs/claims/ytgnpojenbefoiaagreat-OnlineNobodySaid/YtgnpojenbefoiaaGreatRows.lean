/-
  NARROWER THAN 'FOR EVERY INPUT', by the rows' own cells (each row's printed sentence says how): OnlineOnce: loops · HistoryAnyhow: loops.
  DERIVED. THE GIVEN ROWS OF THIS SEAT. 4 by the template 'for every input the law returns true; each argument reads behind the call as it read before'; 0 by the template 'total and deterministic' (their statements: YtgnpojenbefoiaaGreatTotals.lean).
  GIVEN WITH THE SEED: the statements are not yours to turn. If you find one false, say at which input.
  Laid BY PROGRAM, IN A SANDBOX (cutbox-rows.mjs): the forced cells as the released guide's own fill.sh prints them over the translation 00d4acd25e4590fe… (all of the seat's roots in one cut). By AI agents, Wed Nov 11 2026. No macro, syntax, notation, axiom, sorry.
-/
import Derived.Test.YtgnpojenbefoiaaGreatChecked
import GoSem.Claim
import GoSem.ClaimJoined
import GoSem.ClaimMapViews
import Derived.JoinedTies
import Derived.KernelRfl
namespace Go.Proofs.YtgnpojenbefoiaaGreat
/- THE CELL 'sum', in the pinned program and in every row, IS THE sha256 OF THE DUMP (.gsa) THAT YtgnpojenbefoiaaGreatProg.lean LOADS. Nothing in Lean hashes anything: it is a label: what it is worth is what the hold of that sum in a sandbox is worth. -/
noncomputable def Tryz.pinned : Pinned := { name := "ytgnpojenbefoiaagreat", sum := "00d4acd25e4590fee38ac0ce36587dfb1e92cc73cd6afb341be06efee10ca12e", checked := Tryz.checked }
namespace Rows
def none {H : Type} : Left H := { results := [], args := [] }

/-- 'billinglaw40.SessionChecks': WHATEVER THE INPUT: true; the input reads as it did. -/
def sessionChecksSpec : ChangeSpec := { name := "sessionChecks", fn := fun _ => fun
  | [d1, d2] => { results := [.lit (.bool true)], args := [d1, d2] }
  | _ => none }
def sessionChecksRow : OpenClaim := { program := "ytgnpojenbefoiaagreat", sum := "00d4acd25e4590fee38ac0ce36587dfb1e92cc73cd6afb341be06efee10ca12e", func := "billing/billinglaw40.SessionChecks", spec := "sessionChecks", unfollowed := true, recurses := true, plainKeys := false, apart := false }
def SessionChecksSaid : Prop := sessionChecksRow.holds Tryz.pinned (OpenSpec.ofChange sessionChecksSpec)

/-- ITS FALSE NEIGHBOUR: 'it returns false'. Refute it at one input. -/
def sessionChecksWrong : ChangeSpec := { name := "sessionChecks", fn := fun _ => fun
  | [d1, d2] => { results := [.lit (.bool false)], args := [d1, d2] }
  | _ => none }
def SessionChecksWrongFalsely : Prop := sessionChecksRow.holds Tryz.pinned (OpenSpec.ofChange sessionChecksWrong)

/-- 'billinglaw41.OnlineNobody': WHATEVER THE INPUT: true; the input reads as it did. -/
def onlineNobodySpec : ChangeSpec := { name := "onlineNobody", fn := fun _ => fun
  | [d1, d2] => { results := [.lit (.bool true)], args := [d1, d2] }
  | _ => none }
def onlineNobodyRow : OpenClaim := { program := "ytgnpojenbefoiaagreat", sum := "00d4acd25e4590fee38ac0ce36587dfb1e92cc73cd6afb341be06efee10ca12e", func := "billing/billinglaw41.OnlineNobody", spec := "onlineNobody", unfollowed := true, recurses := true, plainKeys := false, apart := false }
def OnlineNobodySaid : Prop := onlineNobodyRow.holds Tryz.pinned (OpenSpec.ofChange onlineNobodySpec)

/-- ITS FALSE NEIGHBOUR: 'it returns false'. Refute it at one input. -/
def onlineNobodyWrong : ChangeSpec := { name := "onlineNobody", fn := fun _ => fun
  | [d1, d2] => { results := [.lit (.bool false)], args := [d1, d2] }
  | _ => none }
def OnlineNobodyWrongFalsely : Prop := onlineNobodyRow.holds Tryz.pinned (OpenSpec.ofChange onlineNobodyWrong)

/-- 'billinglaw41.OnlineOnce': WHATEVER THE INPUT: true; the input reads as it did. -/
def onlineOnceSpec : ChangeSpec := { name := "onlineOnce", fn := fun _ => fun
  | [d] => { results := [.lit (.bool true)], args := [d] }
  | _ => none }
def onlineOnceRow : OpenClaim := { program := "ytgnpojenbefoiaagreat", sum := "00d4acd25e4590fee38ac0ce36587dfb1e92cc73cd6afb341be06efee10ca12e", func := "billing/billinglaw41.OnlineOnce", spec := "onlineOnce", unfollowed := true, recurses := true, loops := true, plainKeys := false, apart := false }
def OnlineOnceSaid : Prop := onlineOnceRow.holds Tryz.pinned (OpenSpec.ofChange onlineOnceSpec)

/-- ITS FALSE NEIGHBOUR: 'it returns false'. Refute it at one input. -/
def onlineOnceWrong : ChangeSpec := { name := "onlineOnce", fn := fun _ => fun
  | [d] => { results := [.lit (.bool false)], args := [d] }
  | _ => none }
def OnlineOnceWrongFalsely : Prop := onlineOnceRow.holds Tryz.pinned (OpenSpec.ofChange onlineOnceWrong)

/-- 'billinglaw38.HistoryAnyhow': WHATEVER THE INPUT: true; the input reads as it did. -/
def historyAnyhowSpec : ChangeSpec := { name := "historyAnyhow", fn := fun _ => fun
  | [d1, d2, d3] => { results := [.lit (.bool true)], args := [d1, d2, d3] }
  | _ => none }
def historyAnyhowRow : OpenClaim := { program := "ytgnpojenbefoiaagreat", sum := "00d4acd25e4590fee38ac0ce36587dfb1e92cc73cd6afb341be06efee10ca12e", func := "billing/billinglaw38.HistoryAnyhow", spec := "historyAnyhow", unfollowed := true, recurses := true, loops := true, plainKeys := false, apart := false }
def HistoryAnyhowSaid : Prop := historyAnyhowRow.holds Tryz.pinned (OpenSpec.ofChange historyAnyhowSpec)

/-- ITS FALSE NEIGHBOUR: 'it returns false'. Refute it at one input. -/
def historyAnyhowWrong : ChangeSpec := { name := "historyAnyhow", fn := fun _ => fun
  | [d1, d2, d3] => { results := [.lit (.bool false)], args := [d1, d2, d3] }
  | _ => none }
def HistoryAnyhowWrongFalsely : Prop := historyAnyhowRow.holds Tryz.pinned (OpenSpec.ofChange historyAnyhowWrong)

/- THE SECOND FORM. 'bulk': how many values and letters a reading holds, each counted each time it is reached (what is shared counts as often as it is met; a slice's spare places count too). A statement '..UptoSaid' is the law's where the arguments, and the package variables that the reading takes, are together of bulk at most 1048576: NARROWER than '..Said'. Prove '..Said' where nothing that the law and all that it calls make is longer than what came in: it says more and counts as full. Else prove '..UptoSaid'. A law counts once. -/
mutual
def uptoBulk {H : Type} : DataW H → Nat
  | .lit (.string bytes) => bytes.length + 1
  | .lit _ => 1
  | .nil => 1
  | .ptr d => uptoBulk d + 1
  | .slice elems spare => uptoBulkAll elems + uptoBulkAll spare + 1
  | .agg parts => uptoBulkAll parts + 1
  | .iface _ d => uptoBulk d + 1
  | .map entries => uptoBulkEntries entries + 1
  | .held _ => 1
def uptoBulkAll {H : Type} : List (DataW H) → Nat
  | [] => 0
  | d :: r => uptoBulk d + uptoBulkAll r
def uptoBulkEntries {H : Type} : List (Lit × DataW H) → Nat
  | [] => 0
  | x :: r => uptoBulkEntry x + uptoBulkEntries r
def uptoBulkEntry {H : Type} : Lit × DataW H → Nat
  | (.string bytes, d) => bytes.length + uptoBulk d + 1
  | (_, d) => uptoBulk d + 1
 end
def uptoSmall : (H : Type) → List (DataW H) → Bool := fun _ ds => decide (uptoBulkAll ds ≤ 1048576)
def OpenSpec.upto (s : _root_.Go.ChangeSpec) : _root_.Go.OpenSpec := { _root_.Go.OpenSpec.ofChange s with cond := some uptoSmall }

/-- 'billinglaw40.SessionChecks', WHERE WHAT IT READS IS OF BULK AT MOST 1048576: true; the input reads as it did. -/
def sessionChecksUptoRow : OpenClaim := { program := "ytgnpojenbefoiaagreat", sum := "00d4acd25e4590fee38ac0ce36587dfb1e92cc73cd6afb341be06efee10ca12e", func := "billing/billinglaw40.SessionChecks", spec := "sessionChecks", unfollowed := true, recurses := true, plainKeys := false, apart := false, narrowed := true }
def SessionChecksUptoSaid : Prop := sessionChecksUptoRow.holds Tryz.pinned (OpenSpec.upto sessionChecksSpec)

/-- 'billinglaw41.OnlineNobody', WHERE WHAT IT READS IS OF BULK AT MOST 1048576: true; the input reads as it did. -/
def onlineNobodyUptoRow : OpenClaim := { program := "ytgnpojenbefoiaagreat", sum := "00d4acd25e4590fee38ac0ce36587dfb1e92cc73cd6afb341be06efee10ca12e", func := "billing/billinglaw41.OnlineNobody", spec := "onlineNobody", unfollowed := true, recurses := true, plainKeys := false, apart := false, narrowed := true }
def OnlineNobodyUptoSaid : Prop := onlineNobodyUptoRow.holds Tryz.pinned (OpenSpec.upto onlineNobodySpec)

/-- 'billinglaw41.OnlineOnce', WHERE WHAT IT READS IS OF BULK AT MOST 1048576: true; the input reads as it did. -/
def onlineOnceUptoRow : OpenClaim := { program := "ytgnpojenbefoiaagreat", sum := "00d4acd25e4590fee38ac0ce36587dfb1e92cc73cd6afb341be06efee10ca12e", func := "billing/billinglaw41.OnlineOnce", spec := "onlineOnce", unfollowed := true, recurses := true, loops := true, plainKeys := false, apart := false, narrowed := true }
def OnlineOnceUptoSaid : Prop := onlineOnceUptoRow.holds Tryz.pinned (OpenSpec.upto onlineOnceSpec)

/-- 'billinglaw38.HistoryAnyhow', WHERE WHAT IT READS IS OF BULK AT MOST 1048576: true; the input reads as it did. -/
def historyAnyhowUptoRow : OpenClaim := { program := "ytgnpojenbefoiaagreat", sum := "00d4acd25e4590fee38ac0ce36587dfb1e92cc73cd6afb341be06efee10ca12e", func := "billing/billinglaw38.HistoryAnyhow", spec := "historyAnyhow", unfollowed := true, recurses := true, loops := true, plainKeys := false, apart := false, narrowed := true }
def HistoryAnyhowUptoSaid : Prop := historyAnyhowUptoRow.holds Tryz.pinned (OpenSpec.upto historyAnyhowSpec)

end Rows
end Go.Proofs.YtgnpojenbefoiaaGreat
