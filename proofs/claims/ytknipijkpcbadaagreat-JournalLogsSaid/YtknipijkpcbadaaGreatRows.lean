/-
  NARROWER THAN 'FOR EVERY INPUT', by the rows' own cells (each row's printed sentence says how): OnlineOnce: loops · OnlineClone: loops · JournalPrefix: loops · JournalAgain: loops.
  DERIVED. THE GIVEN ROWS OF THIS SEAT. 10 by the template 'for every input the law returns true; each argument reads behind the call as it read before'; 0 by the template 'total and deterministic' (their statements: YtknipijkpcbadaaGreatTotals.lean).
  GIVEN WITH THE SEED: the statements are not yours to turn. If you find one false, say at which input.
  Laid BY PROGRAM, IN A SANDBOX (cutbox-rows.mjs): the forced cells as the released guide's own fill.sh prints them over the translation 8c6a7a6d678303a8… (all of the seat's roots in one cut). By AI agents, Wed Nov 11 2026. No macro, syntax, notation, axiom, sorry.
-/
import Derived.Test.YtknipijkpcbadaaGreatChecked
import GoSem.Claim
import GoSem.ClaimJoined
import GoSem.ClaimMapViews
import Derived.JoinedTies
import Derived.KernelRfl
namespace Go.Proofs.YtknipijkpcbadaaGreat
/- THE CELL 'sum', in the pinned program and in every row, IS THE sha256 OF THE DUMP (.gsa) THAT YtknipijkpcbadaaGreatProg.lean LOADS. Nothing in Lean hashes anything: it is a label: what it is worth is what the hold of that sum in a sandbox is worth. -/
noncomputable def Tryz.pinned : Pinned := { name := "ytknipijkpcbadaagreat", sum := "8c6a7a6d678303a8a969b47aaaa4588d66344e7acd99b7043983bdb47986cb29", checked := Tryz.checked }
namespace Rows
def none {H : Type} : Left H := { results := [], args := [] }

/-- 'billinglaw40.SessionChecks': WHATEVER THE INPUT: true; the input reads as it did. -/
def sessionChecksSpec : ChangeSpec := { name := "sessionChecks", fn := fun _ => fun
  | [d1, d2] => { results := [.lit (.bool true)], args := [d1, d2] }
  | _ => none }
def sessionChecksRow : OpenClaim := { program := "ytknipijkpcbadaagreat", sum := "8c6a7a6d678303a8a969b47aaaa4588d66344e7acd99b7043983bdb47986cb29", func := "billing/billinglaw40.SessionChecks", spec := "sessionChecks", unfollowed := true, recurses := true, plainKeys := false, apart := false }
def SessionChecksSaid : Prop := sessionChecksRow.holds Tryz.pinned (OpenSpec.ofChange sessionChecksSpec)

/-- ITS FALSE NEIGHBOUR: 'it returns false'. Refute it at one input. -/
def sessionChecksWrong : ChangeSpec := { name := "sessionChecks", fn := fun _ => fun
  | [d1, d2] => { results := [.lit (.bool false)], args := [d1, d2] }
  | _ => none }
def SessionChecksWrongFalsely : Prop := sessionChecksRow.holds Tryz.pinned (OpenSpec.ofChange sessionChecksWrong)

/-- 'billinglaw42.JournalCodes': WHATEVER THE INPUT: true; the input reads as it did. -/
def journalCodesSpec : ChangeSpec := { name := "journalCodes", fn := fun _ => fun
  | [d1, d2] => { results := [.lit (.bool true)], args := [d1, d2] }
  | _ => none }
def journalCodesRow : OpenClaim := { program := "ytknipijkpcbadaagreat", sum := "8c6a7a6d678303a8a969b47aaaa4588d66344e7acd99b7043983bdb47986cb29", func := "billing/billinglaw42.JournalCodes", spec := "journalCodes", unfollowed := true, recurses := true, plainKeys := false, apart := false }
def JournalCodesSaid : Prop := journalCodesRow.holds Tryz.pinned (OpenSpec.ofChange journalCodesSpec)

/-- ITS FALSE NEIGHBOUR: 'it returns false'. Refute it at one input. -/
def journalCodesWrong : ChangeSpec := { name := "journalCodes", fn := fun _ => fun
  | [d1, d2] => { results := [.lit (.bool false)], args := [d1, d2] }
  | _ => none }
def JournalCodesWrongFalsely : Prop := journalCodesRow.holds Tryz.pinned (OpenSpec.ofChange journalCodesWrong)

/-- 'billinglaw42.JournalBack': WHATEVER THE INPUT: true; the input reads as it did. -/
def journalBackSpec : ChangeSpec := { name := "journalBack", fn := fun _ => fun
  | [d1, d2] => { results := [.lit (.bool true)], args := [d1, d2] }
  | _ => none }
def journalBackRow : OpenClaim := { program := "ytknipijkpcbadaagreat", sum := "8c6a7a6d678303a8a969b47aaaa4588d66344e7acd99b7043983bdb47986cb29", func := "billing/billinglaw42.JournalBack", spec := "journalBack", unfollowed := true, recurses := true, plainKeys := false, apart := false }
def JournalBackSaid : Prop := journalBackRow.holds Tryz.pinned (OpenSpec.ofChange journalBackSpec)

/-- ITS FALSE NEIGHBOUR: 'it returns false'. Refute it at one input. -/
def journalBackWrong : ChangeSpec := { name := "journalBack", fn := fun _ => fun
  | [d1, d2] => { results := [.lit (.bool false)], args := [d1, d2] }
  | _ => none }
def JournalBackWrongFalsely : Prop := journalBackRow.holds Tryz.pinned (OpenSpec.ofChange journalBackWrong)

/-- 'billinglaw42.JournalLogs': WHATEVER THE INPUT: true; the input reads as it did. -/
def journalLogsSpec : ChangeSpec := { name := "journalLogs", fn := fun _ => fun
  | [d] => { results := [.lit (.bool true)], args := [d] }
  | _ => none }
def journalLogsRow : OpenClaim := { program := "ytknipijkpcbadaagreat", sum := "8c6a7a6d678303a8a969b47aaaa4588d66344e7acd99b7043983bdb47986cb29", func := "billing/billinglaw42.JournalLogs", spec := "journalLogs", unfollowed := true, recurses := true, plainKeys := false, apart := false }
def JournalLogsSaid : Prop := journalLogsRow.holds Tryz.pinned (OpenSpec.ofChange journalLogsSpec)

/-- ITS FALSE NEIGHBOUR: 'it returns false'. Refute it at one input. -/
def journalLogsWrong : ChangeSpec := { name := "journalLogs", fn := fun _ => fun
  | [d] => { results := [.lit (.bool false)], args := [d] }
  | _ => none }
def JournalLogsWrongFalsely : Prop := journalLogsRow.holds Tryz.pinned (OpenSpec.ofChange journalLogsWrong)

/-- 'billinglaw42.JournalNobody': WHATEVER THE INPUT: true; the input reads as it did. -/
def journalNobodySpec : ChangeSpec := { name := "journalNobody", fn := fun _ => fun
  | [d1, d2] => { results := [.lit (.bool true)], args := [d1, d2] }
  | _ => none }
def journalNobodyRow : OpenClaim := { program := "ytknipijkpcbadaagreat", sum := "8c6a7a6d678303a8a969b47aaaa4588d66344e7acd99b7043983bdb47986cb29", func := "billing/billinglaw42.JournalNobody", spec := "journalNobody", unfollowed := true, recurses := true, plainKeys := false, apart := false }
def JournalNobodySaid : Prop := journalNobodyRow.holds Tryz.pinned (OpenSpec.ofChange journalNobodySpec)

/-- ITS FALSE NEIGHBOUR: 'it returns false'. Refute it at one input. -/
def journalNobodyWrong : ChangeSpec := { name := "journalNobody", fn := fun _ => fun
  | [d1, d2] => { results := [.lit (.bool false)], args := [d1, d2] }
  | _ => none }
def JournalNobodyWrongFalsely : Prop := journalNobodyRow.holds Tryz.pinned (OpenSpec.ofChange journalNobodyWrong)

/-- 'billinglaw41.OnlineOnce': WHATEVER THE INPUT: true; the input reads as it did. -/
def onlineOnceSpec : ChangeSpec := { name := "onlineOnce", fn := fun _ => fun
  | [d] => { results := [.lit (.bool true)], args := [d] }
  | _ => none }
def onlineOnceRow : OpenClaim := { program := "ytknipijkpcbadaagreat", sum := "8c6a7a6d678303a8a969b47aaaa4588d66344e7acd99b7043983bdb47986cb29", func := "billing/billinglaw41.OnlineOnce", spec := "onlineOnce", unfollowed := true, recurses := true, loops := true, plainKeys := false, apart := false }
def OnlineOnceSaid : Prop := onlineOnceRow.holds Tryz.pinned (OpenSpec.ofChange onlineOnceSpec)

/-- ITS FALSE NEIGHBOUR: 'it returns false'. Refute it at one input. -/
def onlineOnceWrong : ChangeSpec := { name := "onlineOnce", fn := fun _ => fun
  | [d] => { results := [.lit (.bool false)], args := [d] }
  | _ => none }
def OnlineOnceWrongFalsely : Prop := onlineOnceRow.holds Tryz.pinned (OpenSpec.ofChange onlineOnceWrong)

/-- 'billinglaw41.OnlineClone': WHATEVER THE INPUT: true; the input reads as it did. -/
def onlineCloneSpec : ChangeSpec := { name := "onlineClone", fn := fun _ => fun
  | [d1, d2] => { results := [.lit (.bool true)], args := [d1, d2] }
  | _ => none }
def onlineCloneRow : OpenClaim := { program := "ytknipijkpcbadaagreat", sum := "8c6a7a6d678303a8a969b47aaaa4588d66344e7acd99b7043983bdb47986cb29", func := "billing/billinglaw41.OnlineClone", spec := "onlineClone", unfollowed := true, recurses := true, loops := true, plainKeys := false, apart := false }
def OnlineCloneSaid : Prop := onlineCloneRow.holds Tryz.pinned (OpenSpec.ofChange onlineCloneSpec)

/-- ITS FALSE NEIGHBOUR: 'it returns false'. Refute it at one input. -/
def onlineCloneWrong : ChangeSpec := { name := "onlineClone", fn := fun _ => fun
  | [d1, d2] => { results := [.lit (.bool false)], args := [d1, d2] }
  | _ => none }
def OnlineCloneWrongFalsely : Prop := onlineCloneRow.holds Tryz.pinned (OpenSpec.ofChange onlineCloneWrong)

/-- 'billinglaw41.OnlineNobody': WHATEVER THE INPUT: true; the input reads as it did. -/
def onlineNobodySpec : ChangeSpec := { name := "onlineNobody", fn := fun _ => fun
  | [d1, d2] => { results := [.lit (.bool true)], args := [d1, d2] }
  | _ => none }
def onlineNobodyRow : OpenClaim := { program := "ytknipijkpcbadaagreat", sum := "8c6a7a6d678303a8a969b47aaaa4588d66344e7acd99b7043983bdb47986cb29", func := "billing/billinglaw41.OnlineNobody", spec := "onlineNobody", unfollowed := true, recurses := true, plainKeys := false, apart := false }
def OnlineNobodySaid : Prop := onlineNobodyRow.holds Tryz.pinned (OpenSpec.ofChange onlineNobodySpec)

/-- ITS FALSE NEIGHBOUR: 'it returns false'. Refute it at one input. -/
def onlineNobodyWrong : ChangeSpec := { name := "onlineNobody", fn := fun _ => fun
  | [d1, d2] => { results := [.lit (.bool false)], args := [d1, d2] }
  | _ => none }
def OnlineNobodyWrongFalsely : Prop := onlineNobodyRow.holds Tryz.pinned (OpenSpec.ofChange onlineNobodyWrong)

/-- 'billinglaw42.JournalPrefix': WHATEVER THE INPUT: true; the input reads as it did. -/
def journalPrefixSpec : ChangeSpec := { name := "journalPrefix", fn := fun _ => fun
  | [d1, d2, d3] => { results := [.lit (.bool true)], args := [d1, d2, d3] }
  | _ => none }
def journalPrefixRow : OpenClaim := { program := "ytknipijkpcbadaagreat", sum := "8c6a7a6d678303a8a969b47aaaa4588d66344e7acd99b7043983bdb47986cb29", func := "billing/billinglaw42.JournalPrefix", spec := "journalPrefix", unfollowed := true, recurses := true, loops := true, plainKeys := false, apart := false }
def JournalPrefixSaid : Prop := journalPrefixRow.holds Tryz.pinned (OpenSpec.ofChange journalPrefixSpec)

/-- ITS FALSE NEIGHBOUR: 'it returns false'. Refute it at one input. -/
def journalPrefixWrong : ChangeSpec := { name := "journalPrefix", fn := fun _ => fun
  | [d1, d2, d3] => { results := [.lit (.bool false)], args := [d1, d2, d3] }
  | _ => none }
def JournalPrefixWrongFalsely : Prop := journalPrefixRow.holds Tryz.pinned (OpenSpec.ofChange journalPrefixWrong)

/-- 'billinglaw42.JournalAgain': WHATEVER THE INPUT: true; the input reads as it did. -/
def journalAgainSpec : ChangeSpec := { name := "journalAgain", fn := fun _ => fun
  | [d] => { results := [.lit (.bool true)], args := [d] }
  | _ => none }
def journalAgainRow : OpenClaim := { program := "ytknipijkpcbadaagreat", sum := "8c6a7a6d678303a8a969b47aaaa4588d66344e7acd99b7043983bdb47986cb29", func := "billing/billinglaw42.JournalAgain", spec := "journalAgain", unfollowed := true, recurses := true, loops := true, plainKeys := false, apart := false }
def JournalAgainSaid : Prop := journalAgainRow.holds Tryz.pinned (OpenSpec.ofChange journalAgainSpec)

/-- ITS FALSE NEIGHBOUR: 'it returns false'. Refute it at one input. -/
def journalAgainWrong : ChangeSpec := { name := "journalAgain", fn := fun _ => fun
  | [d] => { results := [.lit (.bool false)], args := [d] }
  | _ => none }
def JournalAgainWrongFalsely : Prop := journalAgainRow.holds Tryz.pinned (OpenSpec.ofChange journalAgainWrong)

/- THE SECOND FORM. 'bulk': how many values and letters a reading holds, each counted each time it is reached (what is shared counts as often as it is met; a slice's spare places count too). A statement '..UptoSaid' is the law's where the arguments, and the package variables that the reading takes, are together of bulk at most 1048576: NARROWER than '..Said'. Prove '..Said' where nothing that the law and all that it calls make is longer than what came in: it says more and counts as full. Else prove '..UptoSaid'. A law counts once. -/
mutual
def uptoBulk {H : Type} : DataW H → Nat
  | .lit (.string bytes) => bytes.length + 1
  | .lit _ => 1
  | .nil => 1
  | .ptr d => uptoBulk d + 1
  | .slice elems spare => uptoBulkAll elems + uptoBulkAll spare + 1
  | .agg parts => uptoBulkAll parts + 1
  | .iface _ d => uptoBulk d + 1
  | .map entries => uptoBulkEntries entries + 1
  | .held _ => 1
def uptoBulkAll {H : Type} : List (DataW H) → Nat
  | [] => 0
  | d :: r => uptoBulk d + uptoBulkAll r
def uptoBulkEntries {H : Type} : List (Lit × DataW H) → Nat
  | [] => 0
  | x :: r => uptoBulkEntry x + uptoBulkEntries r
def uptoBulkEntry {H : Type} : Lit × DataW H → Nat
  | (.string bytes, d) => bytes.length + uptoBulk d + 1
  | (_, d) => uptoBulk d + 1
 end
def uptoSmall : (H : Type) → List (DataW H) → Bool := fun _ ds => decide (uptoBulkAll ds ≤ 1048576)
def OpenSpec.upto (s : _root_.Go.ChangeSpec) : _root_.Go.OpenSpec := { _root_.Go.OpenSpec.ofChange s with cond := some uptoSmall }

/-- 'billinglaw40.SessionChecks', WHERE WHAT IT READS IS OF BULK AT MOST 1048576: true; the input reads as it did. -/
def sessionChecksUptoRow : OpenClaim := { program := "ytknipijkpcbadaagreat", sum := "8c6a7a6d678303a8a969b47aaaa4588d66344e7acd99b7043983bdb47986cb29", func := "billing/billinglaw40.SessionChecks", spec := "sessionChecks", unfollowed := true, recurses := true, plainKeys := false, apart := false, narrowed := true }
def SessionChecksUptoSaid : Prop := sessionChecksUptoRow.holds Tryz.pinned (OpenSpec.upto sessionChecksSpec)

/-- 'billinglaw42.JournalCodes', WHERE WHAT IT READS IS OF BULK AT MOST 1048576: true; the input reads as it did. -/
def journalCodesUptoRow : OpenClaim := { program := "ytknipijkpcbadaagreat", sum := "8c6a7a6d678303a8a969b47aaaa4588d66344e7acd99b7043983bdb47986cb29", func := "billing/billinglaw42.JournalCodes", spec := "journalCodes", unfollowed := true, recurses := true, plainKeys := false, apart := false, narrowed := true }
def JournalCodesUptoSaid : Prop := journalCodesUptoRow.holds Tryz.pinned (OpenSpec.upto journalCodesSpec)

/-- 'billinglaw42.JournalBack', WHERE WHAT IT READS IS OF BULK AT MOST 1048576: true; the input reads as it did. -/
def journalBackUptoRow : OpenClaim := { program := "ytknipijkpcbadaagreat", sum := "8c6a7a6d678303a8a969b47aaaa4588d66344e7acd99b7043983bdb47986cb29", func := "billing/billinglaw42.JournalBack", spec := "journalBack", unfollowed := true, recurses := true, plainKeys := false, apart := false, narrowed := true }
def JournalBackUptoSaid : Prop := journalBackUptoRow.holds Tryz.pinned (OpenSpec.upto journalBackSpec)

/-- 'billinglaw42.JournalLogs', WHERE WHAT IT READS IS OF BULK AT MOST 1048576: true; the input reads as it did. -/
def journalLogsUptoRow : OpenClaim := { program := "ytknipijkpcbadaagreat", sum := "8c6a7a6d678303a8a969b47aaaa4588d66344e7acd99b7043983bdb47986cb29", func := "billing/billinglaw42.JournalLogs", spec := "journalLogs", unfollowed := true, recurses := true, plainKeys := false, apart := false, narrowed := true }
def JournalLogsUptoSaid : Prop := journalLogsUptoRow.holds Tryz.pinned (OpenSpec.upto journalLogsSpec)

/-- 'billinglaw42.JournalNobody', WHERE WHAT IT READS IS OF BULK AT MOST 1048576: true; the input reads as it did. -/
def journalNobodyUptoRow : OpenClaim := { program := "ytknipijkpcbadaagreat", sum := "8c6a7a6d678303a8a969b47aaaa4588d66344e7acd99b7043983bdb47986cb29", func := "billing/billinglaw42.JournalNobody", spec := "journalNobody", unfollowed := true, recurses := true, plainKeys := false, apart := false, narrowed := true }
def JournalNobodyUptoSaid : Prop := journalNobodyUptoRow.holds Tryz.pinned (OpenSpec.upto journalNobodySpec)

/-- 'billinglaw41.OnlineOnce', WHERE WHAT IT READS IS OF BULK AT MOST 1048576: true; the input reads as it did. -/
def onlineOnceUptoRow : OpenClaim := { program := "ytknipijkpcbadaagreat", sum := "8c6a7a6d678303a8a969b47aaaa4588d66344e7acd99b7043983bdb47986cb29", func := "billing/billinglaw41.OnlineOnce", spec := "onlineOnce", unfollowed := true, recurses := true, loops := true, plainKeys := false, apart := false, narrowed := true }
def OnlineOnceUptoSaid : Prop := onlineOnceUptoRow.holds Tryz.pinned (OpenSpec.upto onlineOnceSpec)

/-- 'billinglaw41.OnlineClone', WHERE WHAT IT READS IS OF BULK AT MOST 1048576: true; the input reads as it did. -/
def onlineCloneUptoRow : OpenClaim := { program := "ytknipijkpcbadaagreat", sum := "8c6a7a6d678303a8a969b47aaaa4588d66344e7acd99b7043983bdb47986cb29", func := "billing/billinglaw41.OnlineClone", spec := "onlineClone", unfollowed := true, recurses := true, loops := true, plainKeys := false, apart := false, narrowed := true }
def OnlineCloneUptoSaid : Prop := onlineCloneUptoRow.holds Tryz.pinned (OpenSpec.upto onlineCloneSpec)

/-- 'billinglaw41.OnlineNobody', WHERE WHAT IT READS IS OF BULK AT MOST 1048576: true; the input reads as it did. -/
def onlineNobodyUptoRow : OpenClaim := { program := "ytknipijkpcbadaagreat", sum := "8c6a7a6d678303a8a969b47aaaa4588d66344e7acd99b7043983bdb47986cb29", func := "billing/billinglaw41.OnlineNobody", spec := "onlineNobody", unfollowed := true, recurses := true, plainKeys := false, apart := false, narrowed := true }
def OnlineNobodyUptoSaid : Prop := onlineNobodyUptoRow.holds Tryz.pinned (OpenSpec.upto onlineNobodySpec)

/-- 'billinglaw42.JournalPrefix', WHERE WHAT IT READS IS OF BULK AT MOST 1048576: true; the input reads as it did. -/
def journalPrefixUptoRow : OpenClaim := { program := "ytknipijkpcbadaagreat", sum := "8c6a7a6d678303a8a969b47aaaa4588d66344e7acd99b7043983bdb47986cb29", func := "billing/billinglaw42.JournalPrefix", spec := "journalPrefix", unfollowed := true, recurses := true, loops := true, plainKeys := false, apart := false, narrowed := true }
def JournalPrefixUptoSaid : Prop := journalPrefixUptoRow.holds Tryz.pinned (OpenSpec.upto journalPrefixSpec)

/-- 'billinglaw42.JournalAgain', WHERE WHAT IT READS IS OF BULK AT MOST 1048576: true; the input reads as it did. -/
def journalAgainUptoRow : OpenClaim := { program := "ytknipijkpcbadaagreat", sum := "8c6a7a6d678303a8a969b47aaaa4588d66344e7acd99b7043983bdb47986cb29", func := "billing/billinglaw42.JournalAgain", spec := "journalAgain", unfollowed := true, recurses := true, loops := true, plainKeys := false, apart := false, narrowed := true }
def JournalAgainUptoSaid : Prop := journalAgainUptoRow.holds Tryz.pinned (OpenSpec.upto journalAgainSpec)

end Rows
end Go.Proofs.YtknipijkpcbadaaGreat
