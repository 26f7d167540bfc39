/-
  NARROWER THAN 'FOR EVERY INPUT', by the rows' own cells (each row's printed sentence says how): OnlineOnce: loops · OnlineClone: loops · JournalPrefix: loops · JournalAgain: loops.
  DERIVED. THE GIVEN ROWS OF THIS SEAT. 4 by the template 'for every input the law returns true; each argument reads behind the call as it read before'; 0 by the template 'total and deterministic' (their statements: YtpdhjildhjpjdaaGreatTotals.lean).
  GIVEN WITH THE SEED: the statements are not yours to turn. If you find one false, say at which input.
  Laid BY PROGRAM, IN A SANDBOX (cutbox-rows.mjs): the forced cells as the released guide's own fill.sh prints them over the translation 5e190de04e0e62da… (all of the seat's roots in one cut). By AI agents, Wed Nov 11 2026. No macro, syntax, notation, axiom, sorry.
-/
import Derived.Test.YtpdhjildhjpjdaaGreatChecked
import GoSem.Claim
import GoSem.ClaimJoined
import GoSem.ClaimMapViews
import Derived.JoinedTies
import Derived.KernelRfl
namespace Go.Proofs.YtpdhjildhjpjdaaGreat
/- THE CELL 'sum', in the pinned program and in every row, IS THE sha256 OF THE DUMP (.gsa) THAT YtpdhjildhjpjdaaGreatProg.lean LOADS. Nothing in Lean hashes anything: it is a label: what it is worth is what the hold of that sum in a sandbox is worth. -/
noncomputable def Tryz.pinned : Pinned := { name := "ytpdhjildhjpjdaagreat", sum := "5e190de04e0e62dae60a7bf3c5b0cd5ce7be765b8e92f7c9049d8c3cfccb43aa", checked := Tryz.checked }
namespace Rows
def none {H : Type} : Left H := { results := [], args := [] }

/-- 'billinglaw41.OnlineOnce': WHATEVER THE INPUT: true; the input reads as it did. -/
def onlineOnceSpec : ChangeSpec := { name := "onlineOnce", fn := fun _ => fun
  | [d] => { results := [.lit (.bool true)], args := [d] }
  | _ => none }
def onlineOnceRow : OpenClaim := { program := "ytpdhjildhjpjdaagreat", sum := "5e190de04e0e62dae60a7bf3c5b0cd5ce7be765b8e92f7c9049d8c3cfccb43aa", func := "billing/billinglaw41.OnlineOnce", spec := "onlineOnce", unfollowed := true, recurses := true, loops := true, plainKeys := false, apart := false }
def OnlineOnceSaid : Prop := onlineOnceRow.holds Tryz.pinned (OpenSpec.ofChange onlineOnceSpec)

/-- ITS FALSE NEIGHBOUR: 'it returns false'. Refute it at one input. -/
def onlineOnceWrong : ChangeSpec := { name := "onlineOnce", fn := fun _ => fun
  | [d] => { results := [.lit (.bool false)], args := [d] }
  | _ => none }
def OnlineOnceWrongFalsely : Prop := onlineOnceRow.holds Tryz.pinned (OpenSpec.ofChange onlineOnceWrong)

/-- 'billinglaw41.OnlineClone': WHATEVER THE INPUT: true; the input reads as it did. -/
def onlineCloneSpec : ChangeSpec := { name := "onlineClone", fn := fun _ => fun
  | [d1, d2] => { results := [.lit (.bool true)], args := [d1, d2] }
  | _ => none }
def onlineCloneRow : OpenClaim := { program := "ytpdhjildhjpjdaagreat", sum := "5e190de04e0e62dae60a7bf3c5b0cd5ce7be765b8e92f7c9049d8c3cfccb43aa", func := "billing/billinglaw41.OnlineClone", spec := "onlineClone", unfollowed := true, recurses := true, loops := true, plainKeys := false, apart := false }
def OnlineCloneSaid : Prop := onlineCloneRow.holds Tryz.pinned (OpenSpec.ofChange onlineCloneSpec)

/-- ITS FALSE NEIGHBOUR: 'it returns false'. Refute it at one input. -/
def onlineCloneWrong : ChangeSpec := { name := "onlineClone", fn := fun _ => fun
  | [d1, d2] => { results := [.lit (.bool false)], args := [d1, d2] }
  | _ => none }
def OnlineCloneWrongFalsely : Prop := onlineCloneRow.holds Tryz.pinned (OpenSpec.ofChange onlineCloneWrong)

/-- 'billinglaw42.JournalPrefix': WHATEVER THE INPUT: true; the input reads as it did. -/
def journalPrefixSpec : ChangeSpec := { name := "journalPrefix", fn := fun _ => fun
  | [d1, d2, d3] => { results := [.lit (.bool true)], args := [d1, d2, d3] }
  | _ => none }
def journalPrefixRow : OpenClaim := { program := "ytpdhjildhjpjdaagreat", sum := "5e190de04e0e62dae60a7bf3c5b0cd5ce7be765b8e92f7c9049d8c3cfccb43aa", func := "billing/billinglaw42.JournalPrefix", spec := "journalPrefix", unfollowed := true, recurses := true, loops := true, plainKeys := false, apart := false }
def JournalPrefixSaid : Prop := journalPrefixRow.holds Tryz.pinned (OpenSpec.ofChange journalPrefixSpec)

/-- ITS FALSE NEIGHBOUR: 'it returns false'. Refute it at one input. -/
def journalPrefixWrong : ChangeSpec := { name := "journalPrefix", fn := fun _ => fun
  | [d1, d2, d3] => { results := [.lit (.bool false)], args := [d1, d2, d3] }
  | _ => none }
def JournalPrefixWrongFalsely : Prop := journalPrefixRow.holds Tryz.pinned (OpenSpec.ofChange journalPrefixWrong)

/-- 'billinglaw42.JournalAgain': WHATEVER THE INPUT: true; the input reads as it did. -/
def journalAgainSpec : ChangeSpec := { name := "journalAgain", fn := fun _ => fun
  | [d] => { results := [.lit (.bool true)], args := [d] }
  | _ => none }
def journalAgainRow : OpenClaim := { program := "ytpdhjildhjpjdaagreat", sum := "5e190de04e0e62dae60a7bf3c5b0cd5ce7be765b8e92f7c9049d8c3cfccb43aa", func := "billing/billinglaw42.JournalAgain", spec := "journalAgain", unfollowed := true, recurses := true, loops := true, plainKeys := false, apart := false }
def JournalAgainSaid : Prop := journalAgainRow.holds Tryz.pinned (OpenSpec.ofChange journalAgainSpec)

/-- ITS FALSE NEIGHBOUR: 'it returns false'. Refute it at one input. -/
def journalAgainWrong : ChangeSpec := { name := "journalAgain", fn := fun _ => fun
  | [d] => { results := [.lit (.bool false)], args := [d] }
  | _ => none }
def JournalAgainWrongFalsely : Prop := journalAgainRow.holds Tryz.pinned (OpenSpec.ofChange journalAgainWrong)

/- THE SECOND FORM. 'bulk': how many values and letters a reading holds, each counted each time it is reached (what is shared counts as often as it is met; a slice's spare places count too). A statement '..UptoSaid' is the law's where the arguments, and the package variables that the reading takes, are together of bulk at most 1048576: NARROWER than '..Said'. Prove '..Said' where nothing that the law and all that it calls make is longer than what came in: it says more and counts as full. Else prove '..UptoSaid'. A law counts once. -/
mutual
def uptoBulk {H : Type} : DataW H → Nat
  | .lit (.string bytes) => bytes.length + 1
  | .lit _ => 1
  | .nil => 1
  | .ptr d => uptoBulk d + 1
  | .slice elems spare => uptoBulkAll elems + uptoBulkAll spare + 1
  | .agg parts => uptoBulkAll parts + 1
  | .iface _ d => uptoBulk d + 1
  | .map entries => uptoBulkEntries entries + 1
  | .held _ => 1
def uptoBulkAll {H : Type} : List (DataW H) → Nat
  | [] => 0
  | d :: r => uptoBulk d + uptoBulkAll r
def uptoBulkEntries {H : Type} : List (Lit × DataW H) → Nat
  | [] => 0
  | x :: r => uptoBulkEntry x + uptoBulkEntries r
def uptoBulkEntry {H : Type} : Lit × DataW H → Nat
  | (.string bytes, d) => bytes.length + uptoBulk d + 1
  | (_, d) => uptoBulk d + 1
 end
def uptoSmall : (H : Type) → List (DataW H) → Bool := fun _ ds => decide (uptoBulkAll ds ≤ 1048576)
def OpenSpec.upto (s : _root_.Go.ChangeSpec) : _root_.Go.OpenSpec := { _root_.Go.OpenSpec.ofChange s with cond := some uptoSmall }

/-- 'billinglaw41.OnlineOnce', WHERE WHAT IT READS IS OF BULK AT MOST 1048576: true; the input reads as it did. -/
def onlineOnceUptoRow : OpenClaim := { program := "ytpdhjildhjpjdaagreat", sum := "5e190de04e0e62dae60a7bf3c5b0cd5ce7be765b8e92f7c9049d8c3cfccb43aa", func := "billing/billinglaw41.OnlineOnce", spec := "onlineOnce", unfollowed := true, recurses := true, loops := true, plainKeys := false, apart := false, narrowed := true }
def OnlineOnceUptoSaid : Prop := onlineOnceUptoRow.holds Tryz.pinned (OpenSpec.upto onlineOnceSpec)

/-- 'billinglaw41.OnlineClone', WHERE WHAT IT READS IS OF BULK AT MOST 1048576: true; the input reads as it did. -/
def onlineCloneUptoRow : OpenClaim := { program := "ytpdhjildhjpjdaagreat", sum := "5e190de04e0e62dae60a7bf3c5b0cd5ce7be765b8e92f7c9049d8c3cfccb43aa", func := "billing/billinglaw41.OnlineClone", spec := "onlineClone", unfollowed := true, recurses := true, loops := true, plainKeys := false, apart := false, narrowed := true }
def OnlineCloneUptoSaid : Prop := onlineCloneUptoRow.holds Tryz.pinned (OpenSpec.upto onlineCloneSpec)

/-- 'billinglaw42.JournalPrefix', WHERE WHAT IT READS IS OF BULK AT MOST 1048576: true; the input reads as it did. -/
def journalPrefixUptoRow : OpenClaim := { program := "ytpdhjildhjpjdaagreat", sum := "5e190de04e0e62dae60a7bf3c5b0cd5ce7be765b8e92f7c9049d8c3cfccb43aa", func := "billing/billinglaw42.JournalPrefix", spec := "journalPrefix", unfollowed := true, recurses := true, loops := true, plainKeys := false, apart := false, narrowed := true }
def JournalPrefixUptoSaid : Prop := journalPrefixUptoRow.holds Tryz.pinned (OpenSpec.upto journalPrefixSpec)

/-- 'billinglaw42.JournalAgain', WHERE WHAT IT READS IS OF BULK AT MOST 1048576: true; the input reads as it did. -/
def journalAgainUptoRow : OpenClaim := { program := "ytpdhjildhjpjdaagreat", sum := "5e190de04e0e62dae60a7bf3c5b0cd5ce7be765b8e92f7c9049d8c3cfccb43aa", func := "billing/billinglaw42.JournalAgain", spec := "journalAgain", unfollowed := true, recurses := true, loops := true, plainKeys := false, apart := false, narrowed := true }
def JournalAgainUptoSaid : Prop := journalAgainUptoRow.holds Tryz.pinned (OpenSpec.upto journalAgainSpec)

end Rows
end Go.Proofs.YtpdhjildhjpjdaaGreat
