/-
  NARROWER THAN 'FOR EVERY INPUT', by the rows' own cells (each row's printed sentence says how): RateOne: loops · RateQuote: loops · RateApart: loops · HistoryRun: loops · HistoryResume: loops · HistoryAnyhow: loops · HistoryApart: loops · HistoryFloor: loops · RerateLate: loops · RerateExact: loops · RerateCorrects: loops.
  DERIVED. THE GIVEN ROWS OF THIS SEAT. 11 by the template 'for every input the law returns true; each argument reads behind the call as it read before'; 0 by the template 'total and deterministic' (their statements: YtjjpjagokgfbdaaGreatTotals.lean).
  GIVEN WITH THE SEED: the statements are not yours to turn. If you find one false, say at which input.
  Laid BY PROGRAM, IN A SANDBOX (cutbox-rows.mjs): the forced cells as the released guide's own fill.sh prints them over the translation e6727aa3d3bd4cb6… (all of the seat's roots in one cut). By AI agents, Wed Nov 11 2026. No macro, syntax, notation, axiom, sorry.
-/
import Derived.Test.YtjjpjagokgfbdaaGreatChecked
import GoSem.Claim
import GoSem.ClaimJoined
import GoSem.ClaimMapViews
import Derived.JoinedTies
import Derived.KernelRfl
namespace Go.Proofs.YtjjpjagokgfbdaaGreat
/- THE CELL 'sum', in the pinned program and in every row, IS THE sha256 OF THE DUMP (.gsa) THAT YtjjpjagokgfbdaaGreatProg.lean LOADS. Nothing in Lean hashes anything: it is a label: what it is worth is what the hold of that sum in a sandbox is worth. -/
noncomputable def Tryz.pinned : Pinned := { name := "ytjjpjagokgfbdaagreat", sum := "e6727aa3d3bd4cb6fd8a00dd933ba356cb89993fd7a59a0cfedf48e0a8aa7ec9", checked := Tryz.checked }
namespace Rows
def none {H : Type} : Left H := { results := [], args := [] }

/-- 'billinglaw37.RateOne': WHATEVER THE INPUT: true; the input reads as it did. -/
def rateOneSpec : ChangeSpec := { name := "rateOne", fn := fun _ => fun
  | [d1, d2] => { results := [.lit (.bool true)], args := [d1, d2] }
  | _ => none }
def rateOneRow : OpenClaim := { program := "ytjjpjagokgfbdaagreat", sum := "e6727aa3d3bd4cb6fd8a00dd933ba356cb89993fd7a59a0cfedf48e0a8aa7ec9", func := "billing/billinglaw37.RateOne", spec := "rateOne", unfollowed := true, recurses := true, loops := true, plainKeys := false, apart := false }
def RateOneSaid : Prop := rateOneRow.holds Tryz.pinned (OpenSpec.ofChange rateOneSpec)

/-- ITS FALSE NEIGHBOUR: 'it returns false'. Refute it at one input. -/
def rateOneWrong : ChangeSpec := { name := "rateOne", fn := fun _ => fun
  | [d1, d2] => { results := [.lit (.bool false)], args := [d1, d2] }
  | _ => none }
def RateOneWrongFalsely : Prop := rateOneRow.holds Tryz.pinned (OpenSpec.ofChange rateOneWrong)

/-- 'billinglaw37.RateQuote': WHATEVER THE INPUT: true; the input reads as it did. -/
def rateQuoteSpec : ChangeSpec := { name := "rateQuote", fn := fun _ => fun
  | [d1, d2] => { results := [.lit (.bool true)], args := [d1, d2] }
  | _ => none }
def rateQuoteRow : OpenClaim := { program := "ytjjpjagokgfbdaagreat", sum := "e6727aa3d3bd4cb6fd8a00dd933ba356cb89993fd7a59a0cfedf48e0a8aa7ec9", func := "billing/billinglaw37.RateQuote", spec := "rateQuote", unfollowed := true, recurses := true, loops := true, plainKeys := false, apart := false }
def RateQuoteSaid : Prop := rateQuoteRow.holds Tryz.pinned (OpenSpec.ofChange rateQuoteSpec)

/-- ITS FALSE NEIGHBOUR: 'it returns false'. Refute it at one input. -/
def rateQuoteWrong : ChangeSpec := { name := "rateQuote", fn := fun _ => fun
  | [d1, d2] => { results := [.lit (.bool false)], args := [d1, d2] }
  | _ => none }
def RateQuoteWrongFalsely : Prop := rateQuoteRow.holds Tryz.pinned (OpenSpec.ofChange rateQuoteWrong)

/-- 'billinglaw37.RateApart': WHATEVER THE INPUT: true; the input reads as it did. -/
def rateApartSpec : ChangeSpec := { name := "rateApart", fn := fun _ => fun
  | [d1, d2] => { results := [.lit (.bool true)], args := [d1, d2] }
  | _ => none }
def rateApartRow : OpenClaim := { program := "ytjjpjagokgfbdaagreat", sum := "e6727aa3d3bd4cb6fd8a00dd933ba356cb89993fd7a59a0cfedf48e0a8aa7ec9", func := "billing/billinglaw37.RateApart", spec := "rateApart", unfollowed := true, recurses := true, loops := true, plainKeys := false, apart := false }
def RateApartSaid : Prop := rateApartRow.holds Tryz.pinned (OpenSpec.ofChange rateApartSpec)

/-- ITS FALSE NEIGHBOUR: 'it returns false'. Refute it at one input. -/
def rateApartWrong : ChangeSpec := { name := "rateApart", fn := fun _ => fun
  | [d1, d2] => { results := [.lit (.bool false)], args := [d1, d2] }
  | _ => none }
def RateApartWrongFalsely : Prop := rateApartRow.holds Tryz.pinned (OpenSpec.ofChange rateApartWrong)

/-- 'billinglaw38.HistoryRun': WHATEVER THE INPUT: true; the input reads as it did. -/
def historyRunSpec : ChangeSpec := { name := "historyRun", fn := fun _ => fun
  | [d1, d2] => { results := [.lit (.bool true)], args := [d1, d2] }
  | _ => none }
def historyRunRow : OpenClaim := { program := "ytjjpjagokgfbdaagreat", sum := "e6727aa3d3bd4cb6fd8a00dd933ba356cb89993fd7a59a0cfedf48e0a8aa7ec9", func := "billing/billinglaw38.HistoryRun", spec := "historyRun", unfollowed := true, recurses := true, loops := true, plainKeys := false, apart := false }
def HistoryRunSaid : Prop := historyRunRow.holds Tryz.pinned (OpenSpec.ofChange historyRunSpec)

/-- ITS FALSE NEIGHBOUR: 'it returns false'. Refute it at one input. -/
def historyRunWrong : ChangeSpec := { name := "historyRun", fn := fun _ => fun
  | [d1, d2] => { results := [.lit (.bool false)], args := [d1, d2] }
  | _ => none }
def HistoryRunWrongFalsely : Prop := historyRunRow.holds Tryz.pinned (OpenSpec.ofChange historyRunWrong)

/-- 'billinglaw38.HistoryResume': WHATEVER THE INPUT: true; the input reads as it did. -/
def historyResumeSpec : ChangeSpec := { name := "historyResume", fn := fun _ => fun
  | [d1, d2, d3] => { results := [.lit (.bool true)], args := [d1, d2, d3] }
  | _ => none }
def historyResumeRow : OpenClaim := { program := "ytjjpjagokgfbdaagreat", sum := "e6727aa3d3bd4cb6fd8a00dd933ba356cb89993fd7a59a0cfedf48e0a8aa7ec9", func := "billing/billinglaw38.HistoryResume", spec := "historyResume", unfollowed := true, recurses := true, loops := true, plainKeys := false, apart := false }
def HistoryResumeSaid : Prop := historyResumeRow.holds Tryz.pinned (OpenSpec.ofChange historyResumeSpec)

/-- ITS FALSE NEIGHBOUR: 'it returns false'. Refute it at one input. -/
def historyResumeWrong : ChangeSpec := { name := "historyResume", fn := fun _ => fun
  | [d1, d2, d3] => { results := [.lit (.bool false)], args := [d1, d2, d3] }
  | _ => none }
def HistoryResumeWrongFalsely : Prop := historyResumeRow.holds Tryz.pinned (OpenSpec.ofChange historyResumeWrong)

/-- 'billinglaw38.HistoryAnyhow': WHATEVER THE INPUT: true; the input reads as it did. -/
def historyAnyhowSpec : ChangeSpec := { name := "historyAnyhow", fn := fun _ => fun
  | [d1, d2, d3] => { results := [.lit (.bool true)], args := [d1, d2, d3] }
  | _ => none }
def historyAnyhowRow : OpenClaim := { program := "ytjjpjagokgfbdaagreat", sum := "e6727aa3d3bd4cb6fd8a00dd933ba356cb89993fd7a59a0cfedf48e0a8aa7ec9", func := "billing/billinglaw38.HistoryAnyhow", spec := "historyAnyhow", unfollowed := true, recurses := true, loops := true, plainKeys := false, apart := false }
def HistoryAnyhowSaid : Prop := historyAnyhowRow.holds Tryz.pinned (OpenSpec.ofChange historyAnyhowSpec)

/-- ITS FALSE NEIGHBOUR: 'it returns false'. Refute it at one input. -/
def historyAnyhowWrong : ChangeSpec := { name := "historyAnyhow", fn := fun _ => fun
  | [d1, d2, d3] => { results := [.lit (.bool false)], args := [d1, d2, d3] }
  | _ => none }
def HistoryAnyhowWrongFalsely : Prop := historyAnyhowRow.holds Tryz.pinned (OpenSpec.ofChange historyAnyhowWrong)

/-- 'billinglaw38.HistoryApart': WHATEVER THE INPUT: true; the input reads as it did. -/
def historyApartSpec : ChangeSpec := { name := "historyApart", fn := fun _ => fun
  | [d1, d2, d3] => { results := [.lit (.bool true)], args := [d1, d2, d3] }
  | _ => none }
def historyApartRow : OpenClaim := { program := "ytjjpjagokgfbdaagreat", sum := "e6727aa3d3bd4cb6fd8a00dd933ba356cb89993fd7a59a0cfedf48e0a8aa7ec9", func := "billing/billinglaw38.HistoryApart", spec := "historyApart", unfollowed := true, recurses := true, loops := true, plainKeys := false, apart := false }
def HistoryApartSaid : Prop := historyApartRow.holds Tryz.pinned (OpenSpec.ofChange historyApartSpec)

/-- ITS FALSE NEIGHBOUR: 'it returns false'. Refute it at one input. -/
def historyApartWrong : ChangeSpec := { name := "historyApart", fn := fun _ => fun
  | [d1, d2, d3] => { results := [.lit (.bool false)], args := [d1, d2, d3] }
  | _ => none }
def HistoryApartWrongFalsely : Prop := historyApartRow.holds Tryz.pinned (OpenSpec.ofChange historyApartWrong)

/-- 'billinglaw38.HistoryFloor': WHATEVER THE INPUT: true; the input reads as it did. -/
def historyFloorSpec : ChangeSpec := { name := "historyFloor", fn := fun _ => fun
  | [d1, d2] => { results := [.lit (.bool true)], args := [d1, d2] }
  | _ => none }
def historyFloorRow : OpenClaim := { program := "ytjjpjagokgfbdaagreat", sum := "e6727aa3d3bd4cb6fd8a00dd933ba356cb89993fd7a59a0cfedf48e0a8aa7ec9", func := "billing/billinglaw38.HistoryFloor", spec := "historyFloor", unfollowed := true, recurses := true, loops := true, plainKeys := false, apart := false }
def HistoryFloorSaid : Prop := historyFloorRow.holds Tryz.pinned (OpenSpec.ofChange historyFloorSpec)

/-- ITS FALSE NEIGHBOUR: 'it returns false'. Refute it at one input. -/
def historyFloorWrong : ChangeSpec := { name := "historyFloor", fn := fun _ => fun
  | [d1, d2] => { results := [.lit (.bool false)], args := [d1, d2] }
  | _ => none }
def HistoryFloorWrongFalsely : Prop := historyFloorRow.holds Tryz.pinned (OpenSpec.ofChange historyFloorWrong)

/-- 'billinglaw48.RerateLate': WHATEVER THE INPUT: true; the input reads as it did. -/
def rerateLateSpec : ChangeSpec := { name := "rerateLate", fn := fun _ => fun
  | [d1, d2, d3] => { results := [.lit (.bool true)], args := [d1, d2, d3] }
  | _ => none }
def rerateLateRow : OpenClaim := { program := "ytjjpjagokgfbdaagreat", sum := "e6727aa3d3bd4cb6fd8a00dd933ba356cb89993fd7a59a0cfedf48e0a8aa7ec9", func := "billing/billinglaw48.RerateLate", spec := "rerateLate", unfollowed := true, recurses := true, loops := true, plainKeys := false, apart := false }
def RerateLateSaid : Prop := rerateLateRow.holds Tryz.pinned (OpenSpec.ofChange rerateLateSpec)

/-- ITS FALSE NEIGHBOUR: 'it returns false'. Refute it at one input. -/
def rerateLateWrong : ChangeSpec := { name := "rerateLate", fn := fun _ => fun
  | [d1, d2, d3] => { results := [.lit (.bool false)], args := [d1, d2, d3] }
  | _ => none }
def RerateLateWrongFalsely : Prop := rerateLateRow.holds Tryz.pinned (OpenSpec.ofChange rerateLateWrong)

/-- 'billinglaw48.RerateExact': WHATEVER THE INPUT: true; the input reads as it did. -/
def rerateExactSpec : ChangeSpec := { name := "rerateExact", fn := fun _ => fun
  | [d1, d2, d3] => { results := [.lit (.bool true)], args := [d1, d2, d3] }
  | _ => none }
def rerateExactRow : OpenClaim := { program := "ytjjpjagokgfbdaagreat", sum := "e6727aa3d3bd4cb6fd8a00dd933ba356cb89993fd7a59a0cfedf48e0a8aa7ec9", func := "billing/billinglaw48.RerateExact", spec := "rerateExact", unfollowed := true, recurses := true, loops := true, plainKeys := false, apart := false }
def RerateExactSaid : Prop := rerateExactRow.holds Tryz.pinned (OpenSpec.ofChange rerateExactSpec)

/-- ITS FALSE NEIGHBOUR: 'it returns false'. Refute it at one input. -/
def rerateExactWrong : ChangeSpec := { name := "rerateExact", fn := fun _ => fun
  | [d1, d2, d3] => { results := [.lit (.bool false)], args := [d1, d2, d3] }
  | _ => none }
def RerateExactWrongFalsely : Prop := rerateExactRow.holds Tryz.pinned (OpenSpec.ofChange rerateExactWrong)

/-- 'billinglaw48.RerateCorrects': WHATEVER THE INPUT: true; the input reads as it did. -/
def rerateCorrectsSpec : ChangeSpec := { name := "rerateCorrects", fn := fun _ => fun
  | [d1, d2, d3] => { results := [.lit (.bool true)], args := [d1, d2, d3] }
  | _ => none }
def rerateCorrectsRow : OpenClaim := { program := "ytjjpjagokgfbdaagreat", sum := "e6727aa3d3bd4cb6fd8a00dd933ba356cb89993fd7a59a0cfedf48e0a8aa7ec9", func := "billing/billinglaw48.RerateCorrects", spec := "rerateCorrects", unfollowed := true, recurses := true, loops := true, plainKeys := false, apart := false }
def RerateCorrectsSaid : Prop := rerateCorrectsRow.holds Tryz.pinned (OpenSpec.ofChange rerateCorrectsSpec)

/-- ITS FALSE NEIGHBOUR: 'it returns false'. Refute it at one input. -/
def rerateCorrectsWrong : ChangeSpec := { name := "rerateCorrects", fn := fun _ => fun
  | [d1, d2, d3] => { results := [.lit (.bool false)], args := [d1, d2, d3] }
  | _ => none }
def RerateCorrectsWrongFalsely : Prop := rerateCorrectsRow.holds Tryz.pinned (OpenSpec.ofChange rerateCorrectsWrong)

/- THE SECOND FORM. 'bulk': how many values and letters a reading holds, each counted each time it is reached (what is shared counts as often as it is met; a slice's spare places count too). A statement '..UptoSaid' is the law's where the arguments, and the package variables that the reading takes, are together of bulk at most 1048576: NARROWER than '..Said'. Prove '..Said' where nothing that the law and all that it calls make is longer than what came in: it says more and counts as full. Else prove '..UptoSaid'. A law counts once. -/
mutual
def uptoBulk {H : Type} : DataW H → Nat
  | .lit (.string bytes) => bytes.length + 1
  | .lit _ => 1
  | .nil => 1
  | .ptr d => uptoBulk d + 1
  | .slice elems spare => uptoBulkAll elems + uptoBulkAll spare + 1
  | .agg parts => uptoBulkAll parts + 1
  | .iface _ d => uptoBulk d + 1
  | .map entries => uptoBulkEntries entries + 1
  | .held _ => 1
def uptoBulkAll {H : Type} : List (DataW H) → Nat
  | [] => 0
  | d :: r => uptoBulk d + uptoBulkAll r
def uptoBulkEntries {H : Type} : List (Lit × DataW H) → Nat
  | [] => 0
  | x :: r => uptoBulkEntry x + uptoBulkEntries r
def uptoBulkEntry {H : Type} : Lit × DataW H → Nat
  | (.string bytes, d) => bytes.length + uptoBulk d + 1
  | (_, d) => uptoBulk d + 1
 end
def uptoSmall : (H : Type) → List (DataW H) → Bool := fun _ ds => decide (uptoBulkAll ds ≤ 1048576)
def OpenSpec.upto (s : _root_.Go.ChangeSpec) : _root_.Go.OpenSpec := { _root_.Go.OpenSpec.ofChange s with cond := some uptoSmall }

/-- 'billinglaw37.RateOne', WHERE WHAT IT READS IS OF BULK AT MOST 1048576: true; the input reads as it did. -/
def rateOneUptoRow : OpenClaim := { program := "ytjjpjagokgfbdaagreat", sum := "e6727aa3d3bd4cb6fd8a00dd933ba356cb89993fd7a59a0cfedf48e0a8aa7ec9", func := "billing/billinglaw37.RateOne", spec := "rateOne", unfollowed := true, recurses := true, loops := true, plainKeys := false, apart := false, narrowed := true }
def RateOneUptoSaid : Prop := rateOneUptoRow.holds Tryz.pinned (OpenSpec.upto rateOneSpec)

/-- 'billinglaw37.RateQuote', WHERE WHAT IT READS IS OF BULK AT MOST 1048576: true; the input reads as it did. -/
def rateQuoteUptoRow : OpenClaim := { program := "ytjjpjagokgfbdaagreat", sum := "e6727aa3d3bd4cb6fd8a00dd933ba356cb89993fd7a59a0cfedf48e0a8aa7ec9", func := "billing/billinglaw37.RateQuote", spec := "rateQuote", unfollowed := true, recurses := true, loops := true, plainKeys := false, apart := false, narrowed := true }
def RateQuoteUptoSaid : Prop := rateQuoteUptoRow.holds Tryz.pinned (OpenSpec.upto rateQuoteSpec)

/-- 'billinglaw37.RateApart', WHERE WHAT IT READS IS OF BULK AT MOST 1048576: true; the input reads as it did. -/
def rateApartUptoRow : OpenClaim := { program := "ytjjpjagokgfbdaagreat", sum := "e6727aa3d3bd4cb6fd8a00dd933ba356cb89993fd7a59a0cfedf48e0a8aa7ec9", func := "billing/billinglaw37.RateApart", spec := "rateApart", unfollowed := true, recurses := true, loops := true, plainKeys := false, apart := false, narrowed := true }
def RateApartUptoSaid : Prop := rateApartUptoRow.holds Tryz.pinned (OpenSpec.upto rateApartSpec)

/-- 'billinglaw38.HistoryRun', WHERE WHAT IT READS IS OF BULK AT MOST 1048576: true; the input reads as it did. -/
def historyRunUptoRow : OpenClaim := { program := "ytjjpjagokgfbdaagreat", sum := "e6727aa3d3bd4cb6fd8a00dd933ba356cb89993fd7a59a0cfedf48e0a8aa7ec9", func := "billing/billinglaw38.HistoryRun", spec := "historyRun", unfollowed := true, recurses := true, loops := true, plainKeys := false, apart := false, narrowed := true }
def HistoryRunUptoSaid : Prop := historyRunUptoRow.holds Tryz.pinned (OpenSpec.upto historyRunSpec)

/-- 'billinglaw38.HistoryResume', WHERE WHAT IT READS IS OF BULK AT MOST 1048576: true; the input reads as it did. -/
def historyResumeUptoRow : OpenClaim := { program := "ytjjpjagokgfbdaagreat", sum := "e6727aa3d3bd4cb6fd8a00dd933ba356cb89993fd7a59a0cfedf48e0a8aa7ec9", func := "billing/billinglaw38.HistoryResume", spec := "historyResume", unfollowed := true, recurses := true, loops := true, plainKeys := false, apart := false, narrowed := true }
def HistoryResumeUptoSaid : Prop := historyResumeUptoRow.holds Tryz.pinned (OpenSpec.upto historyResumeSpec)

/-- 'billinglaw38.HistoryAnyhow', WHERE WHAT IT READS IS OF BULK AT MOST 1048576: true; the input reads as it did. -/
def historyAnyhowUptoRow : OpenClaim := { program := "ytjjpjagokgfbdaagreat", sum := "e6727aa3d3bd4cb6fd8a00dd933ba356cb89993fd7a59a0cfedf48e0a8aa7ec9", func := "billing/billinglaw38.HistoryAnyhow", spec := "historyAnyhow", unfollowed := true, recurses := true, loops := true, plainKeys := false, apart := false, narrowed := true }
def HistoryAnyhowUptoSaid : Prop := historyAnyhowUptoRow.holds Tryz.pinned (OpenSpec.upto historyAnyhowSpec)

/-- 'billinglaw38.HistoryApart', WHERE WHAT IT READS IS OF BULK AT MOST 1048576: true; the input reads as it did. -/
def historyApartUptoRow : OpenClaim := { program := "ytjjpjagokgfbdaagreat", sum := "e6727aa3d3bd4cb6fd8a00dd933ba356cb89993fd7a59a0cfedf48e0a8aa7ec9", func := "billing/billinglaw38.HistoryApart", spec := "historyApart", unfollowed := true, recurses := true, loops := true, plainKeys := false, apart := false, narrowed := true }
def HistoryApartUptoSaid : Prop := historyApartUptoRow.holds Tryz.pinned (OpenSpec.upto historyApartSpec)

/-- 'billinglaw38.HistoryFloor', WHERE WHAT IT READS IS OF BULK AT MOST 1048576: true; the input reads as it did. -/
def historyFloorUptoRow : OpenClaim := { program := "ytjjpjagokgfbdaagreat", sum := "e6727aa3d3bd4cb6fd8a00dd933ba356cb89993fd7a59a0cfedf48e0a8aa7ec9", func := "billing/billinglaw38.HistoryFloor", spec := "historyFloor", unfollowed := true, recurses := true, loops := true, plainKeys := false, apart := false, narrowed := true }
def HistoryFloorUptoSaid : Prop := historyFloorUptoRow.holds Tryz.pinned (OpenSpec.upto historyFloorSpec)

/-- 'billinglaw48.RerateLate', WHERE WHAT IT READS IS OF BULK AT MOST 1048576: true; the input reads as it did. -/
def rerateLateUptoRow : OpenClaim := { program := "ytjjpjagokgfbdaagreat", sum := "e6727aa3d3bd4cb6fd8a00dd933ba356cb89993fd7a59a0cfedf48e0a8aa7ec9", func := "billing/billinglaw48.RerateLate", spec := "rerateLate", unfollowed := true, recurses := true, loops := true, plainKeys := false, apart := false, narrowed := true }
def RerateLateUptoSaid : Prop := rerateLateUptoRow.holds Tryz.pinned (OpenSpec.upto rerateLateSpec)

/-- 'billinglaw48.RerateExact', WHERE WHAT IT READS IS OF BULK AT MOST 1048576: true; the input reads as it did. -/
def rerateExactUptoRow : OpenClaim := { program := "ytjjpjagokgfbdaagreat", sum := "e6727aa3d3bd4cb6fd8a00dd933ba356cb89993fd7a59a0cfedf48e0a8aa7ec9", func := "billing/billinglaw48.RerateExact", spec := "rerateExact", unfollowed := true, recurses := true, loops := true, plainKeys := false, apart := false, narrowed := true }
def RerateExactUptoSaid : Prop := rerateExactUptoRow.holds Tryz.pinned (OpenSpec.upto rerateExactSpec)

/-- 'billinglaw48.RerateCorrects', WHERE WHAT IT READS IS OF BULK AT MOST 1048576: true; the input reads as it did. -/
def rerateCorrectsUptoRow : OpenClaim := { program := "ytjjpjagokgfbdaagreat", sum := "e6727aa3d3bd4cb6fd8a00dd933ba356cb89993fd7a59a0cfedf48e0a8aa7ec9", func := "billing/billinglaw48.RerateCorrects", spec := "rerateCorrects", unfollowed := true, recurses := true, loops := true, plainKeys := false, apart := false, narrowed := true }
def RerateCorrectsUptoSaid : Prop := rerateCorrectsUptoRow.holds Tryz.pinned (OpenSpec.upto rerateCorrectsSpec)

end Rows
end Go.Proofs.YtjjpjagokgfbdaaGreat
