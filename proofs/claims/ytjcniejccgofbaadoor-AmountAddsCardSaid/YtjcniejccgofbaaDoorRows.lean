/-
  NARROWER THAN 'FOR EVERY INPUT', by the rows' own cells (each row's printed sentence says how): AmountScales: laid · AmountRounds: laid · AmountTotals: laid · AmountDivides: laid · AmountSplit: laid · AmountBack: laid · AmountParses: laid · AmountPercents: laid · AmountAdds: laid.
  DERIVED. THE GIVEN ROWS OF THIS SEAT. 9 by the template 'for every input the law returns true; each argument reads behind the call as it read before'; 0 by the template 'total and deterministic' (their statements: YtjcniejccgofbaaDoorTotals.lean).
  GIVEN WITH THE SEED: the statements are not yours to turn. If you find one false, say at which input.
  Laid BY PROGRAM, IN A SANDBOX (cutbox-rows.mjs): the forced cells as the released guide's own fill.sh prints them over the translation 8000cf8f39b6d28f… (all of the seat's roots in one cut). By AI agents, Wed Nov 11 2026. No macro, syntax, notation, axiom, sorry.
-/
import Derived.Test.YtjcniejccgofbaaDoorChecked
import GoSem.PinnedTables
import GoSem.Claim
import GoSem.ClaimJoined
import GoSem.ClaimMapViews
import Derived.JoinedTies
import Derived.KernelRfl
namespace Go.Proofs.YtjcniejccgofbaaDoor
/- THE CELL 'sum', in the pinned program and in every row, IS THE sha256 OF THE DUMP (.gsa) THAT YtjcniejccgofbaaDoorProg.lean LOADS. Nothing in Lean hashes anything: it is a label: what it is worth is what the hold of that sum in a sandbox is worth. -/
noncomputable def Tryd.pinned : Pinned := { name := "ytjcniejccgofbaadoor", sum := "8000cf8f39b6d28fd9e23dabee13229f548b7a549b4f279aaa03e1fbf2a3bc7b", checked := Tryd.checked }
namespace Rows
def none {H : Type} : Left H := { results := [], args := [] }

/- WHAT THE LISTED PACKAGE-LEVEL VARIABLES READ AS WHEN THE CALL BEGINS. Each datum BY PROGRAM (the guide's laid-datum.mjs) off the statement by which the dump's own 'gosem.cut.vars' lays the variable. In a bare row this is a premise. The card (YtjcniejccgofbaaDoorCards.lean) ties it to the program's text. -/
def laid_math_bits_deBruijn32tab {H : Type} : DataW H := .agg [.lit (.int .u8 0), .lit (.int .u8 1), .lit (.int .u8 28), .lit (.int .u8 2), .lit (.int .u8 29), .lit (.int .u8 14), .lit (.int .u8 24), .lit (.int .u8 3), .lit (.int .u8 30), .lit (.int .u8 22), .lit (.int .u8 20), .lit (.int .u8 15), .lit (.int .u8 25), .lit (.int .u8 17), .lit (.int .u8 4), .lit (.int .u8 8), .lit (.int .u8 31), .lit (.int .u8 27), .lit (.int .u8 13), .lit (.int .u8 23), .lit (.int .u8 21), .lit (.int .u8 19), .lit (.int .u8 16), .lit (.int .u8 7), .lit (.int .u8 26), .lit (.int .u8 12), .lit (.int .u8 18), .lit (.int .u8 6), .lit (.int .u8 11), .lit (.int .u8 5), .lit (.int .u8 10), .lit (.int .u8 9)]
def laid_math_bits_deBruijn64tab {H : Type} : DataW H := .agg [.lit (.int .u8 0), .lit (.int .u8 1), .lit (.int .u8 56), .lit (.int .u8 2), .lit (.int .u8 57), .lit (.int .u8 49), .lit (.int .u8 28), .lit (.int .u8 3), .lit (.int .u8 61), .lit (.int .u8 58), .lit (.int .u8 42), .lit (.int .u8 50), .lit (.int .u8 38), .lit (.int .u8 29), .lit (.int .u8 17), .lit (.int .u8 4), .lit (.int .u8 62), .lit (.int .u8 47), .lit (.int .u8 59), .lit (.int .u8 36), .lit (.int .u8 45), .lit (.int .u8 43), .lit (.int .u8 51), .lit (.int .u8 22), .lit (.int .u8 53), .lit (.int .u8 39), .lit (.int .u8 33), .lit (.int .u8 30), .lit (.int .u8 24), .lit (.int .u8 18), .lit (.int .u8 12), .lit (.int .u8 5), .lit (.int .u8 63), .lit (.int .u8 55), .lit (.int .u8 48), .lit (.int .u8 27), .lit (.int .u8 60), .lit (.int .u8 41), .lit (.int .u8 37), .lit (.int .u8 16), .lit (.int .u8 46), .lit (.int .u8 35), .lit (.int .u8 44), .lit (.int .u8 21), .lit (.int .u8 52), .lit (.int .u8 32), .lit (.int .u8 23), .lit (.int .u8 11), .lit (.int .u8 54), .lit (.int .u8 26), .lit (.int .u8 40), .lit (.int .u8 15), .lit (.int .u8 34), .lit (.int .u8 20), .lit (.int .u8 31), .lit (.int .u8 10), .lit (.int .u8 25), .lit (.int .u8 14), .lit (.int .u8 19), .lit (.int .u8 9), .lit (.int .u8 13), .lit (.int .u8 8), .lit (.int .u8 7), .lit (.int .u8 6)]
def laid_internal_strconv_uint64pow10 {H : Type} : DataW H := .agg [.lit (.int .u64 1), .lit (.int .u64 10), .lit (.int .u64 100), .lit (.int .u64 1000), .lit (.int .u64 10000), .lit (.int .u64 100000), .lit (.int .u64 1000000), .lit (.int .u64 10000000), .lit (.int .u64 100000000), .lit (.int .u64 1000000000), .lit (.int .u64 10000000000), .lit (.int .u64 100000000000), .lit (.int .u64 1000000000000), .lit (.int .u64 10000000000000), .lit (.int .u64 100000000000000), .lit (.int .u64 1000000000000000), .lit (.int .u64 10000000000000000), .lit (.int .u64 100000000000000000), .lit (.int .u64 1000000000000000000), .lit (.int .u64 10000000000000000000)]
def laid_unicode_utf8_acceptRanges {H : Type} : DataW H := .agg [.agg [.lit (.int .u8 128), .lit (.int .u8 191)], .agg [.lit (.int .u8 160), .lit (.int .u8 191)], .agg [.lit (.int .u8 128), .lit (.int .u8 159)], .agg [.lit (.int .u8 144), .lit (.int .u8 191)], .agg [.lit (.int .u8 128), .lit (.int .u8 143)], .agg [.lit (.int .u8 0), .lit (.int .u8 0)], .agg [.lit (.int .u8 0), .lit (.int .u8 0)], .agg [.lit (.int .u8 0), .lit (.int .u8 0)], .agg [.lit (.int .u8 0), .lit (.int .u8 0)], .agg [.lit (.int .u8 0), .lit (.int .u8 0)], .agg [.lit (.int .u8 0), .lit (.int .u8 0)], .agg [.lit (.int .u8 0), .lit (.int .u8 0)], .agg [.lit (.int .u8 0), .lit (.int .u8 0)], .agg [.lit (.int .u8 0), .lit (.int .u8 0)], .agg [.lit (.int .u8 0), .lit (.int .u8 0)], .agg [.lit (.int .u8 0), .lit (.int .u8 0)]]
def laid_billing_amount_powers {H : Type} : DataW H := .agg [.lit (.int .i64 1), .lit (.int .i64 10), .lit (.int .i64 100), .lit (.int .i64 1000), .lit (.int .i64 10000)]
/-- One of Go's own tables, pinned by name: the form's constant. -/
def laid_unicode_utf8_first : DataW Unit := Go.Pinned.utf8First

/-- 'billinglaw01.AmountScales': WHATEVER THE INPUT: true; the input reads as it did. -/
def amountScalesSpec : ChangeSpec := { name := "amountScales", fn := fun _ => fun
  | [d1, d2, d3] => { results := [.lit (.bool true)], args := [d1, d2, d3] }
  | _ => none }
def amountScalesRow : OpenClaim := { program := "ytjcniejccgofbaadoor", sum := "8000cf8f39b6d28fd9e23dabee13229f548b7a549b4f279aaa03e1fbf2a3bc7b", func := "billing/billinglaw01.AmountScales", spec := "amountScales", inPlace := ["internal/bytealg.IndexByteString", "internal/bytealg.IndexString"], recurses := true, named := ["internal/bytealg.MaxLen", "unicode/utf8.first", "unicode/utf8.acceptRanges", "billing/amount.powers", "internal/strconv.uint64pow10", "math/bits.deBruijn32tab", "math/bits.deBruijn64tab"], apart := false, laid := [("math/bits.deBruijn32tab", laid_math_bits_deBruijn32tab), ("math/bits.deBruijn64tab", laid_math_bits_deBruijn64tab), ("internal/strconv.uint64pow10", laid_internal_strconv_uint64pow10), ("unicode/utf8.acceptRanges", laid_unicode_utf8_acceptRanges), ("billing/amount.powers", laid_billing_amount_powers), ("unicode/utf8.first", laid_unicode_utf8_first)] }
def AmountScalesSaid : Prop := amountScalesRow.holds Tryd.pinned (OpenSpec.ofChange amountScalesSpec)

/-- ITS FALSE NEIGHBOUR: 'it returns false'. Refute it at one input. -/
def amountScalesWrong : ChangeSpec := { name := "amountScales", fn := fun _ => fun
  | [d1, d2, d3] => { results := [.lit (.bool false)], args := [d1, d2, d3] }
  | _ => none }
def AmountScalesWrongFalsely : Prop := amountScalesRow.holds Tryd.pinned (OpenSpec.ofChange amountScalesWrong)

/-- 'billinglaw01.AmountRounds': WHATEVER THE INPUT: true; the input reads as it did. -/
def amountRoundsSpec : ChangeSpec := { name := "amountRounds", fn := fun _ => fun
  | [d1, d2] => { results := [.lit (.bool true)], args := [d1, d2] }
  | _ => none }
def amountRoundsRow : OpenClaim := { program := "ytjcniejccgofbaadoor", sum := "8000cf8f39b6d28fd9e23dabee13229f548b7a549b4f279aaa03e1fbf2a3bc7b", func := "billing/billinglaw01.AmountRounds", spec := "amountRounds", inPlace := ["internal/bytealg.IndexByteString", "internal/bytealg.IndexString"], named := ["internal/bytealg.MaxLen", "unicode/utf8.first", "unicode/utf8.acceptRanges", "billing/amount.powers", "internal/strconv.uint64pow10", "math/bits.deBruijn32tab", "math/bits.deBruijn64tab"], apart := false, laid := [("math/bits.deBruijn32tab", laid_math_bits_deBruijn32tab), ("math/bits.deBruijn64tab", laid_math_bits_deBruijn64tab), ("internal/strconv.uint64pow10", laid_internal_strconv_uint64pow10), ("unicode/utf8.acceptRanges", laid_unicode_utf8_acceptRanges), ("billing/amount.powers", laid_billing_amount_powers), ("unicode/utf8.first", laid_unicode_utf8_first)] }
def AmountRoundsSaid : Prop := amountRoundsRow.holds Tryd.pinned (OpenSpec.ofChange amountRoundsSpec)

/-- ITS FALSE NEIGHBOUR: 'it returns false'. Refute it at one input. -/
def amountRoundsWrong : ChangeSpec := { name := "amountRounds", fn := fun _ => fun
  | [d1, d2] => { results := [.lit (.bool false)], args := [d1, d2] }
  | _ => none }
def AmountRoundsWrongFalsely : Prop := amountRoundsRow.holds Tryd.pinned (OpenSpec.ofChange amountRoundsWrong)

/-- 'billinglaw01.AmountTotals': WHATEVER THE INPUT: true; the input reads as it did. -/
def amountTotalsSpec : ChangeSpec := { name := "amountTotals", fn := fun _ => fun
  | [d] => { results := [.lit (.bool true)], args := [d] }
  | _ => none }
def amountTotalsRow : OpenClaim := { program := "ytjcniejccgofbaadoor", sum := "8000cf8f39b6d28fd9e23dabee13229f548b7a549b4f279aaa03e1fbf2a3bc7b", func := "billing/billinglaw01.AmountTotals", spec := "amountTotals", inPlace := ["internal/bytealg.IndexByteString", "internal/bytealg.IndexString"], named := ["internal/bytealg.MaxLen", "unicode/utf8.first", "unicode/utf8.acceptRanges", "billing/amount.powers", "internal/strconv.uint64pow10", "math/bits.deBruijn32tab", "math/bits.deBruijn64tab"], apart := false, laid := [("math/bits.deBruijn32tab", laid_math_bits_deBruijn32tab), ("math/bits.deBruijn64tab", laid_math_bits_deBruijn64tab), ("internal/strconv.uint64pow10", laid_internal_strconv_uint64pow10), ("unicode/utf8.acceptRanges", laid_unicode_utf8_acceptRanges), ("billing/amount.powers", laid_billing_amount_powers), ("unicode/utf8.first", laid_unicode_utf8_first)] }
def AmountTotalsSaid : Prop := amountTotalsRow.holds Tryd.pinned (OpenSpec.ofChange amountTotalsSpec)

/-- ITS FALSE NEIGHBOUR: 'it returns false'. Refute it at one input. -/
def amountTotalsWrong : ChangeSpec := { name := "amountTotals", fn := fun _ => fun
  | [d] => { results := [.lit (.bool false)], args := [d] }
  | _ => none }
def AmountTotalsWrongFalsely : Prop := amountTotalsRow.holds Tryd.pinned (OpenSpec.ofChange amountTotalsWrong)

/-- 'billinglaw01.AmountDivides': WHATEVER THE INPUT: true; the input reads as it did. -/
def amountDividesSpec : ChangeSpec := { name := "amountDivides", fn := fun _ => fun
  | [d1, d2] => { results := [.lit (.bool true)], args := [d1, d2] }
  | _ => none }
def amountDividesRow : OpenClaim := { program := "ytjcniejccgofbaadoor", sum := "8000cf8f39b6d28fd9e23dabee13229f548b7a549b4f279aaa03e1fbf2a3bc7b", func := "billing/billinglaw01.AmountDivides", spec := "amountDivides", inPlace := ["internal/bytealg.IndexByteString", "internal/bytealg.IndexString"], named := ["internal/bytealg.MaxLen", "unicode/utf8.first", "unicode/utf8.acceptRanges", "billing/amount.powers", "internal/strconv.uint64pow10", "math/bits.deBruijn32tab", "math/bits.deBruijn64tab"], apart := false, laid := [("math/bits.deBruijn32tab", laid_math_bits_deBruijn32tab), ("math/bits.deBruijn64tab", laid_math_bits_deBruijn64tab), ("internal/strconv.uint64pow10", laid_internal_strconv_uint64pow10), ("unicode/utf8.acceptRanges", laid_unicode_utf8_acceptRanges), ("billing/amount.powers", laid_billing_amount_powers), ("unicode/utf8.first", laid_unicode_utf8_first)] }
def AmountDividesSaid : Prop := amountDividesRow.holds Tryd.pinned (OpenSpec.ofChange amountDividesSpec)

/-- ITS FALSE NEIGHBOUR: 'it returns false'. Refute it at one input. -/
def amountDividesWrong : ChangeSpec := { name := "amountDivides", fn := fun _ => fun
  | [d1, d2] => { results := [.lit (.bool false)], args := [d1, d2] }
  | _ => none }
def AmountDividesWrongFalsely : Prop := amountDividesRow.holds Tryd.pinned (OpenSpec.ofChange amountDividesWrong)

/-- 'billinglaw01.AmountSplit': WHATEVER THE INPUT: true; the input reads as it did. -/
def amountSplitSpec : ChangeSpec := { name := "amountSplit", fn := fun _ => fun
  | [d1, d2] => { results := [.lit (.bool true)], args := [d1, d2] }
  | _ => none }
def amountSplitRow : OpenClaim := { program := "ytjcniejccgofbaadoor", sum := "8000cf8f39b6d28fd9e23dabee13229f548b7a549b4f279aaa03e1fbf2a3bc7b", func := "billing/billinglaw01.AmountSplit", spec := "amountSplit", inPlace := ["internal/bytealg.IndexByteString", "internal/bytealg.IndexString"], named := ["internal/bytealg.MaxLen", "unicode/utf8.first", "unicode/utf8.acceptRanges", "billing/amount.powers", "internal/strconv.uint64pow10", "math/bits.deBruijn32tab", "math/bits.deBruijn64tab"], apart := false, laid := [("math/bits.deBruijn32tab", laid_math_bits_deBruijn32tab), ("math/bits.deBruijn64tab", laid_math_bits_deBruijn64tab), ("internal/strconv.uint64pow10", laid_internal_strconv_uint64pow10), ("unicode/utf8.acceptRanges", laid_unicode_utf8_acceptRanges), ("billing/amount.powers", laid_billing_amount_powers), ("unicode/utf8.first", laid_unicode_utf8_first)] }
def AmountSplitSaid : Prop := amountSplitRow.holds Tryd.pinned (OpenSpec.ofChange amountSplitSpec)

/-- ITS FALSE NEIGHBOUR: 'it returns false'. Refute it at one input. -/
def amountSplitWrong : ChangeSpec := { name := "amountSplit", fn := fun _ => fun
  | [d1, d2] => { results := [.lit (.bool false)], args := [d1, d2] }
  | _ => none }
def AmountSplitWrongFalsely : Prop := amountSplitRow.holds Tryd.pinned (OpenSpec.ofChange amountSplitWrong)

/-- 'billinglaw01.AmountBack': WHATEVER THE INPUT: true; the input reads as it did. -/
def amountBackSpec : ChangeSpec := { name := "amountBack", fn := fun _ => fun
  | [d] => { results := [.lit (.bool true)], args := [d] }
  | _ => none }
def amountBackRow : OpenClaim := { program := "ytjcniejccgofbaadoor", sum := "8000cf8f39b6d28fd9e23dabee13229f548b7a549b4f279aaa03e1fbf2a3bc7b", func := "billing/billinglaw01.AmountBack", spec := "amountBack", inPlace := ["internal/bytealg.IndexByteString", "internal/bytealg.IndexString"], named := ["billing/amount.powers", "internal/strconv.uint64pow10", "math/bits.deBruijn32tab", "math/bits.deBruijn64tab", "internal/bytealg.MaxLen", "unicode/utf8.first", "unicode/utf8.acceptRanges"], apart := false, laid := [("math/bits.deBruijn32tab", laid_math_bits_deBruijn32tab), ("math/bits.deBruijn64tab", laid_math_bits_deBruijn64tab), ("internal/strconv.uint64pow10", laid_internal_strconv_uint64pow10), ("unicode/utf8.acceptRanges", laid_unicode_utf8_acceptRanges), ("billing/amount.powers", laid_billing_amount_powers), ("unicode/utf8.first", laid_unicode_utf8_first)] }
def AmountBackSaid : Prop := amountBackRow.holds Tryd.pinned (OpenSpec.ofChange amountBackSpec)

/-- ITS FALSE NEIGHBOUR: 'it returns false'. Refute it at one input. -/
def amountBackWrong : ChangeSpec := { name := "amountBack", fn := fun _ => fun
  | [d] => { results := [.lit (.bool false)], args := [d] }
  | _ => none }
def AmountBackWrongFalsely : Prop := amountBackRow.holds Tryd.pinned (OpenSpec.ofChange amountBackWrong)

/-- 'billinglaw01.AmountParses': WHATEVER THE INPUT: true; the input reads as it did. -/
def amountParsesSpec : ChangeSpec := { name := "amountParses", fn := fun _ => fun
  | [d] => { results := [.lit (.bool true)], args := [d] }
  | _ => none }
def amountParsesRow : OpenClaim := { program := "ytjcniejccgofbaadoor", sum := "8000cf8f39b6d28fd9e23dabee13229f548b7a549b4f279aaa03e1fbf2a3bc7b", func := "billing/billinglaw01.AmountParses", spec := "amountParses", inPlace := ["internal/bytealg.IndexByteString", "internal/bytealg.IndexString"], named := ["internal/bytealg.MaxLen", "unicode/utf8.first", "unicode/utf8.acceptRanges", "billing/amount.powers", "internal/strconv.uint64pow10", "math/bits.deBruijn32tab", "math/bits.deBruijn64tab"], apart := false, laid := [("math/bits.deBruijn32tab", laid_math_bits_deBruijn32tab), ("math/bits.deBruijn64tab", laid_math_bits_deBruijn64tab), ("internal/strconv.uint64pow10", laid_internal_strconv_uint64pow10), ("unicode/utf8.acceptRanges", laid_unicode_utf8_acceptRanges), ("billing/amount.powers", laid_billing_amount_powers), ("unicode/utf8.first", laid_unicode_utf8_first)] }
def AmountParsesSaid : Prop := amountParsesRow.holds Tryd.pinned (OpenSpec.ofChange amountParsesSpec)

/-- ITS FALSE NEIGHBOUR: 'it returns false'. Refute it at one input. -/
def amountParsesWrong : ChangeSpec := { name := "amountParses", fn := fun _ => fun
  | [d] => { results := [.lit (.bool false)], args := [d] }
  | _ => none }
def AmountParsesWrongFalsely : Prop := amountParsesRow.holds Tryd.pinned (OpenSpec.ofChange amountParsesWrong)

/-- 'billinglaw01.AmountPercents': WHATEVER THE INPUT: true; the input reads as it did. -/
def amountPercentsSpec : ChangeSpec := { name := "amountPercents", fn := fun _ => fun
  | [d1, d2] => { results := [.lit (.bool true)], args := [d1, d2] }
  | _ => none }
def amountPercentsRow : OpenClaim := { program := "ytjcniejccgofbaadoor", sum := "8000cf8f39b6d28fd9e23dabee13229f548b7a549b4f279aaa03e1fbf2a3bc7b", func := "billing/billinglaw01.AmountPercents", spec := "amountPercents", inPlace := ["internal/bytealg.IndexByteString", "internal/bytealg.IndexString"], recurses := true, named := ["internal/bytealg.MaxLen", "unicode/utf8.first", "unicode/utf8.acceptRanges", "billing/amount.powers", "internal/strconv.uint64pow10", "math/bits.deBruijn32tab", "math/bits.deBruijn64tab"], apart := false, laid := [("math/bits.deBruijn32tab", laid_math_bits_deBruijn32tab), ("math/bits.deBruijn64tab", laid_math_bits_deBruijn64tab), ("internal/strconv.uint64pow10", laid_internal_strconv_uint64pow10), ("unicode/utf8.acceptRanges", laid_unicode_utf8_acceptRanges), ("billing/amount.powers", laid_billing_amount_powers), ("unicode/utf8.first", laid_unicode_utf8_first)] }
def AmountPercentsSaid : Prop := amountPercentsRow.holds Tryd.pinned (OpenSpec.ofChange amountPercentsSpec)

/-- ITS FALSE NEIGHBOUR: 'it returns false'. Refute it at one input. -/
def amountPercentsWrong : ChangeSpec := { name := "amountPercents", fn := fun _ => fun
  | [d1, d2] => { results := [.lit (.bool false)], args := [d1, d2] }
  | _ => none }
def AmountPercentsWrongFalsely : Prop := amountPercentsRow.holds Tryd.pinned (OpenSpec.ofChange amountPercentsWrong)

/-- 'billinglaw01.AmountAdds': WHATEVER THE INPUT: true; the input reads as it did. -/
def amountAddsSpec : ChangeSpec := { name := "amountAdds", fn := fun _ => fun
  | [d1, d2, d3] => { results := [.lit (.bool true)], args := [d1, d2, d3] }
  | _ => none }
def amountAddsRow : OpenClaim := { program := "ytjcniejccgofbaadoor", sum := "8000cf8f39b6d28fd9e23dabee13229f548b7a549b4f279aaa03e1fbf2a3bc7b", func := "billing/billinglaw01.AmountAdds", spec := "amountAdds", inPlace := ["internal/bytealg.IndexByteString", "internal/bytealg.IndexString"], named := ["internal/bytealg.MaxLen", "unicode/utf8.first", "unicode/utf8.acceptRanges", "billing/amount.powers", "internal/strconv.uint64pow10", "math/bits.deBruijn32tab", "math/bits.deBruijn64tab"], apart := false, laid := [("math/bits.deBruijn32tab", laid_math_bits_deBruijn32tab), ("math/bits.deBruijn64tab", laid_math_bits_deBruijn64tab), ("internal/strconv.uint64pow10", laid_internal_strconv_uint64pow10), ("unicode/utf8.acceptRanges", laid_unicode_utf8_acceptRanges), ("billing/amount.powers", laid_billing_amount_powers), ("unicode/utf8.first", laid_unicode_utf8_first)] }
def AmountAddsSaid : Prop := amountAddsRow.holds Tryd.pinned (OpenSpec.ofChange amountAddsSpec)

/-- ITS FALSE NEIGHBOUR: 'it returns false'. Refute it at one input. -/
def amountAddsWrong : ChangeSpec := { name := "amountAdds", fn := fun _ => fun
  | [d1, d2, d3] => { results := [.lit (.bool false)], args := [d1, d2, d3] }
  | _ => none }
def AmountAddsWrongFalsely : Prop := amountAddsRow.holds Tryd.pinned (OpenSpec.ofChange amountAddsWrong)

/- THE SECOND FORM. 'bulk': how many values and letters a reading holds, each counted each time it is reached (what is shared counts as often as it is met; a slice's spare places count too). A statement '..UptoSaid' is the law's where the arguments, and the package variables that the reading takes, are together of bulk at most 1048576: NARROWER than '..Said'. Prove '..Said' where nothing that the law and all that it calls make is longer than what came in: it says more and counts as full. Else prove '..UptoSaid'. A law counts once. -/
mutual
def uptoBulk {H : Type} : DataW H → Nat
  | .lit (.string bytes) => bytes.length + 1
  | .lit _ => 1
  | .nil => 1
  | .ptr d => uptoBulk d + 1
  | .slice elems spare => uptoBulkAll elems + uptoBulkAll spare + 1
  | .agg parts => uptoBulkAll parts + 1
  | .iface _ d => uptoBulk d + 1
  | .map entries => uptoBulkEntries entries + 1
  | .held _ => 1
def uptoBulkAll {H : Type} : List (DataW H) → Nat
  | [] => 0
  | d :: r => uptoBulk d + uptoBulkAll r
def uptoBulkEntries {H : Type} : List (Lit × DataW H) → Nat
  | [] => 0
  | x :: r => uptoBulkEntry x + uptoBulkEntries r
def uptoBulkEntry {H : Type} : Lit × DataW H → Nat
  | (.string bytes, d) => bytes.length + uptoBulk d + 1
  | (_, d) => uptoBulk d + 1
 end
def uptoSmall : (H : Type) → List (DataW H) → Bool := fun _ ds => decide (uptoBulkAll ds ≤ 1048576)
def OpenSpec.upto (s : _root_.Go.ChangeSpec) : _root_.Go.OpenSpec := { _root_.Go.OpenSpec.ofChange s with cond := some uptoSmall }

/-- 'billinglaw01.AmountScales', WHERE WHAT IT READS IS OF BULK AT MOST 1048576: true; the input reads as it did. -/
def amountScalesUptoRow : OpenClaim := { program := "ytjcniejccgofbaadoor", sum := "8000cf8f39b6d28fd9e23dabee13229f548b7a549b4f279aaa03e1fbf2a3bc7b", func := "billing/billinglaw01.AmountScales", spec := "amountScales", inPlace := ["internal/bytealg.IndexByteString", "internal/bytealg.IndexString"], recurses := true, named := ["internal/bytealg.MaxLen", "unicode/utf8.first", "unicode/utf8.acceptRanges", "billing/amount.powers", "internal/strconv.uint64pow10", "math/bits.deBruijn32tab", "math/bits.deBruijn64tab"], apart := false, laid := [("math/bits.deBruijn32tab", laid_math_bits_deBruijn32tab), ("math/bits.deBruijn64tab", laid_math_bits_deBruijn64tab), ("internal/strconv.uint64pow10", laid_internal_strconv_uint64pow10), ("unicode/utf8.acceptRanges", laid_unicode_utf8_acceptRanges), ("billing/amount.powers", laid_billing_amount_powers), ("unicode/utf8.first", laid_unicode_utf8_first)], narrowed := true }
def AmountScalesUptoSaid : Prop := amountScalesUptoRow.holds Tryd.pinned (OpenSpec.upto amountScalesSpec)

/-- 'billinglaw01.AmountRounds', WHERE WHAT IT READS IS OF BULK AT MOST 1048576: true; the input reads as it did. -/
def amountRoundsUptoRow : OpenClaim := { program := "ytjcniejccgofbaadoor", sum := "8000cf8f39b6d28fd9e23dabee13229f548b7a549b4f279aaa03e1fbf2a3bc7b", func := "billing/billinglaw01.AmountRounds", spec := "amountRounds", inPlace := ["internal/bytealg.IndexByteString", "internal/bytealg.IndexString"], named := ["internal/bytealg.MaxLen", "unicode/utf8.first", "unicode/utf8.acceptRanges", "billing/amount.powers", "internal/strconv.uint64pow10", "math/bits.deBruijn32tab", "math/bits.deBruijn64tab"], apart := false, laid := [("math/bits.deBruijn32tab", laid_math_bits_deBruijn32tab), ("math/bits.deBruijn64tab", laid_math_bits_deBruijn64tab), ("internal/strconv.uint64pow10", laid_internal_strconv_uint64pow10), ("unicode/utf8.acceptRanges", laid_unicode_utf8_acceptRanges), ("billing/amount.powers", laid_billing_amount_powers), ("unicode/utf8.first", laid_unicode_utf8_first)], narrowed := true }
def AmountRoundsUptoSaid : Prop := amountRoundsUptoRow.holds Tryd.pinned (OpenSpec.upto amountRoundsSpec)

/-- 'billinglaw01.AmountTotals', WHERE WHAT IT READS IS OF BULK AT MOST 1048576: true; the input reads as it did. -/
def amountTotalsUptoRow : OpenClaim := { program := "ytjcniejccgofbaadoor", sum := "8000cf8f39b6d28fd9e23dabee13229f548b7a549b4f279aaa03e1fbf2a3bc7b", func := "billing/billinglaw01.AmountTotals", spec := "amountTotals", inPlace := ["internal/bytealg.IndexByteString", "internal/bytealg.IndexString"], named := ["internal/bytealg.MaxLen", "unicode/utf8.first", "unicode/utf8.acceptRanges", "billing/amount.powers", "internal/strconv.uint64pow10", "math/bits.deBruijn32tab", "math/bits.deBruijn64tab"], apart := false, laid := [("math/bits.deBruijn32tab", laid_math_bits_deBruijn32tab), ("math/bits.deBruijn64tab", laid_math_bits_deBruijn64tab), ("internal/strconv.uint64pow10", laid_internal_strconv_uint64pow10), ("unicode/utf8.acceptRanges", laid_unicode_utf8_acceptRanges), ("billing/amount.powers", laid_billing_amount_powers), ("unicode/utf8.first", laid_unicode_utf8_first)], narrowed := true }
def AmountTotalsUptoSaid : Prop := amountTotalsUptoRow.holds Tryd.pinned (OpenSpec.upto amountTotalsSpec)

/-- 'billinglaw01.AmountDivides', WHERE WHAT IT READS IS OF BULK AT MOST 1048576: true; the input reads as it did. -/
def amountDividesUptoRow : OpenClaim := { program := "ytjcniejccgofbaadoor", sum := "8000cf8f39b6d28fd9e23dabee13229f548b7a549b4f279aaa03e1fbf2a3bc7b", func := "billing/billinglaw01.AmountDivides", spec := "amountDivides", inPlace := ["internal/bytealg.IndexByteString", "internal/bytealg.IndexString"], named := ["internal/bytealg.MaxLen", "unicode/utf8.first", "unicode/utf8.acceptRanges", "billing/amount.powers", "internal/strconv.uint64pow10", "math/bits.deBruijn32tab", "math/bits.deBruijn64tab"], apart := false, laid := [("math/bits.deBruijn32tab", laid_math_bits_deBruijn32tab), ("math/bits.deBruijn64tab", laid_math_bits_deBruijn64tab), ("internal/strconv.uint64pow10", laid_internal_strconv_uint64pow10), ("unicode/utf8.acceptRanges", laid_unicode_utf8_acceptRanges), ("billing/amount.powers", laid_billing_amount_powers), ("unicode/utf8.first", laid_unicode_utf8_first)], narrowed := true }
def AmountDividesUptoSaid : Prop := amountDividesUptoRow.holds Tryd.pinned (OpenSpec.upto amountDividesSpec)

/-- 'billinglaw01.AmountSplit', WHERE WHAT IT READS IS OF BULK AT MOST 1048576: true; the input reads as it did. -/
def amountSplitUptoRow : OpenClaim := { program := "ytjcniejccgofbaadoor", sum := "8000cf8f39b6d28fd9e23dabee13229f548b7a549b4f279aaa03e1fbf2a3bc7b", func := "billing/billinglaw01.AmountSplit", spec := "amountSplit", inPlace := ["internal/bytealg.IndexByteString", "internal/bytealg.IndexString"], named := ["internal/bytealg.MaxLen", "unicode/utf8.first", "unicode/utf8.acceptRanges", "billing/amount.powers", "internal/strconv.uint64pow10", "math/bits.deBruijn32tab", "math/bits.deBruijn64tab"], apart := false, laid := [("math/bits.deBruijn32tab", laid_math_bits_deBruijn32tab), ("math/bits.deBruijn64tab", laid_math_bits_deBruijn64tab), ("internal/strconv.uint64pow10", laid_internal_strconv_uint64pow10), ("unicode/utf8.acceptRanges", laid_unicode_utf8_acceptRanges), ("billing/amount.powers", laid_billing_amount_powers), ("unicode/utf8.first", laid_unicode_utf8_first)], narrowed := true }
def AmountSplitUptoSaid : Prop := amountSplitUptoRow.holds Tryd.pinned (OpenSpec.upto amountSplitSpec)

/-- 'billinglaw01.AmountBack', WHERE WHAT IT READS IS OF BULK AT MOST 1048576: true; the input reads as it did. -/
def amountBackUptoRow : OpenClaim := { program := "ytjcniejccgofbaadoor", sum := "8000cf8f39b6d28fd9e23dabee13229f548b7a549b4f279aaa03e1fbf2a3bc7b", func := "billing/billinglaw01.AmountBack", spec := "amountBack", inPlace := ["internal/bytealg.IndexByteString", "internal/bytealg.IndexString"], named := ["billing/amount.powers", "internal/strconv.uint64pow10", "math/bits.deBruijn32tab", "math/bits.deBruijn64tab", "internal/bytealg.MaxLen", "unicode/utf8.first", "unicode/utf8.acceptRanges"], apart := false, laid := [("math/bits.deBruijn32tab", laid_math_bits_deBruijn32tab), ("math/bits.deBruijn64tab", laid_math_bits_deBruijn64tab), ("internal/strconv.uint64pow10", laid_internal_strconv_uint64pow10), ("unicode/utf8.acceptRanges", laid_unicode_utf8_acceptRanges), ("billing/amount.powers", laid_billing_amount_powers), ("unicode/utf8.first", laid_unicode_utf8_first)], narrowed := true }
def AmountBackUptoSaid : Prop := amountBackUptoRow.holds Tryd.pinned (OpenSpec.upto amountBackSpec)

/-- 'billinglaw01.AmountParses', WHERE WHAT IT READS IS OF BULK AT MOST 1048576: true; the input reads as it did. -/
def amountParsesUptoRow : OpenClaim := { program := "ytjcniejccgofbaadoor", sum := "8000cf8f39b6d28fd9e23dabee13229f548b7a549b4f279aaa03e1fbf2a3bc7b", func := "billing/billinglaw01.AmountParses", spec := "amountParses", inPlace := ["internal/bytealg.IndexByteString", "internal/bytealg.IndexString"], named := ["internal/bytealg.MaxLen", "unicode/utf8.first", "unicode/utf8.acceptRanges", "billing/amount.powers", "internal/strconv.uint64pow10", "math/bits.deBruijn32tab", "math/bits.deBruijn64tab"], apart := false, laid := [("math/bits.deBruijn32tab", laid_math_bits_deBruijn32tab), ("math/bits.deBruijn64tab", laid_math_bits_deBruijn64tab), ("internal/strconv.uint64pow10", laid_internal_strconv_uint64pow10), ("unicode/utf8.acceptRanges", laid_unicode_utf8_acceptRanges), ("billing/amount.powers", laid_billing_amount_powers), ("unicode/utf8.first", laid_unicode_utf8_first)], narrowed := true }
def AmountParsesUptoSaid : Prop := amountParsesUptoRow.holds Tryd.pinned (OpenSpec.upto amountParsesSpec)

/-- 'billinglaw01.AmountPercents', WHERE WHAT IT READS IS OF BULK AT MOST 1048576: true; the input reads as it did. -/
def amountPercentsUptoRow : OpenClaim := { program := "ytjcniejccgofbaadoor", sum := "8000cf8f39b6d28fd9e23dabee13229f548b7a549b4f279aaa03e1fbf2a3bc7b", func := "billing/billinglaw01.AmountPercents", spec := "amountPercents", inPlace := ["internal/bytealg.IndexByteString", "internal/bytealg.IndexString"], recurses := true, named := ["internal/bytealg.MaxLen", "unicode/utf8.first", "unicode/utf8.acceptRanges", "billing/amount.powers", "internal/strconv.uint64pow10", "math/bits.deBruijn32tab", "math/bits.deBruijn64tab"], apart := false, laid := [("math/bits.deBruijn32tab", laid_math_bits_deBruijn32tab), ("math/bits.deBruijn64tab", laid_math_bits_deBruijn64tab), ("internal/strconv.uint64pow10", laid_internal_strconv_uint64pow10), ("unicode/utf8.acceptRanges", laid_unicode_utf8_acceptRanges), ("billing/amount.powers", laid_billing_amount_powers), ("unicode/utf8.first", laid_unicode_utf8_first)], narrowed := true }
def AmountPercentsUptoSaid : Prop := amountPercentsUptoRow.holds Tryd.pinned (OpenSpec.upto amountPercentsSpec)

/-- 'billinglaw01.AmountAdds', WHERE WHAT IT READS IS OF BULK AT MOST 1048576: true; the input reads as it did. -/
def amountAddsUptoRow : OpenClaim := { program := "ytjcniejccgofbaadoor", sum := "8000cf8f39b6d28fd9e23dabee13229f548b7a549b4f279aaa03e1fbf2a3bc7b", func := "billing/billinglaw01.AmountAdds", spec := "amountAdds", inPlace := ["internal/bytealg.IndexByteString", "internal/bytealg.IndexString"], named := ["internal/bytealg.MaxLen", "unicode/utf8.first", "unicode/utf8.acceptRanges", "billing/amount.powers", "internal/strconv.uint64pow10", "math/bits.deBruijn32tab", "math/bits.deBruijn64tab"], apart := false, laid := [("math/bits.deBruijn32tab", laid_math_bits_deBruijn32tab), ("math/bits.deBruijn64tab", laid_math_bits_deBruijn64tab), ("internal/strconv.uint64pow10", laid_internal_strconv_uint64pow10), ("unicode/utf8.acceptRanges", laid_unicode_utf8_acceptRanges), ("billing/amount.powers", laid_billing_amount_powers), ("unicode/utf8.first", laid_unicode_utf8_first)], narrowed := true }
def AmountAddsUptoSaid : Prop := amountAddsUptoRow.holds Tryd.pinned (OpenSpec.upto amountAddsSpec)

end Rows
end Go.Proofs.YtjcniejccgofbaaDoor
