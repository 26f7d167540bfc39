/-
  NARROWER THAN 'FOR EVERY INPUT', by the rows' own cells (each row's printed sentence says how): InvoiceLines: laid · InvoiceBuilds: laid · InvoiceTexts: laid · InvoiceSums: laid · InvoiceTampered: laid · InvoicePlaces: laid · InvoiceTaxes: laid.
  DERIVED. THE GIVEN ROWS OF THIS SEAT. 7 by the template 'for every input the law returns true; each argument reads behind the call as it read before'; 0 by the template 'total and deterministic' (their statements: YtnlnadfpfekeiaaDoorTotals.lean).
  GIVEN WITH THE SEED: the statements are not yours to turn. If you find one false, say at which input.
  Laid BY PROGRAM, IN A SANDBOX (cutbox-rows.mjs): the forced cells as the released guide's own fill.sh prints them over the translation bd32ba729878508c… (all of the seat's roots in one cut). By AI agents, Wed Nov 11 2026. No macro, syntax, notation, axiom, sorry.
-/
import Derived.Test.YtnlnadfpfekeiaaDoorChecked
import GoSem.Claim
import GoSem.ClaimJoined
import GoSem.ClaimMapViews
import Derived.JoinedTies
import Derived.KernelRfl
namespace Go.Proofs.YtnlnadfpfekeiaaDoor
/- THE CELL 'sum', in the pinned program and in every row, IS THE sha256 OF THE DUMP (.gsa) THAT YtnlnadfpfekeiaaDoorProg.lean LOADS. Nothing in Lean hashes anything: it is a label: what it is worth is what the hold of that sum in a sandbox is worth. -/
noncomputable def Tryd.pinned : Pinned := { name := "ytnlnadfpfekeiaadoor", sum := "bd32ba729878508cf99326dba8d6b50e04ea7fd8a9fda5b0f6d4f9775e9e2db3", checked := Tryd.checked }
namespace Rows
def none {H : Type} : Left H := { results := [], args := [] }

/- WHAT THE LISTED PACKAGE-LEVEL VARIABLES READ AS WHEN THE CALL BEGINS. Each datum BY PROGRAM (the guide's laid-datum.mjs) off the statement by which the dump's own 'gosem.cut.vars' lays the variable. In a bare row this is a premise. The card (YtnlnadfpfekeiaaDoorCards.lean) ties it to the program's text. -/
def laid_math_bits_deBruijn32tab {H : Type} : DataW H := .agg [.lit (.int .u8 0), .lit (.int .u8 1), .lit (.int .u8 28), .lit (.int .u8 2), .lit (.int .u8 29), .lit (.int .u8 14), .lit (.int .u8 24), .lit (.int .u8 3), .lit (.int .u8 30), .lit (.int .u8 22), .lit (.int .u8 20), .lit (.int .u8 15), .lit (.int .u8 25), .lit (.int .u8 17), .lit (.int .u8 4), .lit (.int .u8 8), .lit (.int .u8 31), .lit (.int .u8 27), .lit (.int .u8 13), .lit (.int .u8 23), .lit (.int .u8 21), .lit (.int .u8 19), .lit (.int .u8 16), .lit (.int .u8 7), .lit (.int .u8 26), .lit (.int .u8 12), .lit (.int .u8 18), .lit (.int .u8 6), .lit (.int .u8 11), .lit (.int .u8 5), .lit (.int .u8 10), .lit (.int .u8 9)]
def laid_math_bits_deBruijn64tab {H : Type} : DataW H := .agg [.lit (.int .u8 0), .lit (.int .u8 1), .lit (.int .u8 56), .lit (.int .u8 2), .lit (.int .u8 57), .lit (.int .u8 49), .lit (.int .u8 28), .lit (.int .u8 3), .lit (.int .u8 61), .lit (.int .u8 58), .lit (.int .u8 42), .lit (.int .u8 50), .lit (.int .u8 38), .lit (.int .u8 29), .lit (.int .u8 17), .lit (.int .u8 4), .lit (.int .u8 62), .lit (.int .u8 47), .lit (.int .u8 59), .lit (.int .u8 36), .lit (.int .u8 45), .lit (.int .u8 43), .lit (.int .u8 51), .lit (.int .u8 22), .lit (.int .u8 53), .lit (.int .u8 39), .lit (.int .u8 33), .lit (.int .u8 30), .lit (.int .u8 24), .lit (.int .u8 18), .lit (.int .u8 12), .lit (.int .u8 5), .lit (.int .u8 63), .lit (.int .u8 55), .lit (.int .u8 48), .lit (.int .u8 27), .lit (.int .u8 60), .lit (.int .u8 41), .lit (.int .u8 37), .lit (.int .u8 16), .lit (.int .u8 46), .lit (.int .u8 35), .lit (.int .u8 44), .lit (.int .u8 21), .lit (.int .u8 52), .lit (.int .u8 32), .lit (.int .u8 23), .lit (.int .u8 11), .lit (.int .u8 54), .lit (.int .u8 26), .lit (.int .u8 40), .lit (.int .u8 15), .lit (.int .u8 34), .lit (.int .u8 20), .lit (.int .u8 31), .lit (.int .u8 10), .lit (.int .u8 25), .lit (.int .u8 14), .lit (.int .u8 19), .lit (.int .u8 9), .lit (.int .u8 13), .lit (.int .u8 8), .lit (.int .u8 7), .lit (.int .u8 6)]
def laid_internal_strconv_uint64pow10 {H : Type} : DataW H := .agg [.lit (.int .u64 1), .lit (.int .u64 10), .lit (.int .u64 100), .lit (.int .u64 1000), .lit (.int .u64 10000), .lit (.int .u64 100000), .lit (.int .u64 1000000), .lit (.int .u64 10000000), .lit (.int .u64 100000000), .lit (.int .u64 1000000000), .lit (.int .u64 10000000000), .lit (.int .u64 100000000000), .lit (.int .u64 1000000000000), .lit (.int .u64 10000000000000), .lit (.int .u64 100000000000000), .lit (.int .u64 1000000000000000), .lit (.int .u64 10000000000000000), .lit (.int .u64 100000000000000000), .lit (.int .u64 1000000000000000000), .lit (.int .u64 10000000000000000000)]
def laid_billing_amount_powers {H : Type} : DataW H := .agg [.lit (.int .i64 1), .lit (.int .i64 10), .lit (.int .i64 100), .lit (.int .i64 1000), .lit (.int .i64 10000)]

/-- 'billinglaw46.InvoiceLines': WHATEVER THE INPUT: true; the input reads as it did. -/
def invoiceLinesSpec : ChangeSpec := { name := "invoiceLines", fn := fun _ => fun
  | [d1, d2, d3] => { results := [.lit (.bool true)], args := [d1, d2, d3] }
  | _ => none }
def invoiceLinesRow : OpenClaim := { program := "ytnlnadfpfekeiaadoor", sum := "bd32ba729878508cf99326dba8d6b50e04ea7fd8a9fda5b0f6d4f9775e9e2db3", func := "billing/billinglaw46.InvoiceLines", spec := "invoiceLines", named := ["billing/amount.powers", "internal/strconv.uint64pow10", "math/bits.deBruijn32tab", "math/bits.deBruijn64tab"], plainKeys := false, apart := false, laid := [("math/bits.deBruijn32tab", laid_math_bits_deBruijn32tab), ("math/bits.deBruijn64tab", laid_math_bits_deBruijn64tab), ("internal/strconv.uint64pow10", laid_internal_strconv_uint64pow10), ("billing/amount.powers", laid_billing_amount_powers)] }
def InvoiceLinesSaid : Prop := invoiceLinesRow.holds Tryd.pinned (OpenSpec.ofChange invoiceLinesSpec)

/-- ITS FALSE NEIGHBOUR: 'it returns false'. Refute it at one input. -/
def invoiceLinesWrong : ChangeSpec := { name := "invoiceLines", fn := fun _ => fun
  | [d1, d2, d3] => { results := [.lit (.bool false)], args := [d1, d2, d3] }
  | _ => none }
def InvoiceLinesWrongFalsely : Prop := invoiceLinesRow.holds Tryd.pinned (OpenSpec.ofChange invoiceLinesWrong)

/-- 'billinglaw46.InvoiceBuilds': WHATEVER THE INPUT: true; the input reads as it did. -/
def invoiceBuildsSpec : ChangeSpec := { name := "invoiceBuilds", fn := fun _ => fun
  | [d] => { results := [.lit (.bool true)], args := [d] }
  | _ => none }
def invoiceBuildsRow : OpenClaim := { program := "ytnlnadfpfekeiaadoor", sum := "bd32ba729878508cf99326dba8d6b50e04ea7fd8a9fda5b0f6d4f9775e9e2db3", func := "billing/billinglaw46.InvoiceBuilds", spec := "invoiceBuilds", recurses := true, named := ["billing/amount.powers", "internal/strconv.uint64pow10", "math/bits.deBruijn32tab", "math/bits.deBruijn64tab"], plainKeys := false, apart := false, laid := [("math/bits.deBruijn32tab", laid_math_bits_deBruijn32tab), ("math/bits.deBruijn64tab", laid_math_bits_deBruijn64tab), ("internal/strconv.uint64pow10", laid_internal_strconv_uint64pow10), ("billing/amount.powers", laid_billing_amount_powers)] }
def InvoiceBuildsSaid : Prop := invoiceBuildsRow.holds Tryd.pinned (OpenSpec.ofChange invoiceBuildsSpec)

/-- ITS FALSE NEIGHBOUR: 'it returns false'. Refute it at one input. -/
def invoiceBuildsWrong : ChangeSpec := { name := "invoiceBuilds", fn := fun _ => fun
  | [d] => { results := [.lit (.bool false)], args := [d] }
  | _ => none }
def InvoiceBuildsWrongFalsely : Prop := invoiceBuildsRow.holds Tryd.pinned (OpenSpec.ofChange invoiceBuildsWrong)

/-- 'billinglaw46.InvoiceTexts': WHATEVER THE INPUT: true; the input reads as it did. -/
def invoiceTextsSpec : ChangeSpec := { name := "invoiceTexts", fn := fun _ => fun
  | [d] => { results := [.lit (.bool true)], args := [d] }
  | _ => none }
def invoiceTextsRow : OpenClaim := { program := "ytnlnadfpfekeiaadoor", sum := "bd32ba729878508cf99326dba8d6b50e04ea7fd8a9fda5b0f6d4f9775e9e2db3", func := "billing/billinglaw46.InvoiceTexts", spec := "invoiceTexts", named := ["billing/amount.powers", "internal/strconv.uint64pow10", "math/bits.deBruijn32tab", "math/bits.deBruijn64tab"], plainKeys := false, apart := false, laid := [("math/bits.deBruijn32tab", laid_math_bits_deBruijn32tab), ("math/bits.deBruijn64tab", laid_math_bits_deBruijn64tab), ("internal/strconv.uint64pow10", laid_internal_strconv_uint64pow10), ("billing/amount.powers", laid_billing_amount_powers)] }
def InvoiceTextsSaid : Prop := invoiceTextsRow.holds Tryd.pinned (OpenSpec.ofChange invoiceTextsSpec)

/-- ITS FALSE NEIGHBOUR: 'it returns false'. Refute it at one input. -/
def invoiceTextsWrong : ChangeSpec := { name := "invoiceTexts", fn := fun _ => fun
  | [d] => { results := [.lit (.bool false)], args := [d] }
  | _ => none }
def InvoiceTextsWrongFalsely : Prop := invoiceTextsRow.holds Tryd.pinned (OpenSpec.ofChange invoiceTextsWrong)

/-- 'billinglaw46.InvoiceSums': WHATEVER THE INPUT: true; the input reads as it did. -/
def invoiceSumsSpec : ChangeSpec := { name := "invoiceSums", fn := fun _ => fun
  | [d] => { results := [.lit (.bool true)], args := [d] }
  | _ => none }
def invoiceSumsRow : OpenClaim := { program := "ytnlnadfpfekeiaadoor", sum := "bd32ba729878508cf99326dba8d6b50e04ea7fd8a9fda5b0f6d4f9775e9e2db3", func := "billing/billinglaw46.InvoiceSums", spec := "invoiceSums", named := ["billing/amount.powers", "internal/strconv.uint64pow10", "math/bits.deBruijn32tab", "math/bits.deBruijn64tab"], plainKeys := false, apart := false, laid := [("math/bits.deBruijn32tab", laid_math_bits_deBruijn32tab), ("math/bits.deBruijn64tab", laid_math_bits_deBruijn64tab), ("internal/strconv.uint64pow10", laid_internal_strconv_uint64pow10), ("billing/amount.powers", laid_billing_amount_powers)] }
def InvoiceSumsSaid : Prop := invoiceSumsRow.holds Tryd.pinned (OpenSpec.ofChange invoiceSumsSpec)

/-- ITS FALSE NEIGHBOUR: 'it returns false'. Refute it at one input. -/
def invoiceSumsWrong : ChangeSpec := { name := "invoiceSums", fn := fun _ => fun
  | [d] => { results := [.lit (.bool false)], args := [d] }
  | _ => none }
def InvoiceSumsWrongFalsely : Prop := invoiceSumsRow.holds Tryd.pinned (OpenSpec.ofChange invoiceSumsWrong)

/-- 'billinglaw46.InvoiceTampered': WHATEVER THE INPUT: true; the input reads as it did. -/
def invoiceTamperedSpec : ChangeSpec := { name := "invoiceTampered", fn := fun _ => fun
  | [d1, d2, d3] => { results := [.lit (.bool true)], args := [d1, d2, d3] }
  | _ => none }
def invoiceTamperedRow : OpenClaim := { program := "ytnlnadfpfekeiaadoor", sum := "bd32ba729878508cf99326dba8d6b50e04ea7fd8a9fda5b0f6d4f9775e9e2db3", func := "billing/billinglaw46.InvoiceTampered", spec := "invoiceTampered", named := ["billing/amount.powers", "internal/strconv.uint64pow10", "math/bits.deBruijn32tab", "math/bits.deBruijn64tab"], plainKeys := false, apart := false, laid := [("math/bits.deBruijn32tab", laid_math_bits_deBruijn32tab), ("math/bits.deBruijn64tab", laid_math_bits_deBruijn64tab), ("internal/strconv.uint64pow10", laid_internal_strconv_uint64pow10), ("billing/amount.powers", laid_billing_amount_powers)] }
def InvoiceTamperedSaid : Prop := invoiceTamperedRow.holds Tryd.pinned (OpenSpec.ofChange invoiceTamperedSpec)

/-- ITS FALSE NEIGHBOUR: 'it returns false'. Refute it at one input. -/
def invoiceTamperedWrong : ChangeSpec := { name := "invoiceTampered", fn := fun _ => fun
  | [d1, d2, d3] => { results := [.lit (.bool false)], args := [d1, d2, d3] }
  | _ => none }
def InvoiceTamperedWrongFalsely : Prop := invoiceTamperedRow.holds Tryd.pinned (OpenSpec.ofChange invoiceTamperedWrong)

/-- 'billinglaw46.InvoicePlaces': WHATEVER THE INPUT: true; the input reads as it did. -/
def invoicePlacesSpec : ChangeSpec := { name := "invoicePlaces", fn := fun _ => fun
  | [d1, d2, d3] => { results := [.lit (.bool true)], args := [d1, d2, d3] }
  | _ => none }
def invoicePlacesRow : OpenClaim := { program := "ytnlnadfpfekeiaadoor", sum := "bd32ba729878508cf99326dba8d6b50e04ea7fd8a9fda5b0f6d4f9775e9e2db3", func := "billing/billinglaw46.InvoicePlaces", spec := "invoicePlaces", named := ["billing/amount.powers", "internal/strconv.uint64pow10", "math/bits.deBruijn32tab", "math/bits.deBruijn64tab"], plainKeys := false, apart := false, laid := [("math/bits.deBruijn32tab", laid_math_bits_deBruijn32tab), ("math/bits.deBruijn64tab", laid_math_bits_deBruijn64tab), ("internal/strconv.uint64pow10", laid_internal_strconv_uint64pow10), ("billing/amount.powers", laid_billing_amount_powers)] }
def InvoicePlacesSaid : Prop := invoicePlacesRow.holds Tryd.pinned (OpenSpec.ofChange invoicePlacesSpec)

/-- ITS FALSE NEIGHBOUR: 'it returns false'. Refute it at one input. -/
def invoicePlacesWrong : ChangeSpec := { name := "invoicePlaces", fn := fun _ => fun
  | [d1, d2, d3] => { results := [.lit (.bool false)], args := [d1, d2, d3] }
  | _ => none }
def InvoicePlacesWrongFalsely : Prop := invoicePlacesRow.holds Tryd.pinned (OpenSpec.ofChange invoicePlacesWrong)

/-- 'billinglaw46.InvoiceTaxes': WHATEVER THE INPUT: true; the input reads as it did. -/
def invoiceTaxesSpec : ChangeSpec := { name := "invoiceTaxes", fn := fun _ => fun
  | [d] => { results := [.lit (.bool true)], args := [d] }
  | _ => none }
def invoiceTaxesRow : OpenClaim := { program := "ytnlnadfpfekeiaadoor", sum := "bd32ba729878508cf99326dba8d6b50e04ea7fd8a9fda5b0f6d4f9775e9e2db3", func := "billing/billinglaw46.InvoiceTaxes", spec := "invoiceTaxes", recurses := true, named := ["billing/amount.powers", "internal/strconv.uint64pow10", "math/bits.deBruijn32tab", "math/bits.deBruijn64tab"], plainKeys := false, apart := false, laid := [("math/bits.deBruijn32tab", laid_math_bits_deBruijn32tab), ("math/bits.deBruijn64tab", laid_math_bits_deBruijn64tab), ("internal/strconv.uint64pow10", laid_internal_strconv_uint64pow10), ("billing/amount.powers", laid_billing_amount_powers)] }
def InvoiceTaxesSaid : Prop := invoiceTaxesRow.holds Tryd.pinned (OpenSpec.ofChange invoiceTaxesSpec)

/-- ITS FALSE NEIGHBOUR: 'it returns false'. Refute it at one input. -/
def invoiceTaxesWrong : ChangeSpec := { name := "invoiceTaxes", fn := fun _ => fun
  | [d] => { results := [.lit (.bool false)], args := [d] }
  | _ => none }
def InvoiceTaxesWrongFalsely : Prop := invoiceTaxesRow.holds Tryd.pinned (OpenSpec.ofChange invoiceTaxesWrong)

/- THE SECOND FORM. 'bulk': how many values and letters a reading holds, each counted each time it is reached (what is shared counts as often as it is met; a slice's spare places count too). A statement '..UptoSaid' is the law's where the arguments, and the package variables that the reading takes, are together of bulk at most 1048576: NARROWER than '..Said'. Prove '..Said' where nothing that the law and all that it calls make is longer than what came in: it says more and counts as full. Else prove '..UptoSaid'. A law counts once. -/
mutual
def uptoBulk {H : Type} : DataW H → Nat
  | .lit (.string bytes) => bytes.length + 1
  | .lit _ => 1
  | .nil => 1
  | .ptr d => uptoBulk d + 1
  | .slice elems spare => uptoBulkAll elems + uptoBulkAll spare + 1
  | .agg parts => uptoBulkAll parts + 1
  | .iface _ d => uptoBulk d + 1
  | .map entries => uptoBulkEntries entries + 1
  | .held _ => 1
def uptoBulkAll {H : Type} : List (DataW H) → Nat
  | [] => 0
  | d :: r => uptoBulk d + uptoBulkAll r
def uptoBulkEntries {H : Type} : List (Lit × DataW H) → Nat
  | [] => 0
  | x :: r => uptoBulkEntry x + uptoBulkEntries r
def uptoBulkEntry {H : Type} : Lit × DataW H → Nat
  | (.string bytes, d) => bytes.length + uptoBulk d + 1
  | (_, d) => uptoBulk d + 1
 end
def uptoSmall : (H : Type) → List (DataW H) → Bool := fun _ ds => decide (uptoBulkAll ds ≤ 1048576)
def OpenSpec.upto (s : _root_.Go.ChangeSpec) : _root_.Go.OpenSpec := { _root_.Go.OpenSpec.ofChange s with cond := some uptoSmall }

/-- 'billinglaw46.InvoiceLines', WHERE WHAT IT READS IS OF BULK AT MOST 1048576: true; the input reads as it did. -/
def invoiceLinesUptoRow : OpenClaim := { program := "ytnlnadfpfekeiaadoor", sum := "bd32ba729878508cf99326dba8d6b50e04ea7fd8a9fda5b0f6d4f9775e9e2db3", func := "billing/billinglaw46.InvoiceLines", spec := "invoiceLines", named := ["billing/amount.powers", "internal/strconv.uint64pow10", "math/bits.deBruijn32tab", "math/bits.deBruijn64tab"], plainKeys := false, apart := false, laid := [("math/bits.deBruijn32tab", laid_math_bits_deBruijn32tab), ("math/bits.deBruijn64tab", laid_math_bits_deBruijn64tab), ("internal/strconv.uint64pow10", laid_internal_strconv_uint64pow10), ("billing/amount.powers", laid_billing_amount_powers)], narrowed := true }
def InvoiceLinesUptoSaid : Prop := invoiceLinesUptoRow.holds Tryd.pinned (OpenSpec.upto invoiceLinesSpec)

/-- 'billinglaw46.InvoiceBuilds', WHERE WHAT IT READS IS OF BULK AT MOST 1048576: true; the input reads as it did. -/
def invoiceBuildsUptoRow : OpenClaim := { program := "ytnlnadfpfekeiaadoor", sum := "bd32ba729878508cf99326dba8d6b50e04ea7fd8a9fda5b0f6d4f9775e9e2db3", func := "billing/billinglaw46.InvoiceBuilds", spec := "invoiceBuilds", recurses := true, named := ["billing/amount.powers", "internal/strconv.uint64pow10", "math/bits.deBruijn32tab", "math/bits.deBruijn64tab"], plainKeys := false, apart := false, laid := [("math/bits.deBruijn32tab", laid_math_bits_deBruijn32tab), ("math/bits.deBruijn64tab", laid_math_bits_deBruijn64tab), ("internal/strconv.uint64pow10", laid_internal_strconv_uint64pow10), ("billing/amount.powers", laid_billing_amount_powers)], narrowed := true }
def InvoiceBuildsUptoSaid : Prop := invoiceBuildsUptoRow.holds Tryd.pinned (OpenSpec.upto invoiceBuildsSpec)

/-- 'billinglaw46.InvoiceTexts', WHERE WHAT IT READS IS OF BULK AT MOST 1048576: true; the input reads as it did. -/
def invoiceTextsUptoRow : OpenClaim := { program := "ytnlnadfpfekeiaadoor", sum := "bd32ba729878508cf99326dba8d6b50e04ea7fd8a9fda5b0f6d4f9775e9e2db3", func := "billing/billinglaw46.InvoiceTexts", spec := "invoiceTexts", named := ["billing/amount.powers", "internal/strconv.uint64pow10", "math/bits.deBruijn32tab", "math/bits.deBruijn64tab"], plainKeys := false, apart := false, laid := [("math/bits.deBruijn32tab", laid_math_bits_deBruijn32tab), ("math/bits.deBruijn64tab", laid_math_bits_deBruijn64tab), ("internal/strconv.uint64pow10", laid_internal_strconv_uint64pow10), ("billing/amount.powers", laid_billing_amount_powers)], narrowed := true }
def InvoiceTextsUptoSaid : Prop := invoiceTextsUptoRow.holds Tryd.pinned (OpenSpec.upto invoiceTextsSpec)

/-- 'billinglaw46.InvoiceSums', WHERE WHAT IT READS IS OF BULK AT MOST 1048576: true; the input reads as it did. -/
def invoiceSumsUptoRow : OpenClaim := { program := "ytnlnadfpfekeiaadoor", sum := "bd32ba729878508cf99326dba8d6b50e04ea7fd8a9fda5b0f6d4f9775e9e2db3", func := "billing/billinglaw46.InvoiceSums", spec := "invoiceSums", named := ["billing/amount.powers", "internal/strconv.uint64pow10", "math/bits.deBruijn32tab", "math/bits.deBruijn64tab"], plainKeys := false, apart := false, laid := [("math/bits.deBruijn32tab", laid_math_bits_deBruijn32tab), ("math/bits.deBruijn64tab", laid_math_bits_deBruijn64tab), ("internal/strconv.uint64pow10", laid_internal_strconv_uint64pow10), ("billing/amount.powers", laid_billing_amount_powers)], narrowed := true }
def InvoiceSumsUptoSaid : Prop := invoiceSumsUptoRow.holds Tryd.pinned (OpenSpec.upto invoiceSumsSpec)

/-- 'billinglaw46.InvoiceTampered', WHERE WHAT IT READS IS OF BULK AT MOST 1048576: true; the input reads as it did. -/
def invoiceTamperedUptoRow : OpenClaim := { program := "ytnlnadfpfekeiaadoor", sum := "bd32ba729878508cf99326dba8d6b50e04ea7fd8a9fda5b0f6d4f9775e9e2db3", func := "billing/billinglaw46.InvoiceTampered", spec := "invoiceTampered", named := ["billing/amount.powers", "internal/strconv.uint64pow10", "math/bits.deBruijn32tab", "math/bits.deBruijn64tab"], plainKeys := false, apart := false, laid := [("math/bits.deBruijn32tab", laid_math_bits_deBruijn32tab), ("math/bits.deBruijn64tab", laid_math_bits_deBruijn64tab), ("internal/strconv.uint64pow10", laid_internal_strconv_uint64pow10), ("billing/amount.powers", laid_billing_amount_powers)], narrowed := true }
def InvoiceTamperedUptoSaid : Prop := invoiceTamperedUptoRow.holds Tryd.pinned (OpenSpec.upto invoiceTamperedSpec)

/-- 'billinglaw46.InvoicePlaces', WHERE WHAT IT READS IS OF BULK AT MOST 1048576: true; the input reads as it did. -/
def invoicePlacesUptoRow : OpenClaim := { program := "ytnlnadfpfekeiaadoor", sum := "bd32ba729878508cf99326dba8d6b50e04ea7fd8a9fda5b0f6d4f9775e9e2db3", func := "billing/billinglaw46.InvoicePlaces", spec := "invoicePlaces", named := ["billing/amount.powers", "internal/strconv.uint64pow10", "math/bits.deBruijn32tab", "math/bits.deBruijn64tab"], plainKeys := false, apart := false, laid := [("math/bits.deBruijn32tab", laid_math_bits_deBruijn32tab), ("math/bits.deBruijn64tab", laid_math_bits_deBruijn64tab), ("internal/strconv.uint64pow10", laid_internal_strconv_uint64pow10), ("billing/amount.powers", laid_billing_amount_powers)], narrowed := true }
def InvoicePlacesUptoSaid : Prop := invoicePlacesUptoRow.holds Tryd.pinned (OpenSpec.upto invoicePlacesSpec)

/-- 'billinglaw46.InvoiceTaxes', WHERE WHAT IT READS IS OF BULK AT MOST 1048576: true; the input reads as it did. -/
def invoiceTaxesUptoRow : OpenClaim := { program := "ytnlnadfpfekeiaadoor", sum := "bd32ba729878508cf99326dba8d6b50e04ea7fd8a9fda5b0f6d4f9775e9e2db3", func := "billing/billinglaw46.InvoiceTaxes", spec := "invoiceTaxes", recurses := true, named := ["billing/amount.powers", "internal/strconv.uint64pow10", "math/bits.deBruijn32tab", "math/bits.deBruijn64tab"], plainKeys := false, apart := false, laid := [("math/bits.deBruijn32tab", laid_math_bits_deBruijn32tab), ("math/bits.deBruijn64tab", laid_math_bits_deBruijn64tab), ("internal/strconv.uint64pow10", laid_internal_strconv_uint64pow10), ("billing/amount.powers", laid_billing_amount_powers)], narrowed := true }
def InvoiceTaxesUptoSaid : Prop := invoiceTaxesUptoRow.holds Tryd.pinned (OpenSpec.upto invoiceTaxesSpec)

end Rows
end Go.Proofs.YtnlnadfpfekeiaaDoor
