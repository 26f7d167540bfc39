/- The Go functions as Lean functions. -/
import Derived.Test.YtnlnadfpfekeiaaDoorXX0
namespace Gx
open Go Gd
set_option linter.unusedVariables false
abbrev tyRuntimeBoundsError : Ty := .st (.pr (.int .i64) (.pr (.int .i64) (.pr .bool (.int .u8))))
abbrev RuntimeBoundsError : Type := Int × Int × Bool × Int
abbrev RuntimeBoundsError.x (x : RuntimeBoundsError) : Int := x.1
abbrev RuntimeBoundsError.y (x : RuntimeBoundsError) : Int := x.2.1
abbrev RuntimeBoundsError.signed (x : RuntimeBoundsError) : Bool := x.2.2.1
abbrev RuntimeBoundsError.code (x : RuntimeBoundsError) : Int := x.2.2.2
abbrev tyApiUsage : Ty := .st (.pr (.int .i64) (.pr (.int .i64) (.pr (.int .i64) (.pr (.int .i64) (.pr .str (.pr .str (.pr (.int .i64) (.pr (.int .i64) (.pr (.int .i64) (.pr .bool (.pr (.int .i64) (.int .i64))))))))))))
abbrev ApiUsage : Type := Int × Int × Int × Int × Str × Str × Int × Int × Int × Bool × Int × Int
abbrev ApiUsage.Id (x : ApiUsage) : Int := x.1
abbrev ApiUsage.Kind (x : ApiUsage) : Int := x.2.1
abbrev ApiUsage.Account (x : ApiUsage) : Int := x.2.2.1
abbrev ApiUsage.Sub (x : ApiUsage) : Int := x.2.2.2.1
abbrev ApiUsage.A (x : ApiUsage) : Str := x.2.2.2.2.1
abbrev ApiUsage.B (x : ApiUsage) : Str := x.2.2.2.2.2.1
abbrev ApiUsage.Start (x : ApiUsage) : Int := x.2.2.2.2.2.2.1
abbrev ApiUsage.Units (x : ApiUsage) : Int := x.2.2.2.2.2.2.2.1
abbrev ApiUsage.Trunk (x : ApiUsage) : Int := x.2.2.2.2.2.2.2.2.1
abbrev ApiUsage.Inbound (x : ApiUsage) : Bool := x.2.2.2.2.2.2.2.2.2.1
abbrev ApiUsage.Source (x : ApiUsage) : Int := x.2.2.2.2.2.2.2.2.2.2.1
abbrev ApiUsage.Serial (x : ApiUsage) : Int := x.2.2.2.2.2.2.2.2.2.2.2
abbrev tyApiTake : Ty := .st (.pr (.int .i64) (.pr .str (.pr (.int .i64) (.pr (.int .i64) (.int .i64)))))
abbrev ApiTake : Type := Int × Str × Int × Int × Int
abbrev ApiTake.Sub (x : ApiTake) : Int := x.1
abbrev ApiTake.Product (x : ApiTake) : Str := x.2.1
abbrev ApiTake.Index (x : ApiTake) : Int := x.2.2.1
abbrev ApiTake.From (x : ApiTake) : Int := x.2.2.2.1
abbrev ApiTake.Units (x : ApiTake) : Int := x.2.2.2.2
abbrev tyApiSegment : Ty := .st (.pr .str (.pr (.int .i64) (.pr (.int .i64) (.int .i64))))
abbrev ApiSegment : Type := Str × Int × Int × Int
abbrev ApiSegment.Band (x : ApiSegment) : Str := x.1
abbrev ApiSegment.Start (x : ApiSegment) : Int := x.2.1
abbrev ApiSegment.Units (x : ApiSegment) : Int := x.2.2.1
abbrev ApiSegment.Amount (x : ApiSegment) : Int := x.2.2.2
abbrev tyApiGiven : Ty := .st (.pr .str (.int .i64))
abbrev ApiGiven : Type := Str × Int
abbrev ApiGiven.Name (x : ApiGiven) : Str := x.1
abbrev ApiGiven.Amount (x : ApiGiven) : Int := x.2
abbrev tyApiRated : Ty := .st (.pr tyApiUsage (.pr (.int .i64) (.pr .str (.pr (.int .i64) (.pr .str (.pr (.sl tyApiTake) (.pr (.sl tyApiSegment) (.pr (.int .i64) (.pr (.int .i64) (.pr (.int .i64) (.pr (.sl tyApiGiven) (.pr (.int .i64) (.int .i64)))))))))))))
abbrev ApiRated : Type := ApiUsage × Int × Str × Int × Str × (List ApiTake) × (List ApiSegment) × Int × Int × Int × (List ApiGiven) × Int × Int
abbrev ApiRated.Usage (x : ApiRated) : ApiUsage := x.1
abbrev ApiRated.Err (x : ApiRated) : Int := x.2.1
abbrev ApiRated.Plan (x : ApiRated) : Str := x.2.2.1
abbrev ApiRated.Version (x : ApiRated) : Int := x.2.2.2.1
abbrev ApiRated.Zone (x : ApiRated) : Str := x.2.2.2.2.1
abbrev ApiRated.Takes (x : ApiRated) : (List ApiTake) := x.2.2.2.2.2.1
abbrev ApiRated.Segments (x : ApiRated) : (List ApiSegment) := x.2.2.2.2.2.2.1
abbrev ApiRated.Setup (x : ApiRated) : Int := x.2.2.2.2.2.2.2.1
abbrev ApiRated.Gross (x : ApiRated) : Int := x.2.2.2.2.2.2.2.2.1
abbrev ApiRated.Net (x : ApiRated) : Int := x.2.2.2.2.2.2.2.2.2.1
abbrev ApiRated.Given (x : ApiRated) : (List ApiGiven) := x.2.2.2.2.2.2.2.2.2.2.1
abbrev ApiRated.Paid (x : ApiRated) : Int := x.2.2.2.2.2.2.2.2.2.2.2.1
abbrev ApiRated.Owed (x : ApiRated) : Int := x.2.2.2.2.2.2.2.2.2.2.2.2
abbrev tyApiPeriod : Ty := .st (.pr (.int .i64) (.int .i64))
abbrev ApiPeriod : Type := Int × Int
abbrev ApiPeriod.From (x : ApiPeriod) : Int := x.1
abbrev ApiPeriod.To (x : ApiPeriod) : Int := x.2
abbrev tyApiLine : Ty := .st (.pr (.int .i64) (.pr (.int .i64) (.pr .str (.pr .str (.pr (.int .i64) (.pr (.int .i64) (.pr (.int .i64) (.int .i64))))))))
abbrev ApiLine : Type := Int × Int × Str × Str × Int × Int × Int × Int
abbrev ApiLine.Kind (x : ApiLine) : Int := x.1
abbrev ApiLine.Sub (x : ApiLine) : Int := x.2.1
abbrev ApiLine.Name (x : ApiLine) : Str := x.2.2.1
abbrev ApiLine.Category (x : ApiLine) : Str := x.2.2.2.1
abbrev ApiLine.Count (x : ApiLine) : Int := x.2.2.2.2.1
abbrev ApiLine.Units (x : ApiLine) : Int := x.2.2.2.2.2.1
abbrev ApiLine.Amount (x : ApiLine) : Int := x.2.2.2.2.2.2.1
abbrev ApiLine.Rounded (x : ApiLine) : Int := x.2.2.2.2.2.2.2
abbrev tyApiTax : Ty := .st (.pr .str (.pr (.int .i64) (.int .i64)))
abbrev ApiTax : Type := Str × Int × Int
abbrev ApiTax.Category (x : ApiTax) : Str := x.1
abbrev ApiTax.From (x : ApiTax) : Int := x.2.1
abbrev ApiTax.Points (x : ApiTax) : Int := x.2.2
abbrev tyBillinglaw46Case : Ty := .st (.pr (.int .i64) (.pr tyApiPeriod (.pr (.sl tyApiLine) (.sl tyApiTax))))
abbrev Billinglaw46Case : Type := Int × ApiPeriod × (List ApiLine) × (List ApiTax)
abbrev Billinglaw46Case.Account (x : Billinglaw46Case) : Int := x.1
abbrev Billinglaw46Case.Period (x : Billinglaw46Case) : ApiPeriod := x.2.1
abbrev Billinglaw46Case.Lines (x : Billinglaw46Case) : (List ApiLine) := x.2.2.1
abbrev Billinglaw46Case.Taxes (x : Billinglaw46Case) : (List ApiTax) := x.2.2.2
abbrev tyApiTaxLine : Ty := .st (.pr .str (.pr (.int .i64) (.pr (.int .i64) (.int .i64))))
abbrev ApiTaxLine : Type := Str × Int × Int × Int
abbrev ApiTaxLine.Category (x : ApiTaxLine) : Str := x.1
abbrev ApiTaxLine.Points (x : ApiTaxLine) : Int := x.2.1
abbrev ApiTaxLine.Base (x : ApiTaxLine) : Int := x.2.2.1
abbrev ApiTaxLine.Rounded (x : ApiTaxLine) : Int := x.2.2.2
abbrev tyApiInvoice : Ty := .st (.pr (.int .i64) (.pr tyApiPeriod (.pr (.sl tyApiLine) (.pr (.sl tyApiTaxLine) (.pr (.int .i64) (.pr (.int .i64) (.int .i64)))))))
abbrev ApiInvoice : Type := Int × ApiPeriod × (List ApiLine) × (List ApiTaxLine) × Int × Int × Int
abbrev ApiInvoice.Account (x : ApiInvoice) : Int := x.1
abbrev ApiInvoice.Period (x : ApiInvoice) : ApiPeriod := x.2.1
abbrev ApiInvoice.Lines (x : ApiInvoice) : (List ApiLine) := x.2.2.1
abbrev ApiInvoice.Taxes (x : ApiInvoice) : (List ApiTaxLine) := x.2.2.2.1
abbrev ApiInvoice.Net (x : ApiInvoice) : Int := x.2.2.2.2.1
abbrev ApiInvoice.Tax (x : ApiInvoice) : Int := x.2.2.2.2.2.1
abbrev ApiInvoice.Total (x : ApiInvoice) : Int := x.2.2.2.2.2.2
abbrev tyInvoiceKey : Ty := .st (.pr (.int .i64) (.pr (.int .i64) .str))
abbrev InvoiceKey : Type := Int × Int × Str
abbrev InvoiceKey.sub (x : InvoiceKey) : Int := x.1
abbrev InvoiceKey.kind (x : InvoiceKey) : Int := x.2.1
abbrev InvoiceKey.name (x : InvoiceKey) : Str := x.2.2
abbrev tyInvoiceGroup : Ty := .st (.pr (.int .i64) (.pr (.int .i64) (.sl (.int .i64))))
abbrev InvoiceGroup : Type := Int × Int × (List Int)
abbrev InvoiceGroup.count (x : InvoiceGroup) : Int := x.1
abbrev InvoiceGroup.units (x : InvoiceGroup) : Int := x.2.1
abbrev InvoiceGroup.owed (x : InvoiceGroup) : (List Int) := x.2.2
abbrev tyBillingref46Key : Ty := .st (.pr (.int .i64) (.pr (.int .i64) .str))
abbrev Billingref46Key : Type := Int × Int × Str
abbrev Billingref46Key.Sub (x : Billingref46Key) : Int := x.1
abbrev Billingref46Key.Kind (x : Billingref46Key) : Int := x.2.1
abbrev Billingref46Key.Name (x : Billingref46Key) : Str := x.2.2
abbrev gv0 : List Int := ([1, 10, 100, 1000, 10000] : List Int)
abbrev gv1 : List Int := Go.Lib.pow10Tab
def billinglaw46_rated (N : Nat) (x0 : Int) (x1 : Str) (x2 : Int) : Option (ApiRated) :=
  some ((x0, 1, 1, 1, ([] : Str), ([] : Str), 5, 60, 0, false, 0, 0), 0, ([] : Str), 0, x1, ([] : (List ApiTake)), ([] : (List ApiSegment)), 0, 0, 0, ([] : (List ApiGiven)), 0, x2)
def interval_Valid (N : Nat) (x0 : ApiPeriod) : Option (Bool) :=
  some (((decide (x0.From ≥ 0)) && (decide (x0.From < x0.To))) && (decide (x0.To ≤ 12622780800)))
def interval_Contains (N : Nat) (x0 : ApiPeriod) (x1 : Int) : Option (Bool) :=
  (interval_Valid N x0).bind fun r1 =>
  some ((r1 && (decide (x1 ≥ x0.From))) && (decide (x1 < x0.To)))
def invoice_counts (N : Nat) (x0 : ApiRated) (x1 : Int) (x2 : ApiPeriod) : Option (Bool) :=
  (if ((((x0.Usage.Account == x1) && (x0.Err == 0)) && (!x0.Usage.Inbound)) && (decide (x0.Usage.Units > 0))) then
    (interval_Contains N x2 x0.Usage.Start).bind fun r2 =>
    some r2
  else
    some false : Option (Bool)).bind fun v3 =>
  some v3
def invoice_of (N : Nat) (x0 : ApiRated) : Option (InvoiceKey) :=
  (if (x0.Zone == ([] : Str)) then
    some (x0.Usage.Sub, x0.Usage.Kind, ([111, 116, 104, 101, 114] : Str))
  else
    some (x0.Usage.Sub, x0.Usage.Kind, x0.Zone) : Option ((InvoiceKey))).bind fun v1 =>
  some v1
def invoice_less (N : Nat) (x0 : InvoiceKey) (x1 : InvoiceKey) : Option (Bool) :=
  if (x0.sub != x1.sub) then
    some (decide (x0.sub < x1.sub))
  else
    if (x0.kind != x1.kind) then
      some (decide (x0.kind < x1.kind))
    else
      some (Op.bytesLess x0.name x1.name)
def invoice_groups_l3 (N : Nat) (v8 : (List InvoiceKey)) (r14 : InvoiceKey) : (Int) → Option ((Int) ⊕ ((Int))) := fun v16 =>
  (if (decide (v16 < (List.length v8 : Int))) then
    (idx v8 v16).bind fun _ =>
    (idx v8 v16).bind fun x17 =>
    (invoice_less N x17 r14).bind fun r18 =>
    some r18
  else
    some false : Option ((Bool))).bind fun v24 =>
  if v24 then
    some (.inl (IntKind.wrap .i64 (v16 + 1)))
  else
    some (.inr v16)
def invoice_groups_l4 (N : Nat) (x0 : (List ApiRated)) (x1 : Int) : (Int × ApiPeriod × (List (InvoiceKey × InvoiceGroup)) × (List InvoiceKey)) → Option ((Int × ApiPeriod × (List (InvoiceKey × InvoiceGroup)) × (List InvoiceKey)) ⊕ (((List (InvoiceKey × InvoiceGroup)) × (List InvoiceKey)))) := fun (v5, v6, v7, v8) =>
  if (decide (v5 < (List.length x0 : Int))) then
    ((idx x0 v5).bind fun x10 =>
    (invoice_counts N x10 x1 v6).bind fun r13 =>
    if (!r13) then
      some (v6, v7, v8)
    else
      (invoice_of N x10).bind fun r14 =>
      (chk (eqK tyInvoiceKey r14 r14)).bind fun _ =>
      (if (!(findL (k := tyInvoiceKey) r14 v7).isSome) then
        (loopN (invoice_groups_l3 N v8 r14) N 0).bind fun v28 =>
        (slc v8 0 v28).bind fun s29 =>
        (app 32 ([] : (List InvoiceKey)) s29).bind fun q30 =>
        (app 32 q30 ([r14] : (List InvoiceKey))).bind fun q31 =>
        (slc v8 v28 (List.length v8 : Int)).bind fun s32 =>
        (app 32 q31 s32).bind fun q33 =>
        some q33
      else
        some v8 : Option (((List InvoiceKey)))).bind fun v34 =>
      (if (decide (x10.Usage.Units > (IntKind.wrap .i64 (1125899906842624 - (if 1125899906842624 < (((findL (k := tyInvoiceKey) r14 v7).getD (0, 0, ([] : (List Int)))).units) then 1125899906842624 else (((findL (k := tyInvoiceKey) r14 v7).getD (0, 0, ([] : (List Int)))).units)))))) then
        some ((IntKind.wrap .i64 ((((findL (k := tyInvoiceKey) r14 v7).getD (0, 0, ([] : (List Int)))).count) + 1)), 1125899906842625, (optL (fun (y : InvoiceGroup) => (y.owed : (List Int))) (findL (k := tyInvoiceKey) r14 v7)))
      else
        some ((IntKind.wrap .i64 ((((findL (k := tyInvoiceKey) r14 v7).getD (0, 0, ([] : (List Int)))).count) + 1)), (IntKind.wrap .i64 ((((findL (k := tyInvoiceKey) r14 v7).getD (0, 0, ([] : (List Int)))).units) + x10.Usage.Units)), (optL (fun (y : InvoiceGroup) => (y.owed : (List Int))) (findL (k := tyInvoiceKey) r14 v7))) : Option ((Int × Int × (List Int)))).bind fun (v35, v36, v37) =>
      (app 8 v37 ([x10.Owed] : (List Int))).bind fun q38 =>
      (chk (eqK tyInvoiceKey r14 r14)).bind fun _ =>
      some (v6, (putL (k := tyInvoiceKey) r14 (v35, v36, q38) v7), v34) : Option ((ApiPeriod × (List (InvoiceKey × InvoiceGroup)) × (List InvoiceKey)))).bind fun (v39, v40, v41) =>
    some (.inl ((IntKind.wrap .i64 (v5 + 1)), v39, v40, v41))
  else
    some (.inr (v7, v8))
def invoice_groups (N : Nat) (x0 : (List ApiRated)) (x1 : Int) (x2 : ApiPeriod) : Option ((List InvoiceKey) × (List (InvoiceKey × InvoiceGroup))) :=
  (loopN (invoice_groups_l4 N x0 x1) N (0, x2, ([] : List (InvoiceKey × InvoiceGroup)), ([] : (List InvoiceKey)))).bind fun (v42, v43) =>
  some (v43, v42)
def amount_Valid (N : Nat) (x0 : Int) : Option (Bool) :=
  some ((decide (x0 ≥ (-1125899906842624))) && (decide (x0 ≤ 1125899906842624)))
def amount_checked (N : Nat) (x0 : Int) : Option (Int × Int) :=
  (amount_Valid N x0).bind fun r1 =>
  if (!r1) then
    some (0, 6)
  else
    some (x0, 0)
def amount_Sum_l1 (N : Nat) (x0 : (List Int)) : (Int × Int) → Option ((Int × Int) ⊕ ((Int) ⊕ (Int × Int))) := fun (v1, v2) =>
  if (decide (v2 < (List.length x0 : Int))) then
    (idx x0 v2).bind fun x3 =>
    (amount_Valid N x3).bind fun r4 =>
    if (!r4) then
      some (.inr (.inr (0, 6)))
    else
      some (.inl ((IntKind.wrap .i64 (v1 + x3)), (IntKind.wrap .i64 (v2 + 1))))
  else
    some (.inr (.inl v1))
def amount_Sum (N : Nat) (x0 : (List Int)) : Option (Int × Int) :=
  if (decide ((List.length x0 : Int) > 4096)) then
    some (0, 5)
  else
    (loopN (amount_Sum_l1 N x0) N (0, 0)).bind fun
      | .inl v5 =>
        (amount_checked N v5).bind fun (r6, r7) =>
        some (r6, r7)
      | .inr (v8, v9) =>
        some (v8, v9)
def invoice_category (N : Nat) (x0 : Int) : Option (Str) :=
  if (x0 == 1) then
    some ([118, 111, 105, 99, 101] : Str)
  else
    if (x0 == 2) then
      some ([116, 101, 120, 116] : Str)
    else
      if (x0 == 3) then
        some ([100, 97, 116, 97] : Str)
      else
        if (x0 == 4) then
          some ([99, 111, 110, 116, 101, 110, 116] : Str)
        else
          some ([] : Str)
def invoice_Lines_l1 (N : Nat) (r1 : (List InvoiceKey)) (r2 : (List (InvoiceKey × InvoiceGroup))) : (Int × (List ApiLine)) → Option ((Int × (List ApiLine)) ⊕ (((List ApiLine)) ⊕ (Int))) := fun (v4, v5) =>
  if (decide (v4 < (List.length r1 : Int))) then
    (idx r1 v4).bind fun _ =>
    (idx r1 v4).bind fun x6 =>
    (amount_Sum N (((findL (k := tyInvoiceKey) x6 r2).getD (0, 0, ([] : (List Int)))).owed)).bind fun (r8, r9) =>
    if ((r9 != 0) || (decide ((((findL (k := tyInvoiceKey) x6 r2).getD (0, 0, ([] : (List Int)))).units) > 1125899906842624))) then
      some (.inr (.inr 6))
    else
      (invoice_category N x6.kind).bind fun r10 =>
      (app 80 v5 ([(1, x6.sub, x6.name, r10, ((findL (k := tyInvoiceKey) x6 r2).getD (0, 0, ([] : (List Int)))).count, ((findL (k := tyInvoiceKey) x6 r2).getD (0, 0, ([] : (List Int)))).units, r8, 0)] : (List ApiLine))).bind fun q11 =>
      some (.inl ((IntKind.wrap .i64 (v4 + 1)), q11))
  else
    some (.inr (.inl v5))
def invoice_Lines (N : Nat) (x0 : (List ApiRated)) (x1 : Int) (x2 : ApiPeriod) : Option (Int × (List ApiLine)) :=
  if (decide ((List.length x0 : Int) > 4096)) then
    some (5, ([] : (List ApiLine)))
  else
    (invoice_groups N x0 x1 x2).bind fun (r1, r2) =>
    (loopN (invoice_Lines_l1 N r1 r2) N (0, ([] : (List ApiLine)))).bind fun
      | .inl v12 =>
        some (0, v12)
      | .inr v13 =>
        some (v13, ([] : (List ApiLine)))
def invoice_amounts_l1 (N : Nat) (x0 : (List ApiLine)) : (Int × (List Int)) → Option ((Int × (List Int)) ⊕ (((List Int)) ⊕ (Bool))) := fun (v2, v3) =>
  if (decide (v2 < (List.length x0 : Int))) then
    (idx x0 v2).bind fun x4 =>
    (amount_Valid N x4.Amount).bind fun r5 =>
    if (!r5) then
      some (.inr (.inr false))
    else
      (app 8 v3 ([x4.Amount] : (List Int))).bind fun q6 =>
      some (.inl ((IntKind.wrap .i64 (v2 + 1)), q6))
  else
    some (.inr (.inl v3))
def invoice_amounts (N : Nat) (x0 : (List ApiLine)) : Option (Bool × (List Int)) :=
  (loopN (invoice_amounts_l1 N x0) N (0, ([] : (List Int)))).bind fun
    | .inl v7 =>
      some (true, v7)
    | .inr v8 =>
      some (v8, ([] : (List Int)))
def tax_name_l1 (N : Nat) (x0 : Str) : (Int) → Option ((Int) ⊕ ((Unit) ⊕ (Bool))) := fun v7 =>
  if (decide (v7 < (List.length x0 : Int))) then
    (sidx x0 v7).bind fun c8 =>
    if ((((decide (c8 < 97)) || (decide (c8 > 122))) && ((decide (c8 < 48)) || (decide (c8 > 57)))) && (c8 != 45)) then
      some (.inr (.inr false))
    else
      some (.inl (IntKind.wrap .i64 (v7 + 1)))
  else
    some (.inr (.inl ()))
def tax_name (N : Nat) (x0 : Str) : Option (Bool) :=
  (if ((x0 == ([] : Str)) || (decide ((List.length x0 : Int) > 24))) then
    some true
  else
    (sidx x0 0).bind fun c2 =>
    some (decide (c2 < 97)) : Option (Bool)).bind fun v3 =>
  (if v3 then
    some true
  else
    (sidx x0 0).bind fun c5 =>
    some (decide (c5 > 122)) : Option (Bool)).bind fun v6 =>
  if v6 then
    some false
  else
    (loopN (tax_name_l1 N x0) N 1).bind fun
      | .inl _ =>
        some true
      | .inr v9 =>
        some v9
def tax_Check_l1 (N : Nat) (x0 : (List ApiTax)) : (Int) → Option ((Int) ⊕ ((Unit) ⊕ (Int))) := fun v1 =>
  if (decide (v1 < (List.length x0 : Int))) then
    (idx x0 v1).bind fun x2 =>
    (tax_name N x2.Category).bind fun r3 =>
    if (!r3) then
      some (.inr (.inr 8))
    else
      if ((decide (x2.From < 0)) || (decide (x2.From ≥ 12622780800))) then
        some (.inr (.inr 15))
      else
        if ((decide (x2.Points < 0)) || (decide (x2.Points > 10000))) then
          some (.inr (.inr 6))
        else
          (if (decide (v1 > 0)) then
            (idx x0 (IntKind.wrap .i64 (v1 - 1))).bind fun x11 =>
            (if (!(Op.bytesLess x11.Category x2.Category || x11.Category == x2.Category)) then
              some true
            else
              (idx x0 (IntKind.wrap .i64 (v1 - 1))).bind fun x15 =>
              (if (x15.Category == x2.Category) then
                (idx x0 (IntKind.wrap .i64 (v1 - 1))).bind fun x17 =>
                some (decide (x17.From ≥ x2.From))
              else
                some false : Option (Bool)).bind fun v18 =>
              some v18 : Option (Bool)).bind fun v19 =>
            some v19
          else
            some false : Option (Bool)).bind fun v20 =>
          if v20 then
            some (.inr (.inr 9))
          else
            some (.inl (IntKind.wrap .i64 (v1 + 1)))
  else
    some (.inr (.inl ()))
def tax_Check (N : Nat) (x0 : (List ApiTax)) : Option (Int) :=
  if (decide ((List.length x0 : Int) > 4096)) then
    some 5
  else
    (loopN (tax_Check_l1 N x0) N 0).bind fun
      | .inl _ =>
        some 0
      | .inr v21 =>
        some v21
def tax_categories_l4 (N : Nat) (v10 : (List Str)) (x11 : ApiLine) : (Int) → Option ((Int) ⊕ ((Int))) := fun v15 =>
  (if (decide (v15 < (List.length v10 : Int))) then
    (idx v10 v15).bind fun _ =>
    (idx v10 v15).bind fun x18 =>
    some (Op.bytesLess x18 x11.Category)
  else
    some false : Option (Bool)).bind fun v20 =>
  if v20 then
    some (.inl (IntKind.wrap .i64 (v15 + 1)))
  else
    some (.inr v15)
def tax_categories_l5 (N : Nat) (x0 : (List ApiLine)) : (Int × (List (Str × (List Int))) × (List Str)) → Option ((Int × (List (Str × (List Int))) × (List Str)) ⊕ (((List (Str × (List Int))) × (List Str)))) := fun (v5, v9, v10) =>
  if (decide (v5 < (List.length x0 : Int))) then
    (idx x0 v5).bind fun x11 =>
    (if (!(findL (k := .str) x11.Category v9).isSome) then
      (loopN (tax_categories_l4 N v10 x11) N 0).bind fun v21 =>
      (slc v10 0 v21).bind fun s22 =>
      (app 16 ([] : (List Str)) s22).bind fun q23 =>
      (app 16 q23 ([x11.Category] : (List Str))).bind fun q24 =>
      (slc v10 v21 (List.length v10 : Int)).bind fun s25 =>
      (app 16 q24 s25).bind fun q26 =>
      some q26
    else
      some v10 : Option (((List Str)))).bind fun v27 =>
    (chk (eqK .str x11.Category x11.Category)).bind fun _ =>
    (app 8 (optL (fun (y : (List Int)) => (y : (List Int))) (findL (k := .str) x11.Category v9)) ([x11.Amount] : (List Int))).bind fun q28 =>
    (chk (eqK .str x11.Category x11.Category)).bind fun _ =>
    some (.inl ((IntKind.wrap .i64 (v5 + 1)), (putL (k := .str) x11.Category q28 v9), v27))
  else
    some (.inr (v9, v10))
def tax_categories (N : Nat) (x0 : (List ApiLine)) : Option ((List Str) × (List (Str × (List Int)))) :=
  (loopN (tax_categories_l5 N x0) N (0, ([] : List (Str × (List Int))), ([] : (List Str)))).bind fun (v29, v30) =>
  some (v30, v29)
def tax_sum (N : Nat) (x0 : (List Int)) : Option (Int × Int) :=
  (amount_Sum N x0).bind fun (r1, r2) =>
  some (r1, r2)
def tax_Points_l1 (N : Nat) (x0 : (List ApiTax)) (x1 : Str) (x2 : Int) : (Int × Int) → Option ((Int × Int) ⊕ ((Int))) := fun (v1, v2) =>
  if (decide (v2 < (List.length x0 : Int))) then
    ((idx x0 v2).bind fun x3 =>
    if ((x3.Category == x1) && (decide (x3.From ≤ x2))) then
      some x3.Points
    else
      some v1 : Option ((Int))).bind fun v4 =>
    some (.inl (v4, (IntKind.wrap .i64 (v2 + 1))))
  else
    some (.inr v1)
def tax_Points (N : Nat) (x0 : (List ApiTax)) (x1 : Str) (x2 : Int) : Option (Int) :=
  (loopN (tax_Points_l1 N x0 x1 x2) N (0, 0)).bind fun v5 =>
  some v5
def amount_divide_l1 (N : Nat) (x1 : Int) (x0 : Int) (x2 : Int) : (Int × Int × Int) → Option ((Int × Int × Int) ⊕ ((Int × Int) ⊕ (Int × Int))) := fun (v1, v2, v3) =>
  if (decide (v3 ≥ 0)) then
    ((shrW .i64 x1 v3).bind fun n4 =>
    if ((Go.bits .and .i64 n4 1) == 1) then
      (quoW .i64 x0 x2).bind fun n5 =>
      (remW x0 x2).bind fun n6 =>
      some ((IntKind.wrap .i64 ((IntKind.wrap .i64 (2 * v1)) + n5)), (IntKind.wrap .i64 ((IntKind.wrap .i64 (2 * v2)) + n6)))
    else
      some ((IntKind.wrap .i64 (2 * v1)), (IntKind.wrap .i64 (2 * v2))) : Option ((Int × Int))).bind fun (v7, v8) =>
    (quoW .i64 v8 x2).bind fun n9 =>
    (remW v8 x2).bind fun n10 =>
    if (decide ((IntKind.wrap .i64 (v7 + n9)) > 2251799813685248)) then
      some (.inr (.inr ((IntKind.wrap .i64 (v7 + n9)), 0)))
    else
      some (.inl ((IntKind.wrap .i64 (v7 + n9)), n10, (IntKind.wrap .i64 (v3 - 1))))
  else
    some (.inr (.inl (v1, v2)))
def amount_divide (N : Nat) (x0 : Int) (x1 : Int) (x2 : Int) : Option (Int × Int) :=
  (loopN (amount_divide_l1 N x1 x0 x2) N (0, 0, 62)).bind fun
    | .inl (v11, v12) =>
      some (v11, v12)
    | .inr (v13, v14) =>
      some (v13, v14)
def amount_Scale (N : Nat) (x0 : Int) (x1 : Int) (x2 : Int) : Option (Int × Int) :=
  (amount_Valid N x0).bind fun r1 =>
  if (((((!r1) || (decide (x1 < 0))) || (decide (x1 > 1099511627776))) || (decide (x2 < 1))) || (decide (x2 > 1099511627776))) then
    some (0, 6)
  else
    (amount_divide N (if (IntKind.wrap .i64 (0 - x0)) > x0 then (IntKind.wrap .i64 (0 - x0)) else x0) x1 x2).bind fun (r2, r3) =>
    (if (decide (r3 ≥ (IntKind.wrap .i64 (x2 - r3)))) then
      some (IntKind.wrap .i64 (r2 + 1))
    else
      some r2 : Option ((Int))).bind fun v4 =>
    (if (decide (x0 < 0)) then
      some (IntKind.wrap .i64 (0 - v4))
    else
      some v4 : Option ((Int))).bind fun v5 =>
    (amount_checked N v5).bind fun (r6, r7) =>
    some (r6, r7)
def amount_Percent (N : Nat) (x0 : Int) (x1 : Int) : Option (Int × Int) :=
  if ((decide (x1 < 0)) || (decide (x1 > 10000))) then
    some (0, 6)
  else
    (amount_Scale N x0 x1 10000).bind fun (r1, r2) =>
    some (r1, r2)
def amount_Rounded (N : Nat) (x0 : Int) : Option (Int) :=
  (if (decide ((Int.tmod x0 10000) ≥ 5000)) then
    some (IntKind.wrap .i64 ((IntKind.wrap .i64 (Int.tdiv x0 10000)) + 1))
  else
    if (decide ((Int.tmod x0 10000) ≤ (-5000))) then
      some (IntKind.wrap .i64 ((IntKind.wrap .i64 (Int.tdiv x0 10000)) - 1))
    else
      some (IntKind.wrap .i64 (Int.tdiv x0 10000)) : Option ((Int))).bind fun v1 =>
  some v1
def amount_give_l3 (N : Nat) (v20 : (List Int)) : (Int × Int) → Option ((Int × Int) ⊕ ((Int))) := fun (v21, v22) =>
  if (decide (v22 < (List.length v20 : Int))) then
    ((idx v20 v22).bind fun _ =>
    (idx v20 v22).bind fun x23 =>
    (if (decide (x23 ≥ 0)) then
      (if (decide (v21 < 0)) then
        some true
      else
        (idx v20 v21).bind fun _ =>
        (idx v20 v21).bind fun x27 =>
        some (decide (x23 > x27)) : Option (Bool)).bind fun v28 =>
      some v28
    else
      some false : Option (Bool)).bind fun v29 =>
    if v29 then
      some v22
    else
      some v21 : Option ((Int))).bind fun v30 =>
    some (.inl (v30, (IntKind.wrap .i64 (v22 + 1))))
  else
    some (.inr v21)
def amount_give_l4 (N : Nat) : (Int × (List Int) × (List Int)) → Option ((Int × (List Int) × (List Int)) ⊕ (((List Int) × (List Int)) ⊕ ((List Int) × (List Int)))) := fun (v14, v19, v20) =>
  if (decide (v14 > 0)) then
    (loopN (amount_give_l3 N v20) N ((-1), 0)).bind fun v31 =>
    if (decide (v31 < 0)) then
      some (.inr (.inr (v19, v20)))
    else
      (idx v19 v31).bind fun _ =>
      (idx v19 v31).bind fun x32 =>
      (idx v19 v31).bind fun _ =>
      (idx v19 v31).bind fun y33 =>
      (idx v20 v31).bind fun _ =>
      (idx v20 v31).bind fun y34 =>
      some (.inl ((IntKind.wrap .i64 (v14 - 1)), (List.set v19 (Int.toNat v31) (IntKind.wrap .i64 (x32 + 1))), (List.set v20 (Int.toNat v31) (-1))))
  else
    some (.inr (.inl (v19, v20)))
def amount_give (N : Nat) (x2 : Int) (m5000 : (List Int)) (m5001 : (List Int)) : Option ((List Int) × (List Int)) :=
  (loopN (amount_give_l4 N) N (x2, m5000, m5001)).bind fun
    | .inl (v35, v36) =>
      some (v35, v36)
    | .inr (v37, v38) =>
      some (v37, v38)
def amount_Round_l1 (N : Nat) (x0 : (List Int)) : (Int × Int × Int × (List Int) × (List Int)) → Option ((Int × Int × Int × (List Int) × (List Int)) ⊕ ((Int × Int × (List Int) × (List Int)) ⊕ (Unit))) := fun (v10, v11, v12, v13, v14) =>
  if (decide (v12 < (List.length x0 : Int))) then
    (idx x0 v12).bind fun x15 =>
    (amount_Valid N x15).bind fun r16 =>
    if (!r16) then
      some (.inr (.inr ()))
    else
      (idx v14 v12).bind fun _ =>
      (idx v14 v12).bind fun y17 =>
      (idx (List.set v14 (Int.toNat v12) (Int.tmod (IntKind.wrap .i64 ((Int.tmod x15 10000) + 10000)) 10000)) v12).bind fun _ =>
      (idx (List.set v14 (Int.toNat v12) (Int.tmod (IntKind.wrap .i64 ((Int.tmod x15 10000) + 10000)) 10000)) v12).bind fun x18 =>
      (idx v13 v12).bind fun _ =>
      (idx v13 v12).bind fun y19 =>
      (idx (List.set v13 (Int.toNat v12) (IntKind.wrap .i64 (Int.tdiv (IntKind.wrap .i64 (x15 - x18)) 10000))) v12).bind fun _ =>
      (idx (List.set v13 (Int.toNat v12) (IntKind.wrap .i64 (Int.tdiv (IntKind.wrap .i64 (x15 - x18)) 10000))) v12).bind fun x20 =>
      some (.inl ((IntKind.wrap .i64 (v10 + x15)), (IntKind.wrap .i64 (v11 + x20)), (IntKind.wrap .i64 (v12 + 1)), (List.set v13 (Int.toNat v12) (IntKind.wrap .i64 (Int.tdiv (IntKind.wrap .i64 (x15 - x18)) 10000))), (List.set v14 (Int.toNat v12) (Int.tmod (IntKind.wrap .i64 ((Int.tmod x15 10000) + 10000)) 10000))))
  else
    some (.inr (.inl (v10, v11, v13, v14)))
def amount_Round (N : Nat) (x0 : (List Int)) : Option ((List Int)) :=
  if (decide ((List.length x0 : Int) > 4096)) then
    some ([] : (List Int))
  else
    (mkL 8 (List.length x0 : Int) (List.length x0 : Int) 0).bind fun m1 =>
    (mkL 8 (List.length x0 : Int) (List.length x0 : Int) 0).bind fun m2 =>
    (loopN (amount_Round_l1 N x0) N (0, 0, 0, m1, m2)).bind fun
      | .inl (v21, v22, v23, v24) =>
        (amount_Rounded N v21).bind fun r25 =>
        (amount_give N (IntKind.wrap .i64 (r25 - v22)) v23 v24).bind fun (r26, r27) =>
        some r26
      | .inr _ =>
        some ([] : (List Int))
def tax_Lines_l1 (N : Nat) (r1 : (List Str)) (r2 : (List (Str × (List Int)))) (x0 : (List ApiTax)) (x2 : Int) : (Int × (List ApiTaxLine) × (List Int)) → Option ((Int × (List ApiTaxLine) × (List Int)) ⊕ (((List ApiTaxLine) × (List Int)) ⊕ (Int))) := fun (v4, v5, v6) =>
  if (decide (v4 < (List.length r1 : Int))) then
    ((idx r1 v4).bind fun _ =>
    (idx r1 v4).bind fun x9 =>
    (tax_sum N ((findL (k := .str) x9 r2).getD ([] : (List Int)))).bind fun (r20, r21) =>
    if (r21 != 0) then
      some (.inr r21)
    else
      (tax_Points N x0 x9 x2).bind fun r22 =>
      if (r22 == 0) then
        some (.inl (v5, v6))
      else
        (amount_Percent N r20 r22).bind fun (r23, r24) =>
        if (r24 != 0) then
          some (.inr r24)
        else
          (app 8 v6 ([r23] : (List Int))).bind fun q25 =>
          (app 40 v5 ([(x9, r22, r20, 0)] : (List ApiTaxLine))).bind fun q26 =>
          some (.inl (q26, q25)) : Option (((List ApiTaxLine) × (List Int)) ⊕ (Int))).bind fun
      | .inl (v27, v28) =>
        some (.inl ((IntKind.wrap .i64 (v4 + 1)), v27, v28))
      | .inr v29 =>
        some (.inr (.inr v29))
  else
    some (.inr (.inl (v5, v6)))
def tax_Lines_l2 (N : Nat) (r32 : (List Int)) : (Int × (List ApiTaxLine)) → Option ((Int × (List ApiTaxLine)) ⊕ (((List ApiTaxLine)))) := fun (v34, v35) =>
  if (decide (v34 < (List.length r32 : Int))) then
    (idx r32 v34).bind fun _ =>
    (idx r32 v34).bind fun x36 =>
    (idx v35 v34).bind fun _ =>
    (idx v35 v34).bind fun y37 =>
    some (.inl ((IntKind.wrap .i64 (v34 + 1)), (List.set v35 (Int.toNat v34) (y37.Category, y37.Points, y37.Base, x36))))
  else
    some (.inr v35)
def tax_Lines (N : Nat) (x0 : (List ApiTax)) (x1 : (List ApiLine)) (x2 : Int) : Option (Int × (List ApiTaxLine)) :=
  if (decide ((List.length x1 : Int) > 4096)) then
    some (5, ([] : (List ApiTaxLine)))
  else
    (tax_categories N x1).bind fun (r1, r2) =>
    (loopN (tax_Lines_l1 N r1 r2 x0 x2) N (0, ([] : (List ApiTaxLine)), ([] : (List Int)))).bind fun
      | .inl (v30, v31) =>
        (amount_Round N v31).bind fun r32 =>
        (loopN (tax_Lines_l2 N r32) N (0, v30)).bind fun v38 =>
        some (0, v38)
      | .inr v39 =>
        some (v39, ([] : (List ApiTaxLine)))
def invoice_Build_l1 (N : Nat) (r8 : (List Int)) : (Int × Int × ApiPeriod × Int × Int × Int × (List ApiTaxLine) × Int × ApiPeriod × Int × Int × Int × (List Int) × (List ApiLine)) → Option ((Int × Int × ApiPeriod × Int × Int × Int × (List ApiTaxLine) × Int × ApiPeriod × Int × Int × Int × (List Int) × (List ApiLine)) ⊕ ((Int × ApiPeriod × Int × Int × Int × (List ApiTaxLine) × Int × ApiPeriod × Int × Int × Int × (List ApiLine)))) := fun (v11, v12, v13, v14, v15, v16, v17, v18, v19, v20, v21, v22, v23, v24) =>
  if (decide (v11 < (List.length r8 : Int))) then
    (idx v23 v11).bind fun _ =>
    (idx v23 v11).bind fun x25 =>
    (idx v24 v11).bind fun _ =>
    (idx v24 v11).bind fun y26 =>
    some (.inl ((IntKind.wrap .i64 (v11 + 1)), v12, v13, v14, v15, v16, v17, v18, v19, (IntKind.wrap .i64 (v20 + x25)), v21, v22, v23, (List.set v24 (Int.toNat v11) (y26.Kind, y26.Sub, y26.Name, y26.Category, y26.Count, y26.Units, y26.Amount, x25))))
  else
    some (.inr (v12, v13, v14, v15, v16, v17, v18, v19, v20, v21, v22, v24))
def invoice_Build_l2 (N : Nat) (v32 : (List ApiTaxLine)) : (Int × Int × ApiPeriod × Int × Int × Int × (List ApiTaxLine) × (List ApiLine)) → Option ((Int × Int × ApiPeriod × Int × Int × Int × (List ApiTaxLine) × (List ApiLine)) ⊕ ((Int × ApiPeriod × Int × Int × Int × (List ApiLine) × (List ApiTaxLine)))) := fun (v40, v41, v42, v43, v44, v45, v46, v47) =>
  if (decide (v40 < (List.length v32 : Int))) then
    (idx v46 v40).bind fun _ =>
    (idx v46 v40).bind fun x48 =>
    some (.inl ((IntKind.wrap .i64 (v40 + 1)), v41, v42, v43, (IntKind.wrap .i64 (v44 + x48.Rounded)), v45, v46, v47))
  else
    some (.inr (v41, v42, v43, v44, v45, v47, v46))
def invoice_Build (N : Nat) (x0 : Int) (x1 : ApiPeriod) (x2 : (List ApiLine)) (x3 : (List ApiTax)) : Option (Int × ApiPeriod × Int × Int × Int × Int × (List ApiLine) × (List ApiTaxLine)) :=
  if ((decide (x0 < 1)) || (decide (x0 > 9999))) then
    some (0, (0, 0), 0, 0, 0, 6, ([] : (List ApiLine)), ([] : (List ApiTaxLine)))
  else
    (interval_Valid N x1).bind fun r1 =>
    if (!r1) then
      some (0, (0, 0), 0, 0, 0, 15, ([] : (List ApiLine)), ([] : (List ApiTaxLine)))
    else
      if ((List.length x2 : Int) == 0) then
        some (0, (0, 0), 0, 0, 0, 8, ([] : (List ApiLine)), ([] : (List ApiTaxLine)))
      else
        if (decide ((List.length x2 : Int) > 4096)) then
          some (0, (0, 0), 0, 0, 0, 5, ([] : (List ApiLine)), ([] : (List ApiTaxLine)))
        else
          (invoice_amounts N x2).bind fun (r2, r3) =>
          if (!r2) then
            some (0, (0, 0), 0, 0, 0, 6, ([] : (List ApiLine)), ([] : (List ApiTaxLine)))
          else
            (tax_Check N x3).bind fun r4 =>
            if (r4 != 0) then
              some (0, (0, 0), 0, 0, 0, r4, ([] : (List ApiLine)), ([] : (List ApiTaxLine)))
            else
              (tax_Lines N x3 x2 (IntKind.wrap .i64 (x1.To - 1))).bind fun (r5, r6) =>
              if (r5 != 0) then
                some (0, (0, 0), 0, 0, 0, r5, ([] : (List ApiLine)), ([] : (List ApiTaxLine)))
              else
                (app 80 ([] : (List ApiLine)) x2).bind fun q7 =>
                (amount_Round N r3).bind fun r8 =>
                (loopN (invoice_Build_l1 N r8) N (0, 0, (0, 0), 0, 0, 0, r6, x0, x1, 0, 0, 0, r8, q7)).bind fun (v27, v28, v29, v30, v31, v32, v33, v34, v35, v36, v37, v38) =>
                (loopN (invoice_Build_l2 N v32) N (0, v33, v34, v35, v36, v37, v32, v38)).bind fun (v49, v50, v51, v52, v53, v54, v55) =>
                some (v49, v50, v51, v52, (IntKind.wrap .i64 (v51 + v52)), 0, v54, v55)
def invoice_Drill_l1 (N : Nat) (x0 : (List ApiRated)) (x1 : ApiInvoice) (x6 : ApiLine) : (Int × (List Int)) → Option ((Int × (List Int)) ⊕ (((List Int)))) := fun (v8, v9) =>
  if (decide (v8 < (List.length x0 : Int))) then
    ((idx x0 v8).bind fun x11 =>
    (invoice_of N x11).bind fun r15 =>
    ((invoice_counts N x11 x1.Account x1.Period).bind fun r16 =>
    if r16 then
      if (r15.sub == x6.Sub) then
        if (r15.name == x6.Name) then
          (invoice_category N r15.kind).bind fun r17 =>
          some (r17 == x6.Category)
        else
          some false
      else
        some false
    else
      some false : Option ((Bool))).bind fun v18 =>
    if v18 then
      (app 8 v9 ([x11.Usage.Id] : (List Int))).bind fun q19 =>
      some q19
    else
      some v9 : Option (((List Int)))).bind fun v20 =>
    some (.inl ((IntKind.wrap .i64 (v8 + 1)), v20))
  else
    some (.inr v9)
def invoice_Drill (N : Nat) (x0 : (List ApiRated)) (x1 : ApiInvoice) (x2 : Int) : Option ((List Int)) :=
  (if ((decide (x2 < 0)) || (decide (x2 ≥ (List.length x1.Lines : Int)))) then
    some true
  else
    (idx x1.Lines x2).bind fun x4 =>
    some (x4.Kind != 1) : Option (Bool)).bind fun v5 =>
  if v5 then
    some ([] : (List Int))
  else
    (idx x1.Lines x2).bind fun x6 =>
    (loopN (invoice_Drill_l1 N x0 x1 x6) N (0, ([] : (List Int)))).bind fun v21 =>
    some v21
def invoice_base_l1 (N : Nat) (x0 : (List ApiLine)) (x1 : Str) : (Int × Bool × Int) → Option ((Int × Bool × Int) ⊕ ((Int × Bool))) := fun (v1, v2, v3) =>
  if (decide (v3 < (List.length x0 : Int))) then
    ((idx x0 v3).bind fun x4 =>
    if (x4.Category == x1) then
      some ((IntKind.wrap .i64 (v1 + x4.Amount)), true)
    else
      some (v1, v2) : Option ((Int × Bool))).bind fun (v5, v6) =>
    some (.inl (v5, v6, (IntKind.wrap .i64 (v3 + 1))))
  else
    some (.inr (v1, v2))
def invoice_base (N : Nat) (x0 : (List ApiLine)) (x1 : Str) : Option (Int × Bool) :=
  (loopN (invoice_base_l1 N x0 x1) N (0, false, 0)).bind fun (v7, v8) =>
  some (v7, v8)
def invoice_taxed_l1 (N : Nat) (x0 : ApiInvoice) : (Int × (List Int)) → Option ((Int × (List Int)) ⊕ (((List Int)) ⊕ (Int × Bool))) := fun (v2, v3) =>
  if (decide (v2 < (List.length x0.Taxes : Int))) then
    (idx x0.Taxes v2).bind fun x4 =>
    (invoice_base N x0.Lines x4.Category).bind fun (r5, r6) =>
    (if ((((!r6) || (r5 != x4.Base)) || (decide (x4.Points < 1))) || (decide (x4.Points > 10000))) then
      some true
    else
      (if (decide (v2 > 0)) then
        (idx x0.Taxes (IntKind.wrap .i64 (v2 - 1))).bind fun x12 =>
        some (!(Op.bytesLess x12.Category x4.Category))
      else
        some false : Option (Bool)).bind fun v13 =>
      some v13 : Option (Bool)).bind fun v14 =>
    if v14 then
      some (.inr (.inr (0, false)))
    else
      (amount_Percent N x4.Base x4.Points).bind fun (r15, r16) =>
      if (r16 != 0) then
        some (.inr (.inr (0, false)))
      else
        (app 8 v3 ([r15] : (List Int))).bind fun q17 =>
        some (.inl ((IntKind.wrap .i64 (v2 + 1)), q17))
  else
    some (.inr (.inl v3))
def invoice_taxed_l2 (N : Nat) (r19 : (List Int)) (x0 : ApiInvoice) : (Int × Int) → Option ((Int × Int) ⊕ ((Int) ⊕ (Int × Bool))) := fun (v20, v21) =>
  if (decide (v21 < (List.length r19 : Int))) then
    (idx r19 v21).bind fun _ =>
    (idx r19 v21).bind fun x22 =>
    (idx x0.Taxes v21).bind fun x23 =>
    if (x23.Rounded != x22) then
      some (.inr (.inr (0, false)))
    else
      some (.inl ((IntKind.wrap .i64 (v20 + x22)), (IntKind.wrap .i64 (v21 + 1))))
  else
    some (.inr (.inl v20))
def invoice_taxed (N : Nat) (x0 : ApiInvoice) : Option (Int × Bool) :=
  (loopN (invoice_taxed_l1 N x0) N (0, ([] : (List Int)))).bind fun
    | .inl v18 =>
      (amount_Round N v18).bind fun r19 =>
      (loopN (invoice_taxed_l2 N r19 x0) N (0, 0)).bind fun
        | .inl v24 =>
          some (v24, true)
        | .inr (v25, v26) =>
          some (v25, v26)
    | .inr (v27, v28) =>
      some (v27, v28)
def invoice_Check_l1 (N : Nat) (r3 : (List Int)) (x0 : ApiInvoice) : (Int × Int) → Option ((Int × Int) ⊕ ((Int) ⊕ (Bool))) := fun (v4, v5) =>
  if (decide (v5 < (List.length r3 : Int))) then
    (idx r3 v5).bind fun _ =>
    (idx r3 v5).bind fun x6 =>
    (idx x0.Lines v5).bind fun x7 =>
    if (x7.Rounded != x6) then
      some (.inr (.inr false))
    else
      some (.inl ((IntKind.wrap .i64 (v4 + x6)), (IntKind.wrap .i64 (v5 + 1))))
  else
    some (.inr (.inl v4))
def invoice_Check (N : Nat) (x0 : ApiInvoice) : Option (Bool) :=
  if (((List.length x0.Lines : Int) == 0) || (decide ((List.length x0.Lines : Int) > 4096))) then
    some false
  else
    (invoice_amounts N x0.Lines).bind fun (r1, r2) =>
    if (!r1) then
      some false
    else
      (amount_Round N r2).bind fun r3 =>
      (loopN (invoice_Check_l1 N r3 x0) N (0, 0)).bind fun
        | .inl v8 =>
          (invoice_taxed N x0).bind fun (r9, r10) =>
          some (((r10 && (x0.Net == v8)) && (x0.Tax == r9)) && (x0.Total == (IntKind.wrap .i64 (v8 + r9))))
        | .inr v11 =>
          some v11
def invoice_decimal_l1 (N : Nat) : (Int × Int × (List Int)) → Option ((Int × Int × (List Int)) ⊕ ((Int × (List Int)))) := fun (v4, v5, v6) =>
  if ((decide (v4 > 0)) || (v5 == 20)) then
    (idx v6 (IntKind.wrap .i64 (v5 - 1))).bind fun _ =>
    (idx v6 (IntKind.wrap .i64 (v5 - 1))).bind fun x7 =>
    some (.inl ((IntKind.wrap .u64 (Int.tdiv v4 10)), (IntKind.wrap .i64 (v5 - 1)), (List.set v6 (Int.toNat (IntKind.wrap .i64 (v5 - 1))) (IntKind.wrap .u8 (IntKind.wrap .u64 (48 + (Int.tmod v4 10)))))))
  else
    some (.inr (v5, v6))
def invoice_decimal (N : Nat) (x0 : Int) : Option (Str) :=
  (if (decide (x0 < 0)) then
    some (IntKind.wrap .u64 (0 - (IntKind.wrap .u64 x0)))
  else
    some (IntKind.wrap .u64 x0) : Option ((Int))).bind fun v1 =>
  (loopN (invoice_decimal_l1 N) N (v1, 20, (List.replicate 20 0))).bind fun (v8, v9) =>
  if (decide (x0 < 0)) then
    (slc v9 v8 20).bind fun _ =>
    (slc v9 v8 (v8 + (20 - v8))).bind fun s10 =>
    (scat ([45] : Str) (bstr s10)).bind fun s11 =>
    some s11
  else
    (slc v9 v8 20).bind fun _ =>
    (slc v9 v8 (v8 + (20 - v8))).bind fun s12 =>
    some (bstr s12)
def invoice_words_l1 (N : Nat) (x0 : (List Str)) : (Int × (List Int)) → Option ((Int × (List Int)) ⊕ (((List Int)))) := fun (v2, v3) =>
  if (decide (v2 < (List.length x0 : Int))) then
    (idx x0 v2).bind fun x4 =>
    (if (decide (v2 > 0)) then
      (app 1 v3 ([32] : (List Int))).bind fun q7 =>
      some q7
    else
      some v3 : Option (((List Int)))).bind fun v8 =>
    (if (x4 == ([] : Str)) then
      some ([45] : Str)
    else
      some x4 : Option ((Str))).bind fun v9 =>
    (app 1 v8 (sbytes v9)).bind fun q10 =>
    some (.inl ((IntKind.wrap .i64 (v2 + 1)), q10))
  else
    some (.inr v3)
def invoice_words (N : Nat) (x0 : (List Str)) : Option (Str) :=
  (loopN (invoice_words_l1 N x0) N (0, ([] : (List Int)))).bind fun v11 =>
  (app 1 v11 ([10] : (List Int))).bind fun q12 =>
  some (bstr q12)
def invoice_title (N : Nat) (x0 : Int) : Option (Str) :=
  if (x0 == 1) then
    some ([117, 115, 97, 103, 101] : Str)
  else
    if (x0 == 2) then
      some ([102, 101, 101] : Str)
    else
      if (x0 == 3) then
        some ([97, 100, 106, 117, 115, 116] : Str)
      else
        if (x0 == 4) then
          some ([99, 114, 101, 100, 105, 116] : Str)
        else
          some ([] : Str)
def amount_Text_l1 (N : Nat) (v2 : Int) : (Str × Int) → Option ((Str × Int) ⊕ ((Str))) := fun (v5, v6) =>
  if (decide (v6 ≥ 0)) then
    (idx gv0 v6).bind fun x7 =>
    (quoW .i64 v2 x7).bind fun n8 =>
    (itoaF (Int.tmod n8 10)).bind fun r9 =>
    (scat v5 r9).bind fun s10 =>
    some (.inl (s10, (IntKind.wrap .i64 (v6 - 1))))
  else
    some (.inr v5)
def amount_Text (N : Nat) (x0 : Int) : Option (Str) :=
  (itoaF (IntKind.wrap .i64 (Int.tdiv x0 10000))).bind fun r1 =>
  (if (decide (x0 < 0)) then
    if ((IntKind.wrap .i64 (Int.tdiv x0 10000)) == 0) then
      some ((IntKind.wrap .i64 (0 - (Int.tmod x0 10000))), ([45, 48] : Str))
    else
      some ((IntKind.wrap .i64 (0 - (Int.tmod x0 10000))), r1)
  else
    some ((Int.tmod x0 10000), r1) : Option ((Int × Str))).bind fun (v2, v3) =>
  (scat v3 ([46] : Str)).bind fun s4 =>
  (loopN (amount_Text_l1 N v2) N (s4, 3)).bind fun v11 =>
  some v11
def invoice_Text_l1 (N : Nat) (x0 : ApiInvoice) : (Int × (List Int)) → Option ((Int × (List Int)) ⊕ (((List Int)))) := fun (v6, v7) =>
  if (decide (v6 < (List.length x0.Lines : Int))) then
    (idx x0.Lines v6).bind fun x8 =>
    (invoice_title N x8.Kind).bind fun r9 =>
    (invoice_decimal N x8.Sub).bind fun r10 =>
    (invoice_decimal N x8.Count).bind fun r11 =>
    (invoice_decimal N x8.Units).bind fun r12 =>
    (amount_Text N x8.Amount).bind fun r13 =>
    (invoice_decimal N x8.Rounded).bind fun r14 =>
    (invoice_words N ([r9, r10, x8.Name, x8.Category, r11, r12, r13, r14] : (List Str))).bind fun r15 =>
    (app 1 v7 (sbytes r15)).bind fun q16 =>
    some (.inl ((IntKind.wrap .i64 (v6 + 1)), q16))
  else
    some (.inr v7)
def invoice_Text_l2 (N : Nat) (x0 : ApiInvoice) : (Int × (List Int)) → Option ((Int × (List Int)) ⊕ (((List Int)))) := fun (v18, v19) =>
  if (decide (v18 < (List.length x0.Taxes : Int))) then
    (idx x0.Taxes v18).bind fun x20 =>
    (invoice_decimal N x20.Points).bind fun r21 =>
    (amount_Text N x20.Base).bind fun r22 =>
    (invoice_decimal N x20.Rounded).bind fun r23 =>
    (invoice_words N ([([116, 97, 120] : Str), x20.Category, r21, r22, r23] : (List Str))).bind fun r24 =>
    (app 1 v19 (sbytes r24)).bind fun q25 =>
    some (.inl ((IntKind.wrap .i64 (v18 + 1)), q25))
  else
    some (.inr v19)
def invoice_Text (N : Nat) (x0 : ApiInvoice) : Option (Str) :=
  (invoice_decimal N x0.Account).bind fun r1 =>
  (invoice_decimal N x0.Period.From).bind fun r2 =>
  (invoice_decimal N x0.Period.To).bind fun r3 =>
  (invoice_words N ([([105, 110, 118, 111, 105, 99, 101] : Str), r1, r2, r3] : (List Str))).bind fun r4 =>
  (app 1 ([] : List Int) (sbytes r4)).bind fun q5 =>
  (loopN (invoice_Text_l1 N x0) N (0, q5)).bind fun v17 =>
  (loopN (invoice_Text_l2 N x0) N (0, v17)).bind fun v26 =>
  (invoice_decimal N x0.Net).bind fun r27 =>
  (invoice_words N ([([110, 101, 116] : Str), r27] : (List Str))).bind fun r28 =>
  (app 1 v26 (sbytes r28)).bind fun q29 =>
  (invoice_decimal N x0.Tax).bind fun r30 =>
  (invoice_words N ([([116, 97, 120] : Str), r30] : (List Str))).bind fun r31 =>
  (app 1 q29 (sbytes r31)).bind fun q32 =>
  (invoice_decimal N x0.Total).bind fun r33 =>
  (invoice_words N ([([116, 111, 116, 97, 108] : Str), r33] : (List Str))).bind fun r34 =>
  (app 1 q32 (sbytes r34)).bind fun q35 =>
  some (bstr q35)
def billinglaw46_awake (N : Nat) : Option (Bool) :=
  (billinglaw46_rated N 1 ([104, 111, 109, 101] : Str) 4000).bind fun r1 =>
  (billinglaw46_rated N 2 ([] : Str) 4000).bind fun r2 =>
  (billinglaw46_rated N 3 ([104, 111, 109, 101] : Str) 4000).bind fun r3 =>
  (invoice_Lines N ([r1, r2, r3] : (List ApiRated)) 1 (0, 100)).bind fun (r4, r5) =>
  (invoice_Build N 1 (0, 100) r5 ([(([118, 111, 105, 99, 101] : Str), 0, 5000)] : (List ApiTax))).bind fun (r6, r7, r8, r9, r10, r11, r12, r13) =>
  (invoice_Drill N ([r1, r2, r3] : (List ApiRated)) (r6, r7, r12, r13, r8, r9, r10) 0).bind fun r14 =>
  (if (((r4 == 0) && (r11 == 0)) && ((List.length r5 : Int) == 2)) then
    (idx r5 0).bind fun x16 =>
    some ((x16.Kind == 1) && ((x16.Sub == 1) && ((x16.Name == ([104, 111, 109, 101] : Str)) && ((x16.Category == ([118, 111, 105, 99, 101] : Str)) && ((x16.Count == 2) && ((x16.Units == 120) && ((x16.Amount == 8000) && ((x16.Rounded == 0) && true))))))))
  else
    some false : Option (Bool)).bind fun v17 =>
  (if v17 then
    (idx r5 1).bind fun x19 =>
    some (x19.Name == ([111, 116, 104, 101, 114] : Str))
  else
    some false : Option (Bool)).bind fun v20 =>
  (if (((v20 && (r8 == 1)) && (r9 == 1)) && (r10 == 2)) then
    (invoice_Check N (r6, r7, r12, r13, r8, r9, r10)).bind fun r22 =>
    some r22
  else
    some false : Option (Bool)).bind fun v23 =>
  (if (v23 && ((List.length r14 : Int) == 2)) then
    (idx r14 1).bind fun _ =>
    (idx r14 1).bind fun x25 =>
    some (x25 == 3)
  else
    some false : Option (Bool)).bind fun v26 =>
  (if v26 then
    (invoice_Text N (7, (0, 0), ([] : (List ApiLine)), ([] : (List ApiTaxLine)), 0, 0, 0)).bind fun r28 =>
    some (r28 == ([105, 110, 118, 111, 105, 99, 101, 32, 55, 32, 48, 32, 48, 10, 110, 101, 116, 32, 48, 10, 116, 97, 120, 32, 48, 10, 116, 111, 116, 97, 108, 32, 48, 10] : Str))
  else
    some false : Option (Bool)).bind fun v29 =>
  some v29
def billinglaw46_small (N : Nat) (x0 : Billinglaw46Case) : Option (Bool) :=
  some ((decide ((List.length x0.Lines : Int) ≤ 60)) && (decide ((List.length x0.Taxes : Int) ≤ 40)))
def billingref17_Name_l1 (N : Nat) (x0 : Str) : (Int) → Option ((Int) ⊕ ((Unit) ⊕ (Bool))) := fun v7 =>
  if (decide (v7 < (List.length x0 : Int))) then
    (sidx x0 v7).bind fun c8 =>
    (if (decide (c8 < 97)) then
      some true
    else
      (sidx x0 v7).bind fun c10 =>
      some (decide (c10 > 122)) : Option (Bool)).bind fun v11 =>
    (if v11 then
      (sidx x0 v7).bind fun c15 =>
      (if (decide (c15 < 48)) then
        some true
      else
        (sidx x0 v7).bind fun c17 =>
        some (decide (c17 > 57)) : Option (Bool)).bind fun v18 =>
      some v18
    else
      some false : Option (Bool)).bind fun v19 =>
    (if v19 then
      (sidx x0 v7).bind fun c21 =>
      some (c21 != 45)
    else
      some false : Option (Bool)).bind fun v22 =>
    if v22 then
      some (.inr (.inr false))
    else
      some (.inl (IntKind.wrap .i64 (v7 + 1)))
  else
    some (.inr (.inl ()))
def billingref17_Name (N : Nat) (x0 : Str) : Option (Bool) :=
  (if ((decide ((List.length x0 : Int) < 1)) || (decide ((List.length x0 : Int) > 24))) then
    some true
  else
    (sidx x0 0).bind fun c2 =>
    some (decide (c2 < 97)) : Option (Bool)).bind fun v3 =>
  (if v3 then
    some true
  else
    (sidx x0 0).bind fun c5 =>
    some (decide (c5 > 122)) : Option (Bool)).bind fun v6 =>
  if v6 then
    some false
  else
    (loopN (billingref17_Name_l1 N x0) N 0).bind fun
      | .inl _ =>
        some true
      | .inr v23 =>
        some v23
def billingref45_before (N : Nat) (x0 : ApiTax) (x1 : ApiTax) : Option (Bool) :=
  some ((Op.bytesLess x0.Category x1.Category) || ((x0.Category == x1.Category) && (decide (x0.From < x1.From))))
def billingref45_Check_l1 (N : Nat) (x0 : (List ApiTax)) : (Int) → Option ((Int) ⊕ ((Unit) ⊕ (Int))) := fun v1 =>
  if (decide (v1 < (List.length x0 : Int))) then
    (idx x0 v1).bind fun x2 =>
    (billingref17_Name N x2.Category).bind fun r3 =>
    if (!r3) then
      some (.inr (.inr 8))
    else
      if ((decide (x2.From < 0)) || (decide (x2.From ≥ 12622780800))) then
        some (.inr (.inr 15))
      else
        if ((decide (x2.Points < 0)) || (decide (x2.Points > 10000))) then
          some (.inr (.inr 6))
        else
          (if (decide (v1 > 0)) then
            (idx x0 (IntKind.wrap .i64 (v1 - 1))).bind fun x4 =>
            (billingref45_before N x4 x2).bind fun r5 =>
            some (!r5)
          else
            some false : Option ((Bool))).bind fun v6 =>
          if v6 then
            some (.inr (.inr 9))
          else
            some (.inl (IntKind.wrap .i64 (v1 + 1)))
  else
    some (.inr (.inl ()))
def billingref45_Check (N : Nat) (x0 : (List ApiTax)) : Option (Int) :=
  if (decide ((List.length x0 : Int) > 4096)) then
    some 5
  else
    (loopN (billingref45_Check_l1 N x0) N 0).bind fun
      | .inl _ =>
        some 0
      | .inr v7 =>
        some v7
def billinglaw46_InvoiceSums_l1 (N : Nat) (r9 : (List ApiLine)) (x0 : Billinglaw46Case) : (Int × Int × Int) → Option ((Int × Int × Int) ⊕ ((Int × Int) ⊕ (Bool))) := fun (v14, v15, v16) =>
  if (decide (v16 < (List.length r9 : Int))) then
    (idx r9 v16).bind fun _ =>
    (idx r9 v16).bind fun x17 =>
    (idx x0.Lines v16).bind fun x18 =>
    if (((!((x17.Kind == x18.Kind) && ((x17.Sub == x18.Sub) && ((x17.Name == x18.Name) && ((x17.Category == x18.Category) && ((x17.Count == x18.Count) && ((x17.Units == x18.Units) && ((x17.Amount == x18.Amount) && ((x17.Rounded == x17.Rounded) && true))))))))) || (decide ((IntKind.wrap .i64 (x17.Amount - 10000)) ≥ (IntKind.wrap .i64 (x17.Rounded * 10000))))) || (decide ((IntKind.wrap .i64 (x17.Rounded * 10000)) ≥ (IntKind.wrap .i64 (x17.Amount + 10000))))) then
      some (.inr (.inr false))
    else
      some (.inl ((IntKind.wrap .i64 (v14 + x17.Rounded)), (IntKind.wrap .i64 (v15 + x17.Amount)), (IntKind.wrap .i64 (v16 + 1))))
  else
    some (.inr (.inl (v14, v15)))
def billinglaw46_InvoiceSums_l2 (N : Nat) (r10 : (List ApiTaxLine)) : (Int × Int × Int) → Option ((Int × Int × Int) ⊕ ((Int × Int) ⊕ (Bool))) := fun (v21, v22, v23) =>
  if (decide (v23 < (List.length r10 : Int))) then
    (idx r10 v23).bind fun _ =>
    (idx r10 v23).bind fun x24 =>
    (amount_Percent N x24.Base x24.Points).bind fun (r25, r26) =>
    if (r26 != 0) then
      some (.inr (.inr false))
    else
      some (.inl ((IntKind.wrap .i64 (v21 + x24.Rounded)), (IntKind.wrap .i64 (v22 + r25)), (IntKind.wrap .i64 (v23 + 1))))
  else
    some (.inr (.inl (v21, v22)))
def billinglaw46_InvoiceSums (N : Nat) (x0 : Billinglaw46Case) : Option (Bool) :=
  (billinglaw46_small N x0).bind fun r1 =>
  if (!r1) then
    (billinglaw46_awake N).bind fun r2 =>
    some r2
  else
    (invoice_Build N x0.Account x0.Period x0.Lines x0.Taxes).bind fun (r3, r4, r5, r6, r7, r8, r9, r10) =>
    if (r8 != 0) then
      (if (((List.length r9 : Int) == 0) && (r7 == 0)) then
        (billinglaw46_awake N).bind fun r12 =>
        some r12
      else
        some false : Option (Bool)).bind fun v13 =>
      some v13
    else
      if ((List.length r9 : Int) != (List.length x0.Lines : Int)) then
        some false
      else
        (loopN (billinglaw46_InvoiceSums_l1 N r9 x0) N (0, 0, 0)).bind fun
          | .inl (v19, v20) =>
            (loopN (billinglaw46_InvoiceSums_l2 N r10) N (0, 0, 0)).bind fun
              | .inl (v27, v28) =>
                (if (v19 == r5) then
                  (amount_Rounded N v20).bind fun r30 =>
                  some (v19 == r30)
                else
                  some false : Option (Bool)).bind fun v31 =>
                (if (v31 && (v27 == r6)) then
                  (amount_Rounded N v28).bind fun r33 =>
                  some (v27 == r33)
                else
                  some false : Option (Bool)).bind fun v34 =>
                (if (v34 && (r7 == (IntKind.wrap .i64 (r5 + r6)))) then
                  (invoice_Check N (r3, r4, r9, r10, r5, r6, r7)).bind fun r36 =>
                  some r36
                else
                  some false : Option (Bool)).bind fun v37 =>
                (if v37 then
                  (billinglaw46_awake N).bind fun r39 =>
                  some r39
                else
                  some false : Option (Bool)).bind fun v40 =>
                some v40
              | .inr v41 =>
                some v41
          | .inr v42 =>
            some v42
end Gx
