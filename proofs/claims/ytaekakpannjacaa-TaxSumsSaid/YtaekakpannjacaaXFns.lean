/- The Go functions as Lean functions. -/
import Derived.Test.YtaekakpannjacaaXP
namespace Gx
open Go Gd
set_option linter.unusedVariables false
abbrev tyApiTax : Ty := .st (.pr .str (.pr (.int .i64) (.int .i64)))
abbrev ApiTax : Type := Str × Int × Int
abbrev ApiTax.Category (x : ApiTax) : Str := x.1
abbrev ApiTax.From (x : ApiTax) : Int := x.2.1
abbrev ApiTax.Points (x : ApiTax) : Int := x.2.2

abbrev tyApiLine : Ty := .st (.pr (.int .i64) (.pr (.int .i64) (.pr .str (.pr .str (.pr (.int .i64) (.pr (.int .i64) (.pr (.int .i64) (.int .i64))))))))
abbrev ApiLine : Type := Int × Int × Str × Str × Int × Int × Int × Int
abbrev ApiLine.Kind (x : ApiLine) : Int := x.1
abbrev ApiLine.Sub (x : ApiLine) : Int := x.2.1
abbrev ApiLine.Name (x : ApiLine) : Str := x.2.2.1
abbrev ApiLine.Category (x : ApiLine) : Str := x.2.2.2.1
abbrev ApiLine.Count (x : ApiLine) : Int := x.2.2.2.2.1
abbrev ApiLine.Units (x : ApiLine) : Int := x.2.2.2.2.2.1
abbrev ApiLine.Amount (x : ApiLine) : Int := x.2.2.2.2.2.2.1
abbrev ApiLine.Rounded (x : ApiLine) : Int := x.2.2.2.2.2.2.2

abbrev tyApiTaxLine : Ty := .st (.pr .str (.pr (.int .i64) (.pr (.int .i64) (.int .i64))))
abbrev ApiTaxLine : Type := Str × Int × Int × Int
abbrev ApiTaxLine.Category (x : ApiTaxLine) : Str := x.1
abbrev ApiTaxLine.Points (x : ApiTaxLine) : Int := x.2.1
abbrev ApiTaxLine.Base (x : ApiTaxLine) : Int := x.2.2.1
abbrev ApiTaxLine.Rounded (x : ApiTaxLine) : Int := x.2.2.2

def tax_categories_l4 (N : Nat) (v3 : (List Str)) (x4 : ApiLine) : (Int) → Option ((Int) ⊕ ((Int))) := fun v5 =>
  (if (decide (v5 < (List.length v3 : Int))) then
    (idx v3 v5).bind fun _ =>
    (idx v3 v5).bind fun x6 =>
    some (Op.bytesLess x6 x4.Category)
  else
    some false : Option (Bool)).bind fun v7 =>
  if v7 then
    some (.inl (IntKind.wrap .i64 (v5 + 1)))
  else
    some (.inr v5)
def tax_categories_l5 (N : Nat) (x0 : (List ApiLine)) : (Int × (List (Str × (List Int))) × (List Str)) → Option ((Int × (List (Str × (List Int))) × (List Str)) ⊕ (((List (Str × (List Int))) × (List Str)))) := fun (v1, v2, v3) =>
  if (decide (v1 < (List.length x0 : Int))) then
    (idx x0 v1).bind fun x4 =>
    (if (!(findL (k := .str) x4.Category v2).isSome) then
      (loopN (tax_categories_l4 N v3 x4) N 0).bind fun v8 =>
      (slc v3 0 v8).bind fun s9 =>
      (app 16 ([] : (List Str)) s9).bind fun q10 =>
      (app 16 q10 ([x4.Category] : (List Str))).bind fun q11 =>
      (slc v3 v8 (List.length v3 : Int)).bind fun s12 =>
      (app 16 q11 s12).bind fun q13 =>
      some (v2, q13, x4)
    else
      some (v2, v3, x4) : Option (((List (Str × (List Int))) × (List Str) × ApiLine))).bind fun (v14, v15, v16) =>
    (chk (eqK .str v16.Category v16.Category)).bind fun _ =>
    (app 8 (optL (fun (y : (List Int)) => (y : (List Int))) (findL (k := .str) v16.Category v14)) ([v16.Amount] : (List Int))).bind fun q17 =>
    (chk (eqK .str v16.Category v16.Category)).bind fun _ =>
    some (.inl ((IntKind.wrap .i64 (v1 + 1)), (putL (k := .str) v16.Category q17 v14), v15))
  else
    some (.inr (v2, v3))
def tax_categories (N : Nat) (x0 : (List ApiLine)) : Option ((List Str) × (List (Str × (List Int)))) :=
  (loopN (tax_categories_l5 N x0) N (0, ([] : List (Str × (List Int))), ([] : (List Str)))).bind fun (v18, v19) =>
  some (v19, v18)

def amount_Valid (N : Nat) (x0 : Int) : Option (Bool) :=
  some ((decide (x0 ≥ (-1125899906842624))) && (decide (x0 ≤ 1125899906842624)))

def amount_checked (N : Nat) (x0 : Int) : Option (Int × Int) :=
  (amount_Valid N x0).bind fun r1 =>
  if (!r1) then
    some (0, 6)
  else
    some (x0, 0)

def amount_Sum_l1 (N : Nat) (x0 : (List Int)) : (Int × Int) → Option ((Int × Int) ⊕ ((Int) ⊕ (Int × Int))) := fun (v1, v2) =>
  if (decide (v2 < (List.length x0 : Int))) then
    (idx x0 v2).bind fun x3 =>
    (amount_Valid N x3).bind fun r4 =>
    if (!r4) then
      some (.inr (.inr (0, 6)))
    else
      some (.inl ((IntKind.wrap .i64 (v1 + x3)), (IntKind.wrap .i64 (v2 + 1))))
  else
    some (.inr (.inl v1))
def amount_Sum (N : Nat) (x0 : (List Int)) : Option (Int × Int) :=
  if (decide ((List.length x0 : Int) > 4096)) then
    some (0, 5)
  else
    (loopN (amount_Sum_l1 N x0) N (0, 0)).bind fun
      | .inl v5 =>
        (amount_checked N v5).bind fun (r6, r7) =>
        some (r6, r7)
      | .inr (v8, v9) =>
        some (v8, v9)

def tax_sum (N : Nat) (x0 : (List Int)) : Option (Int × Int) :=
  (amount_Sum N x0).bind fun (r1, r2) =>
  some (r1, r2)

def tax_Points_l1 (N : Nat) (x0 : (List ApiTax)) (x1 : Str) (x2 : Int) : (Int × Int) → Option ((Int × Int) ⊕ ((Int))) := fun (v1, v2) =>
  if (decide (v2 < (List.length x0 : Int))) then
    ((idx x0 v2).bind fun x3 =>
    if ((x3.Category == x1) && (decide (x3.From ≤ x2))) then
      some x3.Points
    else
      some v1 : Option ((Int))).bind fun v4 =>
    some (.inl (v4, (IntKind.wrap .i64 (v2 + 1))))
  else
    some (.inr v1)
def tax_Points (N : Nat) (x0 : (List ApiTax)) (x1 : Str) (x2 : Int) : Option (Int) :=
  (loopN (tax_Points_l1 N x0 x1 x2) N (0, 0)).bind fun v5 =>
  some v5

def amount_divide_l1 (N : Nat) (x1 : Int) (x0 : Int) (x2 : Int) : (Int × Int × Int) → Option ((Int × Int × Int) ⊕ ((Int × Int) ⊕ (Int × Int))) := fun (v1, v2, v3) =>
  if (decide (v3 ≥ 0)) then
    ((shrW .i64 x1 v3).bind fun n4 =>
    if ((Go.bits .and .i64 n4 1) == 1) then
      (quoW .i64 x0 x2).bind fun n5 =>
      (remW x0 x2).bind fun n6 =>
      some ((IntKind.wrap .i64 ((IntKind.wrap .i64 (2 * v1)) + n5)), (IntKind.wrap .i64 ((IntKind.wrap .i64 (2 * v2)) + n6)))
    else
      some ((IntKind.wrap .i64 (2 * v1)), (IntKind.wrap .i64 (2 * v2))) : Option ((Int × Int))).bind fun (v7, v8) =>
    (quoW .i64 v8 x2).bind fun n9 =>
    (remW v8 x2).bind fun n10 =>
    if (decide ((IntKind.wrap .i64 (v7 + n9)) > 2251799813685248)) then
      some (.inr (.inr ((IntKind.wrap .i64 (v7 + n9)), 0)))
    else
      some (.inl ((IntKind.wrap .i64 (v7 + n9)), n10, (IntKind.wrap .i64 (v3 - 1))))
  else
    some (.inr (.inl (v1, v2)))
def amount_divide (N : Nat) (x0 : Int) (x1 : Int) (x2 : Int) : Option (Int × Int) :=
  (loopN (amount_divide_l1 N x1 x0 x2) N (0, 0, 62)).bind fun
    | .inl (v11, v12) =>
      some (v11, v12)
    | .inr (v13, v14) =>
      some (v13, v14)

def amount_Scale (N : Nat) (x0 : Int) (x1 : Int) (x2 : Int) : Option (Int × Int) :=
  (amount_Valid N x0).bind fun r1 =>
  if (((((!r1) || (decide (x1 < 0))) || (decide (x1 > 1099511627776))) || (decide (x2 < 1))) || (decide (x2 > 1099511627776))) then
    some (0, 6)
  else
    (amount_divide N (if (IntKind.wrap .i64 (0 - x0)) > x0 then (IntKind.wrap .i64 (0 - x0)) else x0) x1 x2).bind fun (r2, r3) =>
    (if (decide (r3 ≥ (IntKind.wrap .i64 (x2 - r3)))) then
      some (IntKind.wrap .i64 (r2 + 1))
    else
      some r2 : Option ((Int))).bind fun v4 =>
    (if (decide (x0 < 0)) then
      some (IntKind.wrap .i64 (0 - v4))
    else
      some v4 : Option ((Int))).bind fun v5 =>
    (amount_checked N v5).bind fun (r6, r7) =>
    some (r6, r7)

def amount_Percent (N : Nat) (x0 : Int) (x1 : Int) : Option (Int × Int) :=
  if ((decide (x1 < 0)) || (decide (x1 > 10000))) then
    some (0, 6)
  else
    (amount_Scale N x0 x1 10000).bind fun (r1, r2) =>
    some (r1, r2)

def amount_Rounded (N : Nat) (x0 : Int) : Option (Int) :=
  (if (decide ((Int.tmod x0 10000) ≥ 5000)) then
    some (IntKind.wrap .i64 ((IntKind.wrap .i64 (Int.tdiv x0 10000)) + 1))
  else
    if (decide ((Int.tmod x0 10000) ≤ (-5000))) then
      some (IntKind.wrap .i64 ((IntKind.wrap .i64 (Int.tdiv x0 10000)) - 1))
    else
      some (IntKind.wrap .i64 (Int.tdiv x0 10000)) : Option ((Int))).bind fun v1 =>
  some v1

def amount_give_l2 (N : Nat) (v3 : (List Int)) : (Int × Int) → Option ((Int × Int) ⊕ ((Int))) := fun (v4, v5) =>
  if (decide (v5 < (List.length v3 : Int))) then
    ((idx v3 v5).bind fun _ =>
    (idx v3 v5).bind fun x6 =>
    (if (decide (x6 ≥ 0)) then
      (if (decide (v4 < 0)) then
        some true
      else
        (idx v3 v4).bind fun _ =>
        (idx v3 v4).bind fun x7 =>
        some (decide (x6 > x7)) : Option (Bool)).bind fun v8 =>
      some v8
    else
      some false : Option (Bool)).bind fun v9 =>
    if v9 then
      some v5
    else
      some v4 : Option ((Int))).bind fun v10 =>
    some (.inl (v10, (IntKind.wrap .i64 (v5 + 1))))
  else
    some (.inr v4)
def amount_give_l3 (N : Nat) : (Int × (List Int) × (List Int)) → Option ((Int × (List Int) × (List Int)) ⊕ (((List Int) × (List Int)) ⊕ ((List Int) × (List Int)))) := fun (v1, v2, v3) =>
  if (decide (v1 > 0)) then
    (loopN (amount_give_l2 N v3) N ((-1), 0)).bind fun v11 =>
    if (decide (v11 < 0)) then
      some (.inr (.inr (v2, v3)))
    else
      (idx v2 v11).bind fun _ =>
      (idx v2 v11).bind fun x12 =>
      (idx v2 v11).bind fun _ =>
      (idx v2 v11).bind fun y13 =>
      (idx v3 v11).bind fun _ =>
      (idx v3 v11).bind fun y14 =>
      some (.inl ((IntKind.wrap .i64 (v1 - 1)), (List.set v2 (Int.toNat v11) (IntKind.wrap .i64 (x12 + 1))), (List.set v3 (Int.toNat v11) (-1))))
  else
    some (.inr (.inl (v2, v3)))
def amount_give (N : Nat) (x2 : Int) (m5000 : (List Int)) (m5001 : (List Int)) : Option ((List Int) × (List Int)) :=
  (loopN (amount_give_l3 N) N (x2, m5000, m5001)).bind fun
    | .inl (v15, v16) =>
      some (v15, v16)
    | .inr (v17, v18) =>
      some (v17, v18)

def amount_Round_l1 (N : Nat) (x0 : (List Int)) : (Int × Int × Int × (List Int) × (List Int)) → Option ((Int × Int × Int × (List Int) × (List Int)) ⊕ ((Int × Int × (List Int) × (List Int)) ⊕ (Unit))) := fun (v3, v4, v5, v6, v7) =>
  if (decide (v5 < (List.length x0 : Int))) then
    (idx x0 v5).bind fun x8 =>
    (amount_Valid N x8).bind fun r9 =>
    if (!r9) then
      some (.inr (.inr ()))
    else
      (idx v7 v5).bind fun _ =>
      (idx v7 v5).bind fun y10 =>
      (idx (List.set v7 (Int.toNat v5) (Int.tmod (IntKind.wrap .i64 ((Int.tmod x8 10000) + 10000)) 10000)) v5).bind fun _ =>
      (idx (List.set v7 (Int.toNat v5) (Int.tmod (IntKind.wrap .i64 ((Int.tmod x8 10000) + 10000)) 10000)) v5).bind fun x11 =>
      (idx v6 v5).bind fun _ =>
      (idx v6 v5).bind fun y12 =>
      (idx (List.set v6 (Int.toNat v5) (IntKind.wrap .i64 (Int.tdiv (IntKind.wrap .i64 (x8 - x11)) 10000))) v5).bind fun _ =>
      (idx (List.set v6 (Int.toNat v5) (IntKind.wrap .i64 (Int.tdiv (IntKind.wrap .i64 (x8 - x11)) 10000))) v5).bind fun x13 =>
      some (.inl ((IntKind.wrap .i64 (v3 + x8)), (IntKind.wrap .i64 (v4 + x13)), (IntKind.wrap .i64 (v5 + 1)), (List.set v6 (Int.toNat v5) (IntKind.wrap .i64 (Int.tdiv (IntKind.wrap .i64 (x8 - x11)) 10000))), (List.set v7 (Int.toNat v5) (Int.tmod (IntKind.wrap .i64 ((Int.tmod x8 10000) + 10000)) 10000))))
  else
    some (.inr (.inl (v3, v4, v6, v7)))
def amount_Round (N : Nat) (x0 : (List Int)) : Option ((List Int)) :=
  if (decide ((List.length x0 : Int) > 4096)) then
    some ([] : (List Int))
  else
    (mkL 8 (List.length x0 : Int) (List.length x0 : Int) 0).bind fun m1 =>
    (mkL 8 (List.length x0 : Int) (List.length x0 : Int) 0).bind fun m2 =>
    (loopN (amount_Round_l1 N x0) N (0, 0, 0, m1, m2)).bind fun
      | .inl (v14, v15, v16, v17) =>
        (amount_Rounded N v14).bind fun r18 =>
        (amount_give N (IntKind.wrap .i64 (r18 - v15)) v16 v17).bind fun (r19, r20) =>
        some r19
      | .inr _ =>
        some ([] : (List Int))

def tax_Lines_l1 (N : Nat) (r1 : (List Str)) (r2 : (List (Str × (List Int)))) (x0 : (List ApiTax)) (x2 : Int) : (Int × (List ApiTaxLine) × (List Int)) → Option ((Int × (List ApiTaxLine) × (List Int)) ⊕ (((List ApiTaxLine) × (List Int)) ⊕ (Int))) := fun (v3, v4, v5) =>
  if (decide (v3 < (List.length r1 : Int))) then
    ((idx r1 v3).bind fun _ =>
    (idx r1 v3).bind fun x6 =>
    (tax_sum N ((findL (k := .str) x6 r2).getD ([] : (List Int)))).bind fun (r7, r8) =>
    if (r8 != 0) then
      some (.inr r8)
    else
      (tax_Points N x0 x6 x2).bind fun r9 =>
      if (r9 == 0) then
        some (.inl (v4, v5))
      else
        (amount_Percent N r7 r9).bind fun (r10, r11) =>
        if (r11 != 0) then
          some (.inr r11)
        else
          (app 8 v5 ([r10] : (List Int))).bind fun q12 =>
          (app 40 v4 ([(x6, r9, r7, 0)] : (List ApiTaxLine))).bind fun q13 =>
          some (.inl (q13, q12)) : Option (((List ApiTaxLine) × (List Int)) ⊕ (Int))).bind fun
      | .inl (v14, v15) =>
        some (.inl ((IntKind.wrap .i64 (v3 + 1)), v14, v15))
      | .inr v16 =>
        some (.inr (.inr v16))
  else
    some (.inr (.inl (v4, v5)))
def tax_Lines_l2 (N : Nat) (r19 : (List Int)) : (Int × (List ApiTaxLine) × (List Int)) → Option ((Int × (List ApiTaxLine) × (List Int)) ⊕ (((List ApiTaxLine)))) := fun (v20, v21, v22) =>
  if (decide (v20 < (List.length r19 : Int))) then
    (idx v22 v20).bind fun _ =>
    (idx v22 v20).bind fun x23 =>
    (idx v21 v20).bind fun _ =>
    (idx v21 v20).bind fun y24 =>
    some (.inl ((IntKind.wrap .i64 (v20 + 1)), (List.set v21 (Int.toNat v20) (y24.Category, y24.Points, y24.Base, x23)), v22))
  else
    some (.inr v21)
def tax_Lines (N : Nat) (x0 : (List ApiTax)) (x1 : (List ApiLine)) (x2 : Int) : Option (Int × (List ApiTaxLine)) :=
  if (decide ((List.length x1 : Int) > 4096)) then
    some (5, ([] : (List ApiTaxLine)))
  else
    (tax_categories N x1).bind fun (r1, r2) =>
    (loopN (tax_Lines_l1 N r1 r2 x0 x2) N (0, ([] : (List ApiTaxLine)), ([] : (List Int)))).bind fun
      | .inl (v17, v18) =>
        (amount_Round N v18).bind fun r19 =>
        (loopN (tax_Lines_l2 N r19) N (0, v17, r19)).bind fun v25 =>
        some (0, v25)
      | .inr v26 =>
        some (v26, ([] : (List ApiTaxLine)))

def tax_Extract (N : Nat) (x0 : Int) (x1 : Int) : Option (Int × Int × Int) :=
  if ((decide (x1 < 0)) || (decide (x1 > 10000))) then
    some (0, 0, 6)
  else
    (amount_Scale N x0 10000 (IntKind.wrap .i64 (10000 + x1))).bind fun (r1, r2) =>
    if (r2 != 0) then
      some (0, 0, r2)
    else
      some (r1, (IntKind.wrap .i64 (x0 - r1)), 0)

def tax_name_l1 (N : Nat) (x0 : Str) : (Int) → Option ((Int) ⊕ ((Unit) ⊕ (Bool))) := fun v5 =>
  if (decide (v5 < (List.length x0 : Int))) then
    (sidx x0 v5).bind fun c6 =>
    if ((((decide (c6 < 97)) || (decide (c6 > 122))) && ((decide (c6 < 48)) || (decide (c6 > 57)))) && (c6 != 45)) then
      some (.inr (.inr false))
    else
      some (.inl (IntKind.wrap .i64 (v5 + 1)))
  else
    some (.inr (.inl ()))
def tax_name (N : Nat) (x0 : Str) : Option (Bool) :=
  (if ((x0 == ([] : Str)) || (decide ((List.length x0 : Int) > 24))) then
    some true
  else
    (sidx x0 0).bind fun c1 =>
    some (decide (c1 < 97)) : Option (Bool)).bind fun v2 =>
  (if v2 then
    some true
  else
    (sidx x0 0).bind fun c3 =>
    some (decide (c3 > 122)) : Option (Bool)).bind fun v4 =>
  if v4 then
    some false
  else
    (loopN (tax_name_l1 N x0) N 1).bind fun
      | .inl _ =>
        some true
      | .inr v7 =>
        some v7

def tax_Check_l1 (N : Nat) (x0 : (List ApiTax)) : (Int) → Option ((Int) ⊕ ((Unit) ⊕ (Int))) := fun v1 =>
  if (decide (v1 < (List.length x0 : Int))) then
    (idx x0 v1).bind fun x2 =>
    (tax_name N x2.Category).bind fun r3 =>
    if (!r3) then
      some (.inr (.inr 8))
    else
      if ((decide (x2.From < 0)) || (decide (x2.From ≥ 12622780800))) then
        some (.inr (.inr 15))
      else
        if ((decide (x2.Points < 0)) || (decide (x2.Points > 10000))) then
          some (.inr (.inr 6))
        else
          (if (decide (v1 > 0)) then
            (idx x0 (IntKind.wrap .i64 (v1 - 1))).bind fun x4 =>
            (if (!(Op.bytesLess x4.Category x2.Category || x4.Category == x2.Category)) then
              some true
            else
              (idx x0 (IntKind.wrap .i64 (v1 - 1))).bind fun x5 =>
              (if (x5.Category == x2.Category) then
                (idx x0 (IntKind.wrap .i64 (v1 - 1))).bind fun x6 =>
                some (decide (x6.From ≥ x2.From))
              else
                some false : Option (Bool)).bind fun v7 =>
              some v7 : Option (Bool)).bind fun v8 =>
            some v8
          else
            some false : Option (Bool)).bind fun v9 =>
          if v9 then
            some (.inr (.inr 9))
          else
            some (.inl (IntKind.wrap .i64 (v1 + 1)))
  else
    some (.inr (.inl ()))
def tax_Check (N : Nat) (x0 : (List ApiTax)) : Option (Int) :=
  if (decide ((List.length x0 : Int) > 4096)) then
    some 5
  else
    (loopN (tax_Check_l1 N x0) N 0).bind fun
      | .inl _ =>
        some 0
      | .inr v10 =>
        some v10

def billinglaw45_awake (N : Nat) : Option (Bool) :=
  (tax_Lines N ([(([118, 111, 105, 99, 101] : Str), 0, 1900)] : (List ApiTax)) ([(0, 0, ([] : Str), ([118, 111, 105, 99, 101] : Str), 0, 0, 10000, 0), (0, 0, ([] : Str), ([111, 116, 104, 101, 114] : Str), 0, 0, 7, 0), (0, 0, ([] : Str), ([118, 111, 105, 99, 101] : Str), 0, 0, 20000, 0)] : (List ApiLine)) 5).bind fun (r1, r2) =>
  (tax_Extract N 11900 1900).bind fun (r3, r4, r5) =>
  (if (r1 == 0) then
    if ((List.length r2 : Int) == 1) then
      (idx r2 0).bind fun _ =>
      (idx r2 0).bind fun x6 =>
      if ((x6.Category == ([118, 111, 105, 99, 101] : Str)) && ((x6.Points == 1900) && ((x6.Base == 30000) && ((x6.Rounded == 1) && true)))) then
        if (r3 == 10000) then
          if (r4 == 1900) then
            if (r5 == 0) then
              (tax_Points N ([(([118, 111, 105, 99, 101] : Str), 0, 1900)] : (List ApiTax)) ([118, 111, 105, 99, 101] : Str) 0).bind fun r7 =>
              if (r7 == 1900) then
                (tax_Points N ([(([118, 111, 105, 99, 101] : Str), 0, 1900)] : (List ApiTax)) ([118, 111, 105, 99, 101] : Str) (-1)).bind fun r8 =>
                if (r8 == 0) then
                  (idx ([(([118, 111, 105, 99, 101] : Str), 0, 1900)] : (List ApiTax)) 0).bind fun x9 =>
                  (idx ([(([118, 111, 105, 99, 101] : Str), 0, 1900)] : (List ApiTax)) 0).bind fun x10 =>
                  (tax_Check N ([x9, x10] : (List ApiTax))).bind fun r11 =>
                  some (r11 == 9)
                else
                  some false
              else
                some false
            else
              some false
          else
            some false
        else
          some false
      else
        some false
    else
      some false
  else
    some false : Option ((Bool))).bind fun v12 =>
  some v12

def billingref17_Name_l1 (N : Nat) (x0 : Str) : (Int) → Option ((Int) ⊕ ((Unit) ⊕ (Bool))) := fun v5 =>
  if (decide (v5 < (List.length x0 : Int))) then
    (sidx x0 v5).bind fun c6 =>
    (if (decide (c6 < 97)) then
      some true
    else
      (sidx x0 v5).bind fun c7 =>
      some (decide (c7 > 122)) : Option (Bool)).bind fun v8 =>
    (if v8 then
      (sidx x0 v5).bind fun c9 =>
      (if (decide (c9 < 48)) then
        some true
      else
        (sidx x0 v5).bind fun c10 =>
        some (decide (c10 > 57)) : Option (Bool)).bind fun v11 =>
      some v11
    else
      some false : Option (Bool)).bind fun v12 =>
    (if v12 then
      (sidx x0 v5).bind fun c13 =>
      some (c13 != 45)
    else
      some false : Option (Bool)).bind fun v14 =>
    if v14 then
      some (.inr (.inr false))
    else
      some (.inl (IntKind.wrap .i64 (v5 + 1)))
  else
    some (.inr (.inl ()))
def billingref17_Name (N : Nat) (x0 : Str) : Option (Bool) :=
  (if ((decide ((List.length x0 : Int) < 1)) || (decide ((List.length x0 : Int) > 24))) then
    some true
  else
    (sidx x0 0).bind fun c1 =>
    some (decide (c1 < 97)) : Option (Bool)).bind fun v2 =>
  (if v2 then
    some true
  else
    (sidx x0 0).bind fun c3 =>
    some (decide (c3 > 122)) : Option (Bool)).bind fun v4 =>
  if v4 then
    some false
  else
    (loopN (billingref17_Name_l1 N x0) N 0).bind fun
      | .inl _ =>
        some true
      | .inr v15 =>
        some v15

def billingref45_before (N : Nat) (x0 : ApiTax) (x1 : ApiTax) : Option (Bool) :=
  some ((Op.bytesLess x0.Category x1.Category) || ((x0.Category == x1.Category) && (decide (x0.From < x1.From))))

def billingref45_Check_l1 (N : Nat) (x0 : (List ApiTax)) : (Int) → Option ((Int) ⊕ ((Unit) ⊕ (Int))) := fun v1 =>
  if (decide (v1 < (List.length x0 : Int))) then
    (idx x0 v1).bind fun x2 =>
    (billingref17_Name N x2.Category).bind fun r3 =>
    if (!r3) then
      some (.inr (.inr 8))
    else
      if ((decide (x2.From < 0)) || (decide (x2.From ≥ 12622780800))) then
        some (.inr (.inr 15))
      else
        if ((decide (x2.Points < 0)) || (decide (x2.Points > 10000))) then
          some (.inr (.inr 6))
        else
          (if (decide (v1 > 0)) then
            (idx x0 (IntKind.wrap .i64 (v1 - 1))).bind fun x4 =>
            (billingref45_before N x4 x2).bind fun r5 =>
            some (!r5)
          else
            some false : Option ((Bool))).bind fun v6 =>
          if v6 then
            some (.inr (.inr 9))
          else
            some (.inl (IntKind.wrap .i64 (v1 + 1)))
  else
    some (.inr (.inl ()))
def billingref45_Check (N : Nat) (x0 : (List ApiTax)) : Option (Int) :=
  if (decide ((List.length x0 : Int) > 4096)) then
    some 5
  else
    (loopN (billingref45_Check_l1 N x0) N 0).bind fun
      | .inl _ =>
        some 0
      | .inr v7 =>
        some v7

def billinglaw45_TaxChecks (N : Nat) (x0 : (List ApiTax)) : Option (Bool) :=
  if (decide ((List.length x0 : Int) > 40)) then
    (billinglaw45_awake N).bind fun r1 =>
    some r1
  else
    (tax_Check N x0).bind fun r2 =>
    (billingref45_Check N x0).bind fun r3 =>
    (if (r2 == r3) then
      (billinglaw45_awake N).bind fun r4 =>
      some r4
    else
      some false : Option (Bool)).bind fun v5 =>
    some v5

def billingref45_Ascending_l1 (N : Nat) (x0 : (List ApiTax)) : (Int) → Option ((Int) ⊕ ((Unit) ⊕ (Bool))) := fun v1 =>
  if (decide (v1 < (List.length x0 : Int))) then
    (idx x0 (IntKind.wrap .i64 (v1 - 1))).bind fun x2 =>
    (idx x0 v1).bind fun x3 =>
    (billingref45_before N x2 x3).bind fun r4 =>
    if (!r4) then
      some (.inr (.inr false))
    else
      some (.inl (IntKind.wrap .i64 (v1 + 1)))
  else
    some (.inr (.inl ()))
def billingref45_Ascending (N : Nat) (x0 : (List ApiTax)) : Option (Bool) :=
  (loopN (billingref45_Ascending_l1 N x0) N 1).bind fun
    | .inl _ =>
      some true
    | .inr v5 =>
      some v5

def billingref45_Points_l1 (N : Nat) (x0 : (List ApiTax)) (x1 : Str) (x2 : Int) : (Int × Int) → Option ((Int × Int) ⊕ ((Int))) := fun (v1, v2) =>
  if (decide (v2 < (List.length x0 : Int))) then
    ((idx x0 v2).bind fun x3 =>
    (if (x3.Category == x1) then
      (idx x0 v2).bind fun x4 =>
      some (decide (x4.From ≤ x2))
    else
      some false : Option (Bool)).bind fun v5 =>
    if v5 then
      (idx x0 v2).bind fun x6 =>
      some x6.Points
    else
      some v1 : Option ((Int))).bind fun v7 =>
    some (.inl (v7, (IntKind.wrap .i64 (v2 + 1))))
  else
    some (.inr v1)
def billingref45_Points (N : Nat) (x0 : (List ApiTax)) (x1 : Str) (x2 : Int) : Option (Int) :=
  (loopN (billingref45_Points_l1 N x0 x1 x2) N (0, 0)).bind fun v8 =>
  some v8

def billinglaw45_TaxPoints (N : Nat) (x0 : (List ApiTax)) (x1 : Str) (x2 : Int) : Option (Bool) :=
  (if (decide ((List.length x0 : Int) > 40)) then
    some true
  else
    (billingref45_Ascending N x0).bind fun r1 =>
    some (!r1) : Option (Bool)).bind fun v2 =>
  if v2 then
    (billinglaw45_awake N).bind fun r3 =>
    some r3
  else
    (tax_Points N x0 x1 x2).bind fun r4 =>
    (billingref45_Points N x0 x1 x2).bind fun r5 =>
    (if (r4 == r5) then
      (billinglaw45_awake N).bind fun r6 =>
      some r6
    else
      some false : Option (Bool)).bind fun v7 =>
    some v7

def billinglaw45_small (N : Nat) (x0 : (List ApiTax)) (x1 : (List ApiLine)) : Option (Bool) :=
  (if ((decide ((List.length x0 : Int) ≤ 40)) && (decide ((List.length x1 : Int) ≤ 60))) then
    (billingref45_Check N x0).bind fun r1 =>
    some (r1 == 0)
  else
    some false : Option (Bool)).bind fun v2 =>
  some v2

def billingref17_Has_l1 (N : Nat) (x0 : (List Str)) (x1 : Str) : (Int) → Option ((Int) ⊕ ((Unit) ⊕ (Bool))) := fun v1 =>
  if (decide (v1 < (List.length x0 : Int))) then
    (idx x0 v1).bind fun x2 =>
    if (x2 == x1) then
      some (.inr (.inr true))
    else
      some (.inl (IntKind.wrap .i64 (v1 + 1)))
  else
    some (.inr (.inl ()))
def billingref17_Has (N : Nat) (x0 : (List Str)) (x1 : Str) : Option (Bool) :=
  (loopN (billingref17_Has_l1 N x0 x1) N 0).bind fun
    | .inl _ =>
      some false
    | .inr v3 =>
      some v3

def billingref17_With_l1 (N : Nat) (x0 : (List Str)) (x1 : Str) : (Int) → Option ((Int) ⊕ ((Int))) := fun v1 =>
  (if (decide (v1 < (List.length x0 : Int))) then
    (idx x0 v1).bind fun x2 =>
    some (Op.bytesLess x2 x1)
  else
    some false : Option (Bool)).bind fun v3 =>
  if v3 then
    some (.inl (IntKind.wrap .i64 (v1 + 1)))
  else
    some (.inr v1)
def billingref17_With (N : Nat) (x0 : (List Str)) (x1 : Str) : Option ((List Str)) :=
  (loopN (billingref17_With_l1 N x0 x1) N 0).bind fun v4 =>
  (slc x0 0 v4).bind fun s5 =>
  (app 16 ([] : (List Str)) s5).bind fun q6 =>
  (app 16 q6 ([x1] : (List Str))).bind fun q7 =>
  (slc x0 v4 (List.length x0 : Int)).bind fun s8 =>
  (app 16 q7 s8).bind fun q9 =>
  some q9

def billingref45_Categories_l1 (N : Nat) (x0 : (List ApiLine)) : (Int × (List Str)) → Option ((Int × (List Str)) ⊕ (((List Str)))) := fun (v1, v2) =>
  if (decide (v1 < (List.length x0 : Int))) then
    ((idx x0 v1).bind fun x3 =>
    (billingref17_Has N v2 x3.Category).bind fun r4 =>
    if (!r4) then
      (idx x0 v1).bind fun x5 =>
      (billingref17_With N v2 x5.Category).bind fun r6 =>
      some r6
    else
      some v2 : Option (((List Str)))).bind fun v7 =>
    some (.inl ((IntKind.wrap .i64 (v1 + 1)), v7))
  else
    some (.inr v2)
def billingref45_Categories (N : Nat) (x0 : (List ApiLine)) : Option ((List Str)) :=
  (loopN (billingref45_Categories_l1 N x0) N (0, ([] : (List Str)))).bind fun v8 =>
  some v8

def billingref01_Valid (N : Nat) (x0 : Int) : Option (Bool) :=
  some ((decide (x0 ≥ (-1125899906842624))) && (decide (x0 ≤ 1125899906842624)))

def billingref01_Sum_l1 (N : Nat) (x0 : (List Int)) : (Int × Int) → Option ((Int × Int) ⊕ ((Int) ⊕ (Int × Int))) := fun (v1, v2) =>
  if (decide (v2 < (List.length x0 : Int))) then
    (idx x0 v2).bind fun x3 =>
    (billingref01_Valid N x3).bind fun r4 =>
    if (!r4) then
      some (.inr (.inr (0, 6)))
    else
      (idx x0 v2).bind fun x5 =>
      some (.inl ((IntKind.wrap .i64 (v1 + x5)), (IntKind.wrap .i64 (v2 + 1))))
  else
    some (.inr (.inl v1))
def billingref01_Sum (N : Nat) (x0 : (List Int)) : Option (Int × Int) :=
  if (decide ((List.length x0 : Int) > 4096)) then
    some (0, 5)
  else
    (loopN (billingref01_Sum_l1 N x0) N (0, 0)).bind fun
      | .inl v6 =>
        (billingref01_Valid N v6).bind fun r7 =>
        if (!r7) then
          some (0, 6)
        else
          some (v6, 0)
      | .inr (v8, v9) =>
        some (v8, v9)

def billingref45_Base_l1 (N : Nat) (x0 : (List ApiLine)) (x1 : Str) : (Int × (List Int)) → Option ((Int × (List Int)) ⊕ (((List Int)))) := fun (v1, v2) =>
  if (decide (v1 < (List.length x0 : Int))) then
    ((idx x0 v1).bind fun x3 =>
    if (x3.Category == x1) then
      (idx x0 v1).bind fun x4 =>
      (app 8 v2 ([x4.Amount] : (List Int))).bind fun q5 =>
      some q5
    else
      some v2 : Option (((List Int)))).bind fun v6 =>
    some (.inl ((IntKind.wrap .i64 (v1 + 1)), v6))
  else
    some (.inr v2)
def billingref45_Base (N : Nat) (x0 : (List ApiLine)) (x1 : Str) : Option (Int × Int) :=
  (loopN (billingref45_Base_l1 N x0 x1) N (0, ([] : (List Int)))).bind fun v7 =>
  (billingref01_Sum N v7).bind fun (r8, r9) =>
  some (r8, r9)

def billingref01_Divide_l1 (N : Nat) (x0 : Int) (x1 : Int) (x2 : Int) : (Int × Int × Int) → Option ((Int × Int × Int) ⊕ ((Int × Int))) := fun (v1, v2, v3) =>
  if (decide (v3 ≥ 0)) then
    (((shrW .i64 x0 (IntKind.wrap .u64 v3)).bind fun n4 =>
    if ((Go.bits .and .i64 n4 1) == 1) then
      some (IntKind.wrap .i64 ((IntKind.wrap .i64 (2 * v2)) + x1))
    else
      some (IntKind.wrap .i64 (2 * v2)) : Option ((Int))).bind fun v5 =>
    (quoW .i64 v5 x2).bind fun n6 =>
    (remW v5 x2).bind fun n7 =>
    if (decide ((IntKind.wrap .i64 ((IntKind.wrap .i64 (2 * v1)) + n6)) > 288230376151711744)) then
      some (288230376151711744, n7)
    else
      some ((IntKind.wrap .i64 ((IntKind.wrap .i64 (2 * v1)) + n6)), n7) : Option ((Int × Int))).bind fun (v8, v9) =>
    some (.inl (v8, v9, (IntKind.wrap .i64 (v3 - 1))))
  else
    some (.inr (v1, v2))
def billingref01_Divide (N : Nat) (x0 : Int) (x1 : Int) (x2 : Int) : Option (Int × Int) :=
  (loopN (billingref01_Divide_l1 N x0 x1 x2) N (0, 0, 50)).bind fun (v10, v11) =>
  some (v10, v11)

def billingref01_Scale_r (N : Nat) : Nat → Int → Int → Int → Option (Int × Int)
  | 0, _, _, _ => none
  | n + 1, x0, x1, x2 =>
    (billingref01_Valid N x0).bind fun r1 =>
    if (((((!r1) || (decide (x1 < 0))) || (decide (x1 > 1099511627776))) || (decide (x2 < 1))) || (decide (x2 > 1099511627776))) then
      some (0, 6)
    else
      if (decide (x0 < 0)) then
        (billingref01_Scale_r N n (IntKind.wrap .i64 (0 - x0)) x1 x2).bind fun (r2, r3) =>
        some ((IntKind.wrap .i64 (0 - r2)), r3)
      else
        (billingref01_Divide N x0 x1 x2).bind fun (r4, r5) =>
        (if (decide ((IntKind.wrap .i64 (2 * r5)) ≥ x2)) then
          some (IntKind.wrap .i64 (r4 + 1))
        else
          some r4 : Option ((Int))).bind fun v6 =>
        (billingref01_Valid N v6).bind fun r7 =>
        if (!r7) then
          some (0, 6)
        else
          some (v6, 0)
def billingref01_Scale (N : Nat) (x0 : Int) (x1 : Int) (x2 : Int) : Option (Int × Int) := billingref01_Scale_r N N x0 x1 x2

def billingref01_Percent (N : Nat) (x0 : Int) (x1 : Int) : Option (Int × Int) :=
  if ((decide (x1 < 0)) || (decide (x1 > 10000))) then
    some (0, 6)
  else
    (billingref01_Scale N x0 x1 10000).bind fun (r1, r2) =>
    some (r1, r2)

def billingref01_Rounded (N : Nat) (x0 : Int) : Option (Int) :=
  if (decide ((IntKind.wrap .i64 (2 * (Int.tmod x0 10000))) ≥ 10000)) then
    some (IntKind.wrap .i64 ((IntKind.wrap .i64 (Int.tdiv x0 10000)) + 1))
  else
    if (decide ((IntKind.wrap .i64 (2 * (Int.tmod x0 10000))) ≤ (-10000))) then
      some (IntKind.wrap .i64 ((IntKind.wrap .i64 (Int.tdiv x0 10000)) - 1))
    else
      some (IntKind.wrap .i64 (Int.tdiv x0 10000))

def billingref01_Give_l2 (N : Nat) (v5 : (List Int)) : (Int × Int) → Option ((Int × Int) ⊕ ((Int))) := fun (v6, v7) =>
  if (decide (v7 < (List.length v5 : Int))) then
    ((idx v5 v7).bind fun _ =>
    (idx v5 v7).bind fun x8 =>
    (if (decide (x8 ≥ 0)) then
      (if (decide (v6 < 0)) then
        some true
      else
        (idx v5 v7).bind fun _ =>
        (idx v5 v7).bind fun x9 =>
        (idx v5 v6).bind fun _ =>
        (idx v5 v6).bind fun x10 =>
        some (decide (x9 > x10)) : Option (Bool)).bind fun v11 =>
      some v11
    else
      some false : Option (Bool)).bind fun v12 =>
    if v12 then
      some v7
    else
      some v6 : Option ((Int))).bind fun v13 =>
    some (.inl (v13, (IntKind.wrap .i64 (v7 + 1))))
  else
    some (.inr v6)
def billingref01_Give_l3 (N : Nat) : (Int × (List Int) × (List Int)) → Option ((Int × (List Int) × (List Int)) ⊕ (((List Int)) ⊕ ((List Int)))) := fun (v3, v4, v5) =>
  if (decide (v3 > 0)) then
    (loopN (billingref01_Give_l2 N v5) N ((-1), 0)).bind fun v14 =>
    if (decide (v14 < 0)) then
      some (.inr (.inr v4))
    else
      (idx v4 v14).bind fun _ =>
      (idx v4 v14).bind fun x15 =>
      (idx v4 v14).bind fun _ =>
      (idx v4 v14).bind fun y16 =>
      (idx v5 v14).bind fun _ =>
      (idx v5 v14).bind fun y17 =>
      some (.inl ((IntKind.wrap .i64 (v3 - 1)), (List.set v4 (Int.toNat v14) (IntKind.wrap .i64 (x15 + 1))), (List.set v5 (Int.toNat v14) (-1))))
  else
    some (.inr (.inl v4))
def billingref01_Give (N : Nat) (x0 : (List Int)) (x1 : (List Int)) (x2 : Int) : Option ((List Int)) :=
  (app 8 ([] : (List Int)) x0).bind fun q1 =>
  (app 8 ([] : (List Int)) x1).bind fun q2 =>
  (loopN (billingref01_Give_l3 N) N (x2, q1, q2)).bind fun
    | .inl v18 =>
      some v18
    | .inr v19 =>
      some v19

def billingref01_Round_l1 (N : Nat) (x0 : (List Int)) : (Int × Int × Int × (List Int) × (List Int)) → Option ((Int × Int × Int × (List Int) × (List Int)) ⊕ ((Int × Int × (List Int) × (List Int)) ⊕ (Unit))) := fun (v1, v2, v3, v4, v5) =>
  if (decide (v3 < (List.length x0 : Int))) then
    (idx x0 v3).bind fun x6 =>
    (billingref01_Valid N x6).bind fun r7 =>
    if (!r7) then
      some (.inr (.inr ()))
    else
      (idx x0 v3).bind fun x8 =>
      (idx x0 v3).bind fun x9 =>
      (app 8 v4 ([(IntKind.wrap .i64 (Int.tdiv (IntKind.wrap .i64 (x9 - (Int.tmod (IntKind.wrap .i64 ((Int.tmod x8 10000) + 10000)) 10000))) 10000))] : (List Int))).bind fun q10 =>
      (app 8 v5 ([(Int.tmod (IntKind.wrap .i64 ((Int.tmod x8 10000) + 10000)) 10000)] : (List Int))).bind fun q11 =>
      (idx x0 v3).bind fun x12 =>
      some (.inl ((IntKind.wrap .i64 (v1 + x12)), (IntKind.wrap .i64 (v2 + (IntKind.wrap .i64 (Int.tdiv (IntKind.wrap .i64 (x9 - (Int.tmod (IntKind.wrap .i64 ((Int.tmod x8 10000) + 10000)) 10000))) 10000)))), (IntKind.wrap .i64 (v3 + 1)), q10, q11))
  else
    some (.inr (.inl (v1, v2, v4, v5)))
def billingref01_Round (N : Nat) (x0 : (List Int)) : Option ((List Int)) :=
  if (decide ((List.length x0 : Int) > 4096)) then
    some ([] : (List Int))
  else
    (loopN (billingref01_Round_l1 N x0) N (0, 0, 0, ([] : (List Int)), ([] : (List Int)))).bind fun
      | .inl (v13, v14, v15, v16) =>
        (billingref01_Rounded N v13).bind fun r17 =>
        (billingref01_Give N v15 v16 (IntKind.wrap .i64 (r17 - v14))).bind fun r18 =>
        some r18
      | .inr _ =>
        some ([] : (List Int))

def billingref45_Lines_l1 (N : Nat) (r1 : (List Str)) (x1 : (List ApiLine)) (x0 : (List ApiTax)) (x2 : Int) : (Int × (List ApiTaxLine) × (List Int)) → Option ((Int × (List ApiTaxLine) × (List Int)) ⊕ (((List ApiTaxLine) × (List Int)) ⊕ (Int))) := fun (v2, v3, v4) =>
  if (decide (v2 < (List.length r1 : Int))) then
    ((idx r1 v2).bind fun x5 =>
    (billingref45_Base N x1 x5).bind fun (r6, r7) =>
    if (r7 != 0) then
      some (.inr r7)
    else
      (idx r1 v2).bind fun x8 =>
      (billingref45_Points N x0 x8 x2).bind fun r9 =>
      if (r9 == 0) then
        some (.inl (v3, v4))
      else
        (billingref01_Percent N r6 r9).bind fun (r10, r11) =>
        if (r11 != 0) then
          some (.inr r11)
        else
          (idx r1 v2).bind fun x12 =>
          (app 40 v3 ([(x12, r9, r6, 0)] : (List ApiTaxLine))).bind fun q13 =>
          (app 8 v4 ([r10] : (List Int))).bind fun q14 =>
          some (.inl (q13, q14)) : Option (((List ApiTaxLine) × (List Int)) ⊕ (Int))).bind fun
      | .inl (v15, v16) =>
        some (.inl ((IntKind.wrap .i64 (v2 + 1)), v15, v16))
      | .inr v17 =>
        some (.inr (.inr v17))
  else
    some (.inr (.inl (v3, v4)))
def billingref45_Lines_l2 (N : Nat) : (Int × (List ApiTaxLine) × (List Int)) → Option ((Int × (List ApiTaxLine) × (List Int)) ⊕ (((List ApiTaxLine)))) := fun (v21, v22, v23) =>
  if (decide (v21 < (List.length v22 : Int))) then
    (idx v23 v21).bind fun _ =>
    (idx v23 v21).bind fun x24 =>
    (idx v22 v21).bind fun _ =>
    (idx v22 v21).bind fun y25 =>
    some (.inl ((IntKind.wrap .i64 (v21 + 1)), (List.set v22 (Int.toNat v21) (y25.Category, y25.Points, y25.Base, x24)), v23))
  else
    some (.inr v22)
def billingref45_Lines (N : Nat) (x0 : (List ApiTax)) (x1 : (List ApiLine)) (x2 : Int) : Option (Int × (List ApiTaxLine)) :=
  if (decide ((List.length x1 : Int) > 4096)) then
    some (5, ([] : (List ApiTaxLine)))
  else
    (billingref45_Categories N x1).bind fun r1 =>
    (loopN (billingref45_Lines_l1 N r1 x1 x0 x2) N (0, ([] : (List ApiTaxLine)), ([] : (List Int)))).bind fun
      | .inl (v18, v19) =>
        (billingref01_Round N v19).bind fun r20 =>
        (loopN (billingref45_Lines_l2 N) N (0, v18, r20)).bind fun v26 =>
        some (0, v26)
      | .inr v27 =>
        some (v27, ([] : (List ApiTaxLine)))

def billingref45_Same_l1 (N : Nat) (x0 : (List ApiTaxLine)) (x1 : (List ApiTaxLine)) : (Int) → Option ((Int) ⊕ ((Unit) ⊕ (Bool))) := fun v1 =>
  if (decide (v1 < (List.length x0 : Int))) then
    (idx x0 v1).bind fun x2 =>
    (idx x1 v1).bind fun x3 =>
    if (!((x2.Category == x3.Category) && ((x2.Points == x3.Points) && ((x2.Base == x3.Base) && ((x2.Rounded == x3.Rounded) && true))))) then
      some (.inr (.inr false))
    else
      some (.inl (IntKind.wrap .i64 (v1 + 1)))
  else
    some (.inr (.inl ()))
def billingref45_Same (N : Nat) (x0 : (List ApiTaxLine)) (x1 : (List ApiTaxLine)) : Option (Bool) :=
  if ((List.length x0 : Int) != (List.length x1 : Int)) then
    some false
  else
    (loopN (billingref45_Same_l1 N x0 x1) N 0).bind fun
      | .inl _ =>
        some true
      | .inr v4 =>
        some v4

def billinglaw45_TaxLines (N : Nat) (x0 : (List ApiTax)) (x1 : (List ApiLine)) (x2 : Int) : Option (Bool) :=
  (billinglaw45_small N x0 x1).bind fun r1 =>
  if (!r1) then
    (billinglaw45_awake N).bind fun r2 =>
    some r2
  else
    (tax_Lines N x0 x1 x2).bind fun (r3, r4) =>
    (billingref45_Lines N x0 x1 x2).bind fun (r5, r6) =>
    (billingref45_Same N r4 r6).bind fun r7 =>
    (if (r7 && (r3 == r5)) then
      (billinglaw45_awake N).bind fun r8 =>
      some r8
    else
      some false : Option (Bool)).bind fun v9 =>
    some v9

def billinglaw45_TaxSums_l1 (N : Nat) (x1 : (List ApiLine)) : (Int × (List ApiLine)) → Option ((Int × (List ApiLine)) ⊕ (((List ApiLine)))) := fun (v5, v6) =>
  if (decide (v5 ≥ 0)) then
    (idx x1 v5).bind fun x7 =>
    (app 80 v6 ([x7] : (List ApiLine))).bind fun q8 =>
    some (.inl ((IntKind.wrap .i64 (v5 - 1)), q8))
  else
    some (.inr v6)
def billinglaw45_TaxSums_l2 (N : Nat) (x1 : (List ApiLine)) (r4 : (List ApiTaxLine)) (v16 : Int) : (Int × Int) → Option ((Int × Int) ⊕ ((Int))) := fun (v17, v18) =>
  if (decide (v18 < (List.length x1 : Int))) then
    ((idx x1 v18).bind fun x19 =>
    (idx r4 v16).bind fun x20 =>
    if (x19.Category == x20.Category) then
      (idx x1 v18).bind fun x21 =>
      some (IntKind.wrap .i64 (v17 + x21.Amount))
    else
      some v17 : Option ((Int))).bind fun v22 =>
    some (.inl (v22, (IntKind.wrap .i64 (v18 + 1))))
  else
    some (.inr v17)
def billinglaw45_TaxSums_l3 (N : Nat) (r4 : (List ApiTaxLine)) (x1 : (List ApiLine)) (x0 : (List ApiTax)) (x2 : Int) : (Int × Int × Int) → Option ((Int × Int × Int) ⊕ ((Int × Int) ⊕ (Bool))) := fun (v14, v15, v16) =>
  if (decide (v16 < (List.length r4 : Int))) then
    (loopN (billinglaw45_TaxSums_l2 N x1 r4 v16) N (0, 0)).bind fun v23 =>
    (idx r4 v16).bind fun x24 =>
    (idx r4 v16).bind fun x25 =>
    (amount_Percent N x24.Base x25.Points).bind fun (r26, r27) =>
    (if (r27 != 0) then
      some true
    else
      (idx r4 v16).bind fun x28 =>
      if (v23 != x28.Base) then
        some true
      else
        (idx r4 v16).bind fun x29 =>
        (idx r4 v16).bind fun x30 =>
        (tax_Points N x0 x30.Category x2).bind fun r31 =>
        if (x29.Points != r31) then
          some true
        else
          (idx r4 v16).bind fun x32 =>
          if (x32.Points == 0) then
            some true
          else
            if (decide (v16 > 0)) then
              (idx r4 (IntKind.wrap .i64 (v16 - 1))).bind fun x33 =>
              (idx r4 v16).bind fun x34 =>
              some (!(Op.bytesLess x33.Category x34.Category))
            else
              some false : Option ((Bool))).bind fun v35 =>
    if v35 then
      some (.inr (.inr false))
    else
      (idx r4 v16).bind fun x36 =>
      some (.inl ((IntKind.wrap .i64 (v14 + r26)), (IntKind.wrap .i64 (v15 + x36.Rounded)), (IntKind.wrap .i64 (v16 + 1))))
  else
    some (.inr (.inl (v14, v15)))
def billinglaw45_TaxSums (N : Nat) (x0 : (List ApiTax)) (x1 : (List ApiLine)) (x2 : Int) : Option (Bool) :=
  (billinglaw45_small N x0 x1).bind fun r1 =>
  if (!r1) then
    (billinglaw45_awake N).bind fun r2 =>
    some r2
  else
    (tax_Lines N x0 x1 x2).bind fun (r3, r4) =>
    (loopN (billinglaw45_TaxSums_l1 N x1) N ((IntKind.wrap .i64 ((List.length x1 : Int) - 1)), ([] : (List ApiLine)))).bind fun v9 =>
    (tax_Lines N x0 v9 x2).bind fun (r10, r11) =>
    (if (r3 != r10) then
      some true
    else
      (billingref45_Same N r4 r11).bind fun r12 =>
      some (!r12) : Option (Bool)).bind fun v13 =>
    if v13 then
      some false
    else
      (loopN (billinglaw45_TaxSums_l3 N r4 x1 x0 x2) N (0, 0, 0)).bind fun
        | .inl (v37, v38) =>
          (amount_Rounded N v37).bind fun r39 =>
          (if (v38 == r39) then
            (billinglaw45_awake N).bind fun r40 =>
            some r40
          else
            some false : Option (Bool)).bind fun v41 =>
          some v41
        | .inr v42 =>
          some v42

def billingref45_Extract (N : Nat) (x0 : Int) (x1 : Int) : Option (Int × Int × Int) :=
  (billingref01_Valid N x0).bind fun r1 =>
  if (((!r1) || (decide (x1 < 0))) || (decide (x1 > 10000))) then
    some (0, 0, 6)
  else
    (billingref01_Scale N x0 10000 (IntKind.wrap .i64 (10000 + x1))).bind fun (r2, r3) =>
    if (r3 != 0) then
      some (0, 0, r3)
    else
      some (r2, (IntKind.wrap .i64 (x0 - r2)), 0)

def billinglaw45_TaxExtracts (N : Nat) (x0 : Int) (x1 : Int) : Option (Bool) :=
  (tax_Extract N x0 x1).bind fun (r1, r2, r3) =>
  (billingref45_Extract N x0 x1).bind fun (r4, r5, r6) =>
  if (((r1 != r4) || (r2 != r5)) || (r3 != r6)) then
    some false
  else
    if (r3 != 0) then
      (if ((r1 == 0) && (r2 == 0)) then
        (billinglaw45_awake N).bind fun r7 =>
        some r7
      else
        some false : Option (Bool)).bind fun v8 =>
      some v8
    else
      (amount_Percent N r1 x1).bind fun (r9, r10) =>
      (if ((((r10 == 0) && ((IntKind.wrap .i64 (r1 + r2)) == x0)) && (decide ((IntKind.wrap .i64 (r9 - r2)) ≥ (-1)))) && (decide ((IntKind.wrap .i64 (r9 - r2)) ≤ 1))) then
        (billinglaw45_awake N).bind fun r11 =>
        some r11
      else
        some false : Option (Bool)).bind fun v12 =>
      some v12

end Gx
