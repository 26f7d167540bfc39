/- The Go functions as Lean functions. -/
import Derived.Test.YtjcniejccgofbaaDoorXX0
namespace Gx
open Go Gd
set_option linter.unusedVariables false
abbrev gv0 : List Int := ([1, 10, 100, 1000, 10000] : List Int)
abbrev gv4 : List Int := Go.Lib.pow10Tab
def amount_Valid (N : Nat) (x0 : Int) : Option (Bool) :=
  some ((decide (x0 ≥ (-1125899906842624))) && (decide (x0 ≤ 1125899906842624)))

def amount_divide_l1 (N : Nat) (x1 : Int) (x0 : Int) (x2 : Int) : (Int × Int × Int) → Option ((Int × Int × Int) ⊕ ((Int × Int) ⊕ (Int × Int))) := fun (v1, v2, v3) =>
  if (decide (v3 ≥ 0)) then
    ((shrW .i64 x1 v3).bind fun n4 =>
    if ((Go.bits .and .i64 n4 1) == 1) then
      (quoW .i64 x0 x2).bind fun n5 =>
      (remW x0 x2).bind fun n6 =>
      some ((IntKind.wrap .i64 ((IntKind.wrap .i64 (2 * v1)) + n5)), (IntKind.wrap .i64 ((IntKind.wrap .i64 (2 * v2)) + n6)))
    else
      some ((IntKind.wrap .i64 (2 * v1)), (IntKind.wrap .i64 (2 * v2))) : Option ((Int × Int))).bind fun (v7, v8) =>
    (quoW .i64 v8 x2).bind fun n9 =>
    (remW v8 x2).bind fun n10 =>
    if (decide ((IntKind.wrap .i64 (v7 + n9)) > 2251799813685248)) then
      some (.inr (.inr ((IntKind.wrap .i64 (v7 + n9)), 0)))
    else
      some (.inl ((IntKind.wrap .i64 (v7 + n9)), n10, (IntKind.wrap .i64 (v3 - 1))))
  else
    some (.inr (.inl (v1, v2)))
def amount_divide (N : Nat) (x0 : Int) (x1 : Int) (x2 : Int) : Option (Int × Int) :=
  (loopN (amount_divide_l1 N x1 x0 x2) N (0, 0, 62)).bind fun
    | .inl (v11, v12) =>
      some (v11, v12)
    | .inr (v13, v14) =>
      some (v13, v14)

def amount_checked (N : Nat) (x0 : Int) : Option (Int × Int) :=
  (amount_Valid N x0).bind fun r1 =>
  if (!r1) then
    some (0, 6)
  else
    some (x0, 0)

def amount_Scale (N : Nat) (x0 : Int) (x1 : Int) (x2 : Int) : Option (Int × Int) :=
  (amount_Valid N x0).bind fun r1 =>
  if (((((!r1) || (decide (x1 < 0))) || (decide (x1 > 1099511627776))) || (decide (x2 < 1))) || (decide (x2 > 1099511627776))) then
    some (0, 6)
  else
    (amount_divide N (if (IntKind.wrap .i64 (0 - x0)) > x0 then (IntKind.wrap .i64 (0 - x0)) else x0) x1 x2).bind fun (r2, r3) =>
    (if (decide (r3 ≥ (IntKind.wrap .i64 (x2 - r3)))) then
      some (IntKind.wrap .i64 (r2 + 1))
    else
      some r2 : Option ((Int))).bind fun v4 =>
    (if (decide (x0 < 0)) then
      some (IntKind.wrap .i64 (0 - v4))
    else
      some v4 : Option ((Int))).bind fun v5 =>
    (amount_checked N v5).bind fun (r6, r7) =>
    some (r6, r7)

def billingref01_Valid (N : Nat) (x0 : Int) : Option (Bool) :=
  some ((decide (x0 ≥ (-1125899906842624))) && (decide (x0 ≤ 1125899906842624)))

def billingref01_Divide_l1 (N : Nat) (x0 : Int) (x1 : Int) (x2 : Int) : (Int × Int × Int) → Option ((Int × Int × Int) ⊕ ((Int × Int))) := fun (v1, v2, v3) =>
  if (decide (v3 ≥ 0)) then
    (((shrW .i64 x0 (IntKind.wrap .u64 v3)).bind fun n4 =>
    if ((Go.bits .and .i64 n4 1) == 1) then
      some (IntKind.wrap .i64 ((IntKind.wrap .i64 (2 * v2)) + x1))
    else
      some (IntKind.wrap .i64 (2 * v2)) : Option ((Int))).bind fun v5 =>
    (quoW .i64 v5 x2).bind fun n6 =>
    (remW v5 x2).bind fun n7 =>
    if (decide ((IntKind.wrap .i64 ((IntKind.wrap .i64 (2 * v1)) + n6)) > 288230376151711744)) then
      some (288230376151711744, n7)
    else
      some ((IntKind.wrap .i64 ((IntKind.wrap .i64 (2 * v1)) + n6)), n7) : Option ((Int × Int))).bind fun (v8, v9) =>
    some (.inl (v8, v9, (IntKind.wrap .i64 (v3 - 1))))
  else
    some (.inr (v1, v2))
def billingref01_Divide (N : Nat) (x0 : Int) (x1 : Int) (x2 : Int) : Option (Int × Int) :=
  (loopN (billingref01_Divide_l1 N x0 x1 x2) N (0, 0, 50)).bind fun (v10, v11) =>
  some (v10, v11)

def billingref01_Scale_r (N : Nat) : Nat → Int → Int → Int → Option (Int × Int)
  | 0, _, _, _ => none
  | n + 1, x0, x1, x2 =>
    (billingref01_Valid N x0).bind fun r1 =>
    if (((((!r1) || (decide (x1 < 0))) || (decide (x1 > 1099511627776))) || (decide (x2 < 1))) || (decide (x2 > 1099511627776))) then
      some (0, 6)
    else
      if (decide (x0 < 0)) then
        (billingref01_Scale_r N n (IntKind.wrap .i64 (0 - x0)) x1 x2).bind fun (r2, r3) =>
        some ((IntKind.wrap .i64 (0 - r2)), r3)
      else
        (billingref01_Divide N x0 x1 x2).bind fun (r4, r5) =>
        (if (decide ((IntKind.wrap .i64 (2 * r5)) ≥ x2)) then
          some (IntKind.wrap .i64 (r4 + 1))
        else
          some r4 : Option ((Int))).bind fun v6 =>
        (billingref01_Valid N v6).bind fun r7 =>
        if (!r7) then
          some (0, 6)
        else
          some (v6, 0)
def billingref01_Scale (N : Nat) (x0 : Int) (x1 : Int) (x2 : Int) : Option (Int × Int) := billingref01_Scale_r N N x0 x1 x2

def amount_give_l3 (N : Nat) (v20 : (List Int)) : (Int × Int) → Option ((Int × Int) ⊕ ((Int))) := fun (v21, v22) =>
  if (decide (v22 < (List.length v20 : Int))) then
    ((idx v20 v22).bind fun _ =>
    (idx v20 v22).bind fun x23 =>
    (if (decide (x23 ≥ 0)) then
      (if (decide (v21 < 0)) then
        some true
      else
        (idx v20 v21).bind fun _ =>
        (idx v20 v21).bind fun x27 =>
        some (decide (x23 > x27)) : Option (Bool)).bind fun v28 =>
      some v28
    else
      some false : Option (Bool)).bind fun v29 =>
    if v29 then
      some v22
    else
      some v21 : Option ((Int))).bind fun v30 =>
    some (.inl (v30, (IntKind.wrap .i64 (v22 + 1))))
  else
    some (.inr v21)
def amount_give_l4 (N : Nat) : (Int × (List Int) × (List Int)) → Option ((Int × (List Int) × (List Int)) ⊕ (((List Int) × (List Int)) ⊕ ((List Int) × (List Int)))) := fun (v14, v19, v20) =>
  if (decide (v14 > 0)) then
    (loopN (amount_give_l3 N v20) N ((-1), 0)).bind fun v31 =>
    if (decide (v31 < 0)) then
      some (.inr (.inr (v19, v20)))
    else
      (idx v19 v31).bind fun _ =>
      (idx v19 v31).bind fun x32 =>
      (idx v19 v31).bind fun _ =>
      (idx v19 v31).bind fun y33 =>
      (idx v20 v31).bind fun _ =>
      (idx v20 v31).bind fun y34 =>
      some (.inl ((IntKind.wrap .i64 (v14 - 1)), (List.set v19 (Int.toNat v31) (IntKind.wrap .i64 (x32 + 1))), (List.set v20 (Int.toNat v31) (-1))))
  else
    some (.inr (.inl (v19, v20)))
def amount_give (N : Nat) (x2 : Int) (m5000 : (List Int)) (m5001 : (List Int)) : Option ((List Int) × (List Int)) :=
  (loopN (amount_give_l4 N) N (x2, m5000, m5001)).bind fun
    | .inl (v35, v36) =>
      some (v35, v36)
    | .inr (v37, v38) =>
      some (v37, v38)

def amount_Split_l1 (N : Nat) (x1 : (List Int)) : (Int × Int) → Option ((Int × Int) ⊕ ((Int) ⊕ (Int))) := fun (v2, v3) =>
  if (decide (v3 < (List.length x1 : Int))) then
    (idx x1 v3).bind fun x4 =>
    if ((decide (x4 < 0)) || (decide (x4 > 1099511627776))) then
      some (.inr (.inr 6))
    else
      some (.inl ((IntKind.wrap .i64 (v2 + x4)), (IntKind.wrap .i64 (v3 + 1))))
  else
    some (.inr (.inl v2))
def amount_Split_l2 (N : Nat) (x1 : (List Int)) (x0 : Int) (v5 : Int) : (Int × Int × (List Int) × (List Int)) → Option ((Int × Int × (List Int) × (List Int)) ⊕ ((Int × (List Int) × (List Int)))) := fun (v13, v14, v15, v16) =>
  if (decide (v14 < (List.length x1 : Int))) then
    (idx x1 v14).bind fun x17 =>
    (amount_divide N (if (IntKind.wrap .i64 (0 - x0)) > x0 then (IntKind.wrap .i64 (0 - x0)) else x0) x17 v5).bind fun (r18, r19) =>
    (idx v15 v14).bind fun _ =>
    (idx v15 v14).bind fun y20 =>
    (idx v16 v14).bind fun _ =>
    (idx v16 v14).bind fun y21 =>
    (idx (List.set v15 (Int.toNat v14) r18) v14).bind fun _ =>
    (idx (List.set v15 (Int.toNat v14) r18) v14).bind fun x22 =>
    some (.inl ((IntKind.wrap .i64 (v13 - x22)), (IntKind.wrap .i64 (v14 + 1)), (List.set v15 (Int.toNat v14) r18), (List.set v16 (Int.toNat v14) r19)))
  else
    some (.inr (v13, v15, v16))
def amount_Split_l3 (N : Nat) (r26 : (List Int)) : (Int × (List Int)) → Option ((Int × (List Int)) ⊕ (((List Int)))) := fun (v30, v31) =>
  if (decide (v30 < (List.length r26 : Int))) then
    (idx v31 v30).bind fun _ =>
    (idx v31 v30).bind fun x32 =>
    (idx v31 v30).bind fun _ =>
    (idx v31 v30).bind fun y33 =>
    some (.inl ((IntKind.wrap .i64 (v30 + 1)), (List.set v31 (Int.toNat v30) (IntKind.wrap .i64 (0 - x32)))))
  else
    some (.inr v31)
def amount_Split (N : Nat) (x0 : Int) (x1 : (List Int)) : Option (Int × (List Int)) :=
  if (decide ((List.length x1 : Int) > 64)) then
    some (5, ([] : (List Int)))
  else
    (amount_Valid N x0).bind fun r1 =>
    if (!r1) then
      some (6, ([] : (List Int)))
    else
      (loopN (amount_Split_l1 N x1) N (0, 0)).bind fun
        | .inl v5 =>
          if (v5 == 0) then
            some (8, ([] : (List Int)))
          else
            (mkL 8 (List.length x1 : Int) (List.length x1 : Int) 0).bind fun m6 =>
            (mkL 8 (List.length x1 : Int) (List.length x1 : Int) 0).bind fun m7 =>
            (loopN (amount_Split_l2 N x1 x0 v5) N ((if (IntKind.wrap .i64 (0 - x0)) > x0 then (IntKind.wrap .i64 (0 - x0)) else x0), 0, m6, m7)).bind fun (v23, v24, v25) =>
            (amount_give N v23 v24 v25).bind fun (r26, r27) =>
            (if (decide (x0 < 0)) then
              (loopN (amount_Split_l3 N r26) N (0, r26)).bind fun v34 =>
              some v34
            else
              some r26 : Option (((List Int)))).bind fun v35 =>
            some (0, v35)
        | .inr v36 =>
          some (v36, ([] : (List Int)))

def stringslite_HasPrefix (N : Nat) (x0 : Str) (x1 : Str) : Option (Bool) :=
  (if (decide ((List.length x0 : Int) ≥ (List.length x1 : Int))) then
    (slc x0 0 (List.length x1 : Int)).bind fun s2 =>
    some (s2 == x1)
  else
    some false : Option (Bool)).bind fun v3 =>
  some v3

def stringslite_TrimPrefix (N : Nat) (x0 : Str) (x1 : Str) : Option (Str) :=
  (stringslite_HasPrefix N x0 x1).bind fun r1 =>
  if r1 then
    (slc x0 (List.length x1 : Int) (List.length x0 : Int)).bind fun s2 =>
    some s2
  else
    some x0

def strings_TrimPrefix (N : Nat) (x0 : Str) (x1 : Str) : Option (Str) :=
  (stringslite_TrimPrefix N x0 x1).bind fun r1 =>
  some r1

def stringslite_Cut (N : Nat) (x0 : Str) (x1 : Str) : Option (Str × Str × Bool) :=
  (index1F x0 x1).bind fun r1 =>
  if (decide (r1 ≥ 0)) then
    (slc x0 0 r1).bind fun s2 =>
    (slc x0 (IntKind.wrap .i64 (r1 + (List.length x1 : Int))) (List.length x0 : Int)).bind fun s3 =>
    some (s2, s3, true)
  else
    some (x0, ([] : Str), false)

def strings_Cut (N : Nat) (x0 : Str) (x1 : Str) : Option (Str × Str × Bool) :=
  (stringslite_Cut N x0 x1).bind fun (r1, r2, r3) =>
  some (r1, r2, r3)

def amount_Parse_l1 (N : Nat) (s15 : Str) (r2 : Str) (r3 : Str) : (Int × Int) → Option ((Int × Int) ⊕ ((Int))) := fun (v16, v17) =>
  if (decide (v17 < (List.length s15 : Int))) then
    (scat r2 r3).bind fun s18 =>
    (sidx s18 v17).bind fun c19 =>
    some (.inl ((if 1125899906842625 < (IntKind.wrap .i64 ((IntKind.wrap .i64 (10 * v16)) + (IntKind.wrap .i64 (IntKind.wrap .u8 (c19 - 48))))) then 1125899906842625 else (IntKind.wrap .i64 ((IntKind.wrap .i64 (10 * v16)) + (IntKind.wrap .i64 (IntKind.wrap .u8 (c19 - 48)))))), (IntKind.wrap .i64 (v17 + 1))))
  else
    some (.inr v16)
def amount_Parse (N : Nat) (x0 : Str) : Option (Int × Int) :=
  (strings_TrimPrefix N x0 ([45] : Str)).bind fun r1 =>
  (strings_Cut N r1 ([46] : Str)).bind fun (r2, r3, r4) =>
  (if (((!r4) || ((List.length r3 : Int) != 4)) || (r2 == ([] : Str))) then
    some true
  else
    (scat r2 r3).bind fun s6 =>
    (trimF s6 ([48, 49, 50, 51, 52, 53, 54, 55, 56, 57] : Str)).bind fun r7 =>
    some (!(r7 == ([] : Str))) : Option (Bool)).bind fun v8 =>
  (if v8 then
    some true
  else
    (if (decide ((List.length r2 : Int) > 1)) then
      (sidx r2 0).bind fun c12 =>
      some (c12 == 48)
    else
      some false : Option (Bool)).bind fun v13 =>
    some v13 : Option (Bool)).bind fun v14 =>
  if v14 then
    some (0, 1)
  else
    (scat r2 r3).bind fun s15 =>
    (loopN (amount_Parse_l1 N s15 r2 r3) N (0, 0)).bind fun v20 =>
    (if (decide ((List.length r1 : Int) < (List.length x0 : Int))) then
      if (v20 == 0) then
        some (.inr (0, 1))
      else
        some (.inl (IntKind.wrap .i64 (0 - v20)))
    else
      some (.inl v20) : Option ((Int) ⊕ (Int × Int))).bind fun
      | .inl v21 =>
        (amount_checked N v21).bind fun (r22, r23) =>
        some (r22, r23)
      | .inr (v24, v25) =>
        some (v24, v25)

def billingref01_Same_l1 (N : Nat) (x0 : (List Int)) (x1 : (List Int)) : (Int) → Option ((Int) ⊕ ((Unit) ⊕ (Bool))) := fun v1 =>
  if (decide (v1 < (List.length x0 : Int))) then
    (idx x0 v1).bind fun x2 =>
    (idx x1 v1).bind fun x3 =>
    if (x2 != x3) then
      some (.inr (.inr false))
    else
      some (.inl (IntKind.wrap .i64 (v1 + 1)))
  else
    some (.inr (.inl ()))
def billingref01_Same (N : Nat) (x0 : (List Int)) (x1 : (List Int)) : Option (Bool) :=
  if ((List.length x0 : Int) != (List.length x1 : Int)) then
    some false
  else
    (loopN (billingref01_Same_l1 N x0 x1) N 0).bind fun
      | .inl _ =>
        some true
      | .inr v4 =>
        some v4

def amount_Text_l1 (N : Nat) (v2 : Int) : (Str × Int) → Option ((Str × Int) ⊕ ((Str))) := fun (v5, v6) =>
  if (decide (v6 ≥ 0)) then
    (idx gv0 v6).bind fun x7 =>
    (quoW .i64 v2 x7).bind fun n8 =>
    (itoaF (Int.tmod n8 10)).bind fun r9 =>
    (scat v5 r9).bind fun s10 =>
    some (.inl (s10, (IntKind.wrap .i64 (v6 - 1))))
  else
    some (.inr v5)
def amount_Text (N : Nat) (x0 : Int) : Option (Str) :=
  (itoaF (IntKind.wrap .i64 (Int.tdiv x0 10000))).bind fun r1 =>
  (if (decide (x0 < 0)) then
    if ((IntKind.wrap .i64 (Int.tdiv x0 10000)) == 0) then
      some ((IntKind.wrap .i64 (0 - (Int.tmod x0 10000))), ([45, 48] : Str))
    else
      some ((IntKind.wrap .i64 (0 - (Int.tmod x0 10000))), r1)
  else
    some ((Int.tmod x0 10000), r1) : Option ((Int × Str))).bind fun (v2, v3) =>
  (scat v3 ([46] : Str)).bind fun s4 =>
  (loopN (amount_Text_l1 N v2) N (s4, 3)).bind fun v11 =>
  some v11

def amount_Rounded (N : Nat) (x0 : Int) : Option (Int) :=
  (if (decide ((Int.tmod x0 10000) ≥ 5000)) then
    some (IntKind.wrap .i64 ((IntKind.wrap .i64 (Int.tdiv x0 10000)) + 1))
  else
    if (decide ((Int.tmod x0 10000) ≤ (-5000))) then
      some (IntKind.wrap .i64 ((IntKind.wrap .i64 (Int.tdiv x0 10000)) - 1))
    else
      some (IntKind.wrap .i64 (Int.tdiv x0 10000)) : Option ((Int))).bind fun v1 =>
  some v1

def amount_Round_l1 (N : Nat) (x0 : (List Int)) : (Int × Int × Int × (List Int) × (List Int)) → Option ((Int × Int × Int × (List Int) × (List Int)) ⊕ ((Int × Int × (List Int) × (List Int)) ⊕ (Unit))) := fun (v10, v11, v12, v13, v14) =>
  if (decide (v12 < (List.length x0 : Int))) then
    (idx x0 v12).bind fun x15 =>
    (amount_Valid N x15).bind fun r16 =>
    if (!r16) then
      some (.inr (.inr ()))
    else
      (idx v14 v12).bind fun _ =>
      (idx v14 v12).bind fun y17 =>
      (idx (List.set v14 (Int.toNat v12) (Int.tmod (IntKind.wrap .i64 ((Int.tmod x15 10000) + 10000)) 10000)) v12).bind fun _ =>
      (idx (List.set v14 (Int.toNat v12) (Int.tmod (IntKind.wrap .i64 ((Int.tmod x15 10000) + 10000)) 10000)) v12).bind fun x18 =>
      (idx v13 v12).bind fun _ =>
      (idx v13 v12).bind fun y19 =>
      (idx (List.set v13 (Int.toNat v12) (IntKind.wrap .i64 (Int.tdiv (IntKind.wrap .i64 (x15 - x18)) 10000))) v12).bind fun _ =>
      (idx (List.set v13 (Int.toNat v12) (IntKind.wrap .i64 (Int.tdiv (IntKind.wrap .i64 (x15 - x18)) 10000))) v12).bind fun x20 =>
      some (.inl ((IntKind.wrap .i64 (v10 + x15)), (IntKind.wrap .i64 (v11 + x20)), (IntKind.wrap .i64 (v12 + 1)), (List.set v13 (Int.toNat v12) (IntKind.wrap .i64 (Int.tdiv (IntKind.wrap .i64 (x15 - x18)) 10000))), (List.set v14 (Int.toNat v12) (Int.tmod (IntKind.wrap .i64 ((Int.tmod x15 10000) + 10000)) 10000))))
  else
    some (.inr (.inl (v10, v11, v13, v14)))
def amount_Round (N : Nat) (x0 : (List Int)) : Option ((List Int)) :=
  if (decide ((List.length x0 : Int) > 4096)) then
    some ([] : (List Int))
  else
    (mkL 8 (List.length x0 : Int) (List.length x0 : Int) 0).bind fun m1 =>
    (mkL 8 (List.length x0 : Int) (List.length x0 : Int) 0).bind fun m2 =>
    (loopN (amount_Round_l1 N x0) N (0, 0, 0, m1, m2)).bind fun
      | .inl (v21, v22, v23, v24) =>
        (amount_Rounded N v21).bind fun r25 =>
        (amount_give N (IntKind.wrap .i64 (r25 - v22)) v23 v24).bind fun (r26, r27) =>
        some r26
      | .inr _ =>
        some ([] : (List Int))

def billinglaw01_awake (N : Nat) : Option (Bool) :=
  (amount_Scale N (-45) 1000 10000).bind fun (r1, r2) =>
  (amount_Split N 100 ([1, 1, 1] : (List Int))).bind fun (r3, r4) =>
  (amount_Parse N ([48, 49, 50, 46, 48, 52, 53, 48] : Str)).bind fun (r5, r6) =>
  (if (((r1 == (-5)) && (r2 == 0)) && (r3 == 0)) then
    (billingref01_Same N r4 ([34, 33, 33] : (List Int))).bind fun r8 =>
    some r8
  else
    some false : Option (Bool)).bind fun v9 =>
  (if (v9 && (r6 == 1)) then
    (amount_Text N 120450).bind fun r11 =>
    some (r11 == ([49, 50, 46, 48, 52, 53, 48] : Str))
  else
    some false : Option (Bool)).bind fun v12 =>
  (if v12 then
    (amount_Round N ([4000, 4000, 4000] : (List Int))).bind fun r15 =>
    (billingref01_Same N r15 ([1, 0, 0] : (List Int))).bind fun r16 =>
    some r16
  else
    some false : Option (Bool)).bind fun v17 =>
  some v17

def billinglaw01_AmountScales (N : Nat) (x0 : Int) (x1 : Int) (x2 : Int) : Option (Bool) :=
  (amount_Scale N x0 x1 x2).bind fun (r1, r2) =>
  (billingref01_Scale N x0 x1 x2).bind fun (r3, r4) =>
  (if ((r1 == r3) && (r2 == r4)) then
    (billinglaw01_awake N).bind fun r6 =>
    some r6
  else
    some false : Option (Bool)).bind fun v7 =>
  some v7

def billingref01_Rounded (N : Nat) (x0 : Int) : Option (Int) :=
  if (decide ((IntKind.wrap .i64 (2 * (Int.tmod x0 10000))) ≥ 10000)) then
    some (IntKind.wrap .i64 ((IntKind.wrap .i64 (Int.tdiv x0 10000)) + 1))
  else
    if (decide ((IntKind.wrap .i64 (2 * (Int.tmod x0 10000))) ≤ (-10000))) then
      some (IntKind.wrap .i64 ((IntKind.wrap .i64 (Int.tdiv x0 10000)) - 1))
    else
      some (IntKind.wrap .i64 (Int.tdiv x0 10000))

def billingref01_Give_l3 (N : Nat) (v13 : (List Int)) : (Int × Int) → Option ((Int × Int) ⊕ ((Int))) := fun (v14, v19) =>
  if (decide (v19 < (List.length v13 : Int))) then
    ((idx v13 v19).bind fun _ =>
    (idx v13 v19).bind fun x25 =>
    (if (decide (x25 ≥ 0)) then
      (if (decide (v14 < 0)) then
        some true
      else
        (idx v13 v19).bind fun _ =>
        (idx v13 v19).bind fun x33 =>
        (idx v13 v14).bind fun _ =>
        (idx v13 v14).bind fun x34 =>
        some (decide (x33 > x34)) : Option (Bool)).bind fun v35 =>
      some v35
    else
      some false : Option (Bool)).bind fun v36 =>
    if v36 then
      some v19
    else
      some v14 : Option ((Int))).bind fun v37 =>
    some (.inl (v37, (IntKind.wrap .i64 (v19 + 1))))
  else
    some (.inr v14)
def billingref01_Give_l4 (N : Nat) : (Int × (List Int) × (List Int)) → Option ((Int × (List Int) × (List Int)) ⊕ (((List Int)) ⊕ ((List Int)))) := fun (v10, v12, v13) =>
  if (decide (v10 > 0)) then
    (loopN (billingref01_Give_l3 N v13) N ((-1), 0)).bind fun v38 =>
    if (decide (v38 < 0)) then
      some (.inr (.inr v12))
    else
      (idx v12 v38).bind fun _ =>
      (idx v12 v38).bind fun x39 =>
      (idx v12 v38).bind fun _ =>
      (idx v12 v38).bind fun y40 =>
      (idx v13 v38).bind fun _ =>
      (idx v13 v38).bind fun y41 =>
      some (.inl ((IntKind.wrap .i64 (v10 - 1)), (List.set v12 (Int.toNat v38) (IntKind.wrap .i64 (x39 + 1))), (List.set v13 (Int.toNat v38) (-1))))
  else
    some (.inr (.inl v12))
def billingref01_Give (N : Nat) (x0 : (List Int)) (x1 : (List Int)) (x2 : Int) : Option ((List Int)) :=
  (app 8 ([] : (List Int)) x0).bind fun q1 =>
  (app 8 ([] : (List Int)) x1).bind fun q2 =>
  (loopN (billingref01_Give_l4 N) N (x2, q1, q2)).bind fun
    | .inl v42 =>
      some v42
    | .inr v43 =>
      some v43

def billingref01_Round_l1 (N : Nat) (x0 : (List Int)) : (Int × Int × Int × (List Int) × (List Int)) → Option ((Int × Int × Int × (List Int) × (List Int)) ⊕ ((Int × Int × (List Int) × (List Int)) ⊕ (Unit))) := fun (v1, v2, v3, v4, v5) =>
  if (decide (v3 < (List.length x0 : Int))) then
    (idx x0 v3).bind fun x6 =>
    (billingref01_Valid N x6).bind fun r7 =>
    if (!r7) then
      some (.inr (.inr ()))
    else
      (idx x0 v3).bind fun x8 =>
      (idx x0 v3).bind fun x9 =>
      (app 8 v4 ([(IntKind.wrap .i64 (Int.tdiv (IntKind.wrap .i64 (x9 - (Int.tmod (IntKind.wrap .i64 ((Int.tmod x8 10000) + 10000)) 10000))) 10000))] : (List Int))).bind fun q10 =>
      (app 8 v5 ([(Int.tmod (IntKind.wrap .i64 ((Int.tmod x8 10000) + 10000)) 10000)] : (List Int))).bind fun q11 =>
      (idx x0 v3).bind fun x12 =>
      some (.inl ((IntKind.wrap .i64 (v1 + x12)), (IntKind.wrap .i64 (v2 + (IntKind.wrap .i64 (Int.tdiv (IntKind.wrap .i64 (x9 - (Int.tmod (IntKind.wrap .i64 ((Int.tmod x8 10000) + 10000)) 10000))) 10000)))), (IntKind.wrap .i64 (v3 + 1)), q10, q11))
  else
    some (.inr (.inl (v1, v2, v4, v5)))
def billingref01_Round (N : Nat) (x0 : (List Int)) : Option ((List Int)) :=
  if (decide ((List.length x0 : Int) > 4096)) then
    some ([] : (List Int))
  else
    (loopN (billingref01_Round_l1 N x0) N (0, 0, 0, ([] : (List Int)), ([] : (List Int)))).bind fun
      | .inl (v13, v14, v15, v16) =>
        (billingref01_Rounded N v13).bind fun r17 =>
        (billingref01_Give N v15 v16 (IntKind.wrap .i64 (r17 - v14))).bind fun r18 =>
        some r18
      | .inr _ =>
        some ([] : (List Int))

def billinglaw01_AmountRounds (N : Nat) (x0 : Int) (x1 : (List Int)) : Option (Bool) :=
  if (decide ((List.length x1 : Int) > 200)) then
    (billinglaw01_awake N).bind fun r1 =>
    some r1
  else
    (amount_Rounded N x0).bind fun r2 =>
    (billingref01_Rounded N x0).bind fun r3 =>
    (if (r2 == r3) then
      (app 8 ([] : (List Int)) x1).bind fun q5 =>
      (amount_Round N q5).bind fun r8 =>
      (billingref01_Round N x1).bind fun r9 =>
      (billingref01_Same N r8 r9).bind fun r10 =>
      some r10
    else
      some false : Option (Bool)).bind fun v11 =>
    (if v11 then
      (billinglaw01_awake N).bind fun r13 =>
      some r13
    else
      some false : Option (Bool)).bind fun v14 =>
    some v14

def billinglaw01_AmountTotals_l1 (N : Nat) (x0 : (List Int)) : (Int × Int) → Option ((Int × Int) ⊕ ((Int) ⊕ (Bool))) := fun (v2, v3) =>
  if (decide (v3 < (List.length x0 : Int))) then
    (idx x0 v3).bind fun x4 =>
    (billingref01_Valid N x4).bind fun r5 =>
    if (!r5) then
      (billinglaw01_awake N).bind fun r6 =>
      some (.inr (.inr r6))
    else
      (idx x0 v3).bind fun x7 =>
      some (.inl ((IntKind.wrap .i64 (v2 + x7)), (IntKind.wrap .i64 (v3 + 1))))
  else
    some (.inr (.inl v2))
def billinglaw01_AmountTotals_l2 (N : Nat) (r10 : (List Int)) (x0 : (List Int)) : (Int × Int) → Option ((Int × Int) ⊕ ((Int) ⊕ (Bool))) := fun (v11, v12) =>
  if (decide (v12 < (List.length r10 : Int))) then
    (idx r10 v12).bind fun _ =>
    (idx r10 v12).bind fun x13 =>
    (if (decide (x13 < (-1125899906842624))) then
      some true
    else
      (idx r10 v12).bind fun _ =>
      (idx r10 v12).bind fun x15 =>
      some (decide (x15 > 1125899906842624)) : Option (Bool)).bind fun v16 =>
    if v16 then
      some (.inr (.inr false))
    else
      (idx x0 v12).bind fun x17 =>
      (idx r10 v12).bind fun _ =>
      (idx r10 v12).bind fun x18 =>
      if ((decide ((IntKind.wrap .i64 (x17 - (IntKind.wrap .i64 (x18 * 10000)))) ≤ (-10000))) || (decide ((IntKind.wrap .i64 (x17 - (IntKind.wrap .i64 (x18 * 10000)))) ≥ 10000))) then
        some (.inr (.inr false))
      else
        (idx r10 v12).bind fun _ =>
        (idx r10 v12).bind fun x19 =>
        some (.inl ((IntKind.wrap .i64 (v11 + x19)), (IntKind.wrap .i64 (v12 + 1))))
  else
    some (.inr (.inl v11))
def billinglaw01_AmountTotals (N : Nat) (x0 : (List Int)) : Option (Bool) :=
  if (decide ((List.length x0 : Int) > 200)) then
    (billinglaw01_awake N).bind fun r1 =>
    some r1
  else
    (loopN (billinglaw01_AmountTotals_l1 N x0) N (0, 0)).bind fun
      | .inl v8 =>
        (app 8 ([] : (List Int)) x0).bind fun q9 =>
        (amount_Round N q9).bind fun r10 =>
        if ((List.length r10 : Int) != (List.length x0 : Int)) then
          some false
        else
          (loopN (billinglaw01_AmountTotals_l2 N r10 x0) N (0, 0)).bind fun
            | .inl v20 =>
              (amount_Rounded N v8).bind fun r21 =>
              (if (v20 == r21) then
                (billinglaw01_awake N).bind fun r23 =>
                some r23
              else
                some false : Option (Bool)).bind fun v24 =>
              some v24
            | .inr v25 =>
              some v25
      | .inr v26 =>
        some v26

def billingref01_Split_l1 (N : Nat) (x1 : (List Int)) : (Int × Int) → Option ((Int × Int) ⊕ ((Int) ⊕ (Int))) := fun (v2, v3) =>
  if (decide (v3 < (List.length x1 : Int))) then
    (idx x1 v3).bind fun x4 =>
    (if (decide (x4 < 0)) then
      some true
    else
      (idx x1 v3).bind fun x6 =>
      some (decide (x6 > 1099511627776)) : Option (Bool)).bind fun v7 =>
    if v7 then
      some (.inr (.inr 6))
    else
      (idx x1 v3).bind fun x8 =>
      some (.inl ((IntKind.wrap .i64 (v2 + x8)), (IntKind.wrap .i64 (v3 + 1))))
  else
    some (.inr (.inl v2))
def billingref01_Split_l2 (N : Nat) (x1 : (List Int)) (v10 : Int) (v9 : Int) : (Int × Int × (List Int) × (List Int)) → Option ((Int × Int × (List Int) × (List Int)) ⊕ ((Int × (List Int) × (List Int)))) := fun (v12, v13, v14, v15) =>
  if (decide (v13 < (List.length x1 : Int))) then
    (idx x1 v13).bind fun x16 =>
    (billingref01_Divide N v10 x16 v9).bind fun (r17, r18) =>
    (app 8 v14 ([r17] : (List Int))).bind fun q19 =>
    (app 8 v15 ([r18] : (List Int))).bind fun q20 =>
    some (.inl ((IntKind.wrap .i64 (v12 + r17)), (IntKind.wrap .i64 (v13 + 1)), q19, q20))
  else
    some (.inr (v12, v14, v15))
def billingref01_Split_l3 (N : Nat) (v11 : Int) : (Int × (List Int)) → Option ((Int × (List Int)) ⊕ (((List Int)))) := fun (v26, v27) =>
  if (decide (v26 < (List.length v27 : Int))) then
    (idx v27 v26).bind fun _ =>
    (idx v27 v26).bind fun x28 =>
    (idx v27 v26).bind fun _ =>
    (idx v27 v26).bind fun y29 =>
    some (.inl ((IntKind.wrap .i64 (v26 + 1)), (List.set v27 (Int.toNat v26) (IntKind.wrap .i64 (v11 * x28)))))
  else
    some (.inr v27)
def billingref01_Split (N : Nat) (x0 : Int) (x1 : (List Int)) : Option (Int × (List Int)) :=
  if (decide ((List.length x1 : Int) > 64)) then
    some (5, ([] : (List Int)))
  else
    (billingref01_Valid N x0).bind fun r1 =>
    if (!r1) then
      some (6, ([] : (List Int)))
    else
      (loopN (billingref01_Split_l1 N x1) N (0, 0)).bind fun
        | .inl v9 =>
          if (v9 == 0) then
            some (8, ([] : (List Int)))
          else
            (if (decide (x0 < 0)) then
              some ((IntKind.wrap .i64 (0 - x0)), (-1))
            else
              some (x0, 1) : Option ((Int × Int))).bind fun (v10, v11) =>
            (loopN (billingref01_Split_l2 N x1 v10 v9) N (0, 0, ([] : (List Int)), ([] : (List Int)))).bind fun (v21, v22, v23) =>
            (billingref01_Give N v22 v23 (IntKind.wrap .i64 (v10 - v21))).bind fun r24 =>
            (loopN (billingref01_Split_l3 N v11) N (0, r24)).bind fun v30 =>
            some (0, v30)
        | .inr v31 =>
          some (v31, ([] : (List Int)))

def billinglaw01_AmountDivides (N : Nat) (x0 : Int) (x1 : (List Int)) : Option (Bool) :=
  if (decide ((List.length x1 : Int) > 200)) then
    (billinglaw01_awake N).bind fun r1 =>
    some r1
  else
    (app 8 ([] : (List Int)) x1).bind fun q2 =>
    (amount_Split N x0 q2).bind fun (r3, r4) =>
    (billingref01_Split N x0 x1).bind fun (r5, r6) =>
    (if (r3 == r5) then
      (billingref01_Same N r4 r6).bind fun r8 =>
      some r8
    else
      some false : Option (Bool)).bind fun v9 =>
    (if v9 then
      (billinglaw01_awake N).bind fun r11 =>
      some r11
    else
      some false : Option (Bool)).bind fun v12 =>
    some v12

def billinglaw01_AmountSplit_l1 (N : Nat) (x1 : (List Int)) : (Int × Int) → Option ((Int × Int) ⊕ ((Int))) := fun (v8, v9) =>
  if (decide (v9 < (List.length x1 : Int))) then
    (idx x1 v9).bind fun x10 =>
    some (.inl ((IntKind.wrap .i64 (v8 + x10)), (IntKind.wrap .i64 (v9 + 1))))
  else
    some (.inr v8)
def billinglaw01_AmountSplit_l2 (N : Nat) (r4 : (List Int)) (x0 : Int) (x1 : (List Int)) (v11 : Int) : (Int × Int) → Option ((Int × Int) ⊕ ((Int) ⊕ (Bool))) := fun (v15, v16) =>
  if (decide (v16 < (List.length r4 : Int))) then
    (idx r4 v16).bind fun _ =>
    (idx r4 v16).bind fun x17 =>
    (billingref01_Valid N x17).bind fun r18 =>
    if (!r18) then
      some (.inr (.inr false))
    else
      (idx r4 v16).bind fun _ =>
      (idx r4 v16).bind fun x19 =>
      (idx r4 v16).bind fun _ =>
      (idx r4 v16).bind fun x20 =>
      (if (decide (x0 < 0)) then
        (idx r4 v16).bind fun _ =>
        (idx r4 v16).bind fun x21 =>
        some ((IntKind.wrap .i64 (0 - x0)), (IntKind.wrap .i64 (0 - x21)))
      else
        some (x0, x20) : Option ((Int × Int))).bind fun (v22, v23) =>
      (idx x1 v16).bind fun x24 =>
      (billingref01_Divide N v22 x24 v11).bind fun (r25, r26) =>
      if ((v23 != r25) && ((v23 != (IntKind.wrap .i64 (r25 + 1))) || (r26 == 0))) then
        some (.inr (.inr false))
      else
        some (.inl ((IntKind.wrap .i64 (v15 + x19)), (IntKind.wrap .i64 (v16 + 1))))
  else
    some (.inr (.inl v15))
def billinglaw01_AmountSplit (N : Nat) (x0 : Int) (x1 : (List Int)) : Option (Bool) :=
  if (decide ((List.length x1 : Int) > 200)) then
    (billinglaw01_awake N).bind fun r1 =>
    some r1
  else
    (app 8 ([] : (List Int)) x1).bind fun q2 =>
    (amount_Split N x0 q2).bind fun (r3, r4) =>
    if (r3 != 0) then
      (if ((List.length r4 : Int) == 0) then
        (billinglaw01_awake N).bind fun r6 =>
        some r6
      else
        some false : Option (Bool)).bind fun v7 =>
      some v7
    else
      (loopN (billinglaw01_AmountSplit_l1 N x1) N (0, 0)).bind fun v11 =>
      (if ((List.length r4 : Int) != (List.length x1 : Int)) then
        some true
      else
        (billingref01_Valid N x0).bind fun r13 =>
        some (!r13) : Option (Bool)).bind fun v14 =>
      if (v14 || (v11 == 0)) then
        some false
      else
        (loopN (billinglaw01_AmountSplit_l2 N r4 x0 x1 v11) N (0, 0)).bind fun
          | .inl v27 =>
            (if (v27 == x0) then
              (billinglaw01_awake N).bind fun r29 =>
              some r29
            else
              some false : Option (Bool)).bind fun v30 =>
            some v30
          | .inr v31 =>
            some v31

def billingref01_Number_l1 (N : Nat) : (Int × Str) → Option ((Int × Str) ⊕ ((Str))) := fun (v1, v2) =>
  if (decide (v1 > 0)) then
    (scat (bstr ([(IntKind.wrap .u8 (IntKind.wrap .i64 (48 + (Int.tmod v1 10))))] : (List Int))) v2).bind fun s3 =>
    some (.inl ((IntKind.wrap .i64 (Int.tdiv v1 10)), s3))
  else
    some (.inr v2)
def billingref01_Number (N : Nat) (x0 : Int) : Option (Str) :=
  (loopN (billingref01_Number_l1 N) N ((IntKind.wrap .i64 (Int.tdiv x0 10)), (bstr ([(IntKind.wrap .u8 (IntKind.wrap .i64 (48 + (Int.tmod x0 10))))] : (List Int))))).bind fun v4 =>
  some v4

def billingref01_Text (N : Nat) (x0 : Int) : Option (Str) :=
  (if (decide (x0 < 0)) then
    some ((IntKind.wrap .i64 (0 - (IntKind.wrap .i64 (Int.tdiv x0 10000)))), (IntKind.wrap .i64 (0 - (Int.tmod x0 10000))), ([45] : Str))
  else
    some ((IntKind.wrap .i64 (Int.tdiv x0 10000)), (Int.tmod x0 10000), ([] : Str)) : Option ((Int × Int × Str))).bind fun (v1, v2, v3) =>
  (billingref01_Number N v1).bind fun r4 =>
  (scat v3 r4).bind fun s5 =>
  (scat s5 ([46] : Str)).bind fun s6 =>
  (billingref01_Number N (IntKind.wrap .i64 (10000 + v2))).bind fun r7 =>
  (slc r7 1 (List.length r7 : Int)).bind fun s8 =>
  (scat s6 s8).bind fun s9 =>
  some s9

def billinglaw01_AmountBack (N : Nat) (x0 : Int) : Option (Bool) :=
  (amount_Text N x0).bind fun r1 =>
  (amount_Parse N r1).bind fun (r2, r3) =>
  (amount_Text N x0).bind fun r4 =>
  (billingref01_Text N x0).bind fun r5 =>
  if (!(r4 == r5)) then
    some false
  else
    (billingref01_Valid N x0).bind fun r6 =>
    if r6 then
      (if ((r3 == 0) && (r2 == x0)) then
        (billinglaw01_awake N).bind fun r8 =>
        some r8
      else
        some false : Option (Bool)).bind fun v9 =>
      some v9
    else
      (if ((r3 == 6) && (r2 == 0)) then
        (billinglaw01_awake N).bind fun r11 =>
        some r11
      else
        some false : Option (Bool)).bind fun v12 =>
      some v12

def billingref01_Parse_l1 (N : Nat) (v5 : Str) : (Int × Bool × Int) → Option ((Int × Bool × Int) ⊕ ((Int × Bool) ⊕ (Int × Int))) := fun (v12, v13, v14) =>
  if (decide (v14 < (List.length v5 : Int))) then
    (if (v14 == (IntKind.wrap .i64 ((List.length v5 : Int) - 5))) then
      some (.inl (v12, v13))
    else
      (sidx v5 v14).bind fun c15 =>
      (if (decide (c15 < 48)) then
        some true
      else
        (sidx v5 v14).bind fun c17 =>
        some (decide (c17 > 57)) : Option (Bool)).bind fun v18 =>
      if v18 then
        some (.inr (0, 1))
      else
        (sidx v5 v14).bind fun c19 =>
        if (decide ((IntKind.wrap .i64 ((IntKind.wrap .i64 (10 * v12)) + (IntKind.wrap .i64 (IntKind.wrap .u8 (c19 - 48))))) > 1125899906842624)) then
          some (.inl (1125899906842624, true))
        else
          some (.inl ((IntKind.wrap .i64 ((IntKind.wrap .i64 (10 * v12)) + (IntKind.wrap .i64 (IntKind.wrap .u8 (c19 - 48))))), v13)) : Option ((Int × Bool) ⊕ (Int × Int))).bind fun
      | .inl (v20, v21) =>
        some (.inl (v20, v21, (IntKind.wrap .i64 (v14 + 1))))
      | .inr (v22, v23) =>
        some (.inr (.inr (v22, v23)))
  else
    some (.inr (.inl (v12, v13)))
def billingref01_Parse (N : Nat) (x0 : Str) : Option (Int × Int) :=
  (if (decide ((List.length x0 : Int) > 0)) then
    (sidx x0 0).bind fun c2 =>
    some (c2 == 45)
  else
    some false : Option (Bool)).bind fun v3 =>
  (if v3 then
    (slc x0 1 (List.length x0 : Int)).bind fun s4 =>
    some s4
  else
    some x0 : Option ((Str))).bind fun v5 =>
  (if (decide ((List.length v5 : Int) < 6)) then
    some true
  else
    (sidx v5 (IntKind.wrap .i64 ((List.length v5 : Int) - 5))).bind fun c7 =>
    some (c7 != 46) : Option (Bool)).bind fun v8 =>
  (if v8 then
    some true
  else
    (sidx v5 0).bind fun c10 =>
    some ((c10 == 48) && (decide ((List.length v5 : Int) > 6))) : Option (Bool)).bind fun v11 =>
  if v11 then
    some (0, 1)
  else
    (loopN (billingref01_Parse_l1 N v5) N (0, false, 0)).bind fun
      | .inl (v24, v25) =>
        if v25 then
          some (0, 6)
        else
          if (v3 && (v24 == 0)) then
            some (0, 1)
          else
            if v3 then
              some ((IntKind.wrap .i64 (0 - v24)), 0)
            else
              some (v24, 0)
      | .inr (v26, v27) =>
        some (v26, v27)

def billinglaw01_AmountParses (N : Nat) (x0 : Str) : Option (Bool) :=
  if (decide ((List.length x0 : Int) > 200)) then
    (billinglaw01_awake N).bind fun r1 =>
    some r1
  else
    (amount_Parse N x0).bind fun (r2, r3) =>
    (billingref01_Parse N x0).bind fun (r4, r5) =>
    (if ((r2 == r4) && (r3 == r5)) then
      (billinglaw01_awake N).bind fun r7 =>
      some r7
    else
      some false : Option (Bool)).bind fun v8 =>
    some v8

def amount_Percent (N : Nat) (x0 : Int) (x1 : Int) : Option (Int × Int) :=
  if ((decide (x1 < 0)) || (decide (x1 > 10000))) then
    some (0, 6)
  else
    (amount_Scale N x0 x1 10000).bind fun (r1, r2) =>
    some (r1, r2)

def billingref01_Percent (N : Nat) (x0 : Int) (x1 : Int) : Option (Int × Int) :=
  if ((decide (x1 < 0)) || (decide (x1 > 10000))) then
    some (0, 6)
  else
    (billingref01_Scale N x0 x1 10000).bind fun (r1, r2) =>
    some (r1, r2)

def billinglaw01_AmountPercents (N : Nat) (x0 : Int) (x1 : Int) : Option (Bool) :=
  (amount_Percent N x0 x1).bind fun (r1, r2) =>
  (billingref01_Percent N x0 x1).bind fun (r3, r4) =>
  (amount_Percent N x0 10000).bind fun (r5, r6) =>
  (billingref01_Valid N x0).bind fun r7 =>
  if ((r7 != (r6 == 0)) || ((r6 == 0) && (r5 != x0))) then
    some false
  else
    (if ((r1 == r3) && (r2 == r4)) then
      (billinglaw01_awake N).bind fun r9 =>
      some r9
    else
      some false : Option (Bool)).bind fun v10 =>
    some v10

def amount_Add (N : Nat) (x0 : Int) (x1 : Int) : Option (Int × Int) :=
  (amount_Valid N x0).bind fun r1 =>
  (if (!r1) then
    some true
  else
    (amount_Valid N x1).bind fun r3 =>
    some (!r3) : Option (Bool)).bind fun v4 =>
  if v4 then
    some (0, 6)
  else
    (amount_checked N (IntKind.wrap .i64 (x0 + x1))).bind fun (r5, r6) =>
    some (r5, r6)

def billingref01_Add (N : Nat) (x0 : Int) (x1 : Int) : Option (Int × Int) :=
  (billingref01_Valid N x0).bind fun r1 =>
  (if (!r1) then
    some true
  else
    (billingref01_Valid N x1).bind fun r3 =>
    some (!r3) : Option (Bool)).bind fun v4 =>
  (if v4 then
    some true
  else
    (billingref01_Valid N (IntKind.wrap .i64 (x0 + x1))).bind fun r6 =>
    some (!r6) : Option (Bool)).bind fun v7 =>
  if v7 then
    some (0, 6)
  else
    some ((IntKind.wrap .i64 (x0 + x1)), 0)

def amount_Sum_l1 (N : Nat) (x0 : (List Int)) : (Int × Int) → Option ((Int × Int) ⊕ ((Int) ⊕ (Int × Int))) := fun (v1, v2) =>
  if (decide (v2 < (List.length x0 : Int))) then
    (idx x0 v2).bind fun x3 =>
    (amount_Valid N x3).bind fun r4 =>
    if (!r4) then
      some (.inr (.inr (0, 6)))
    else
      some (.inl ((IntKind.wrap .i64 (v1 + x3)), (IntKind.wrap .i64 (v2 + 1))))
  else
    some (.inr (.inl v1))
def amount_Sum (N : Nat) (x0 : (List Int)) : Option (Int × Int) :=
  if (decide ((List.length x0 : Int) > 4096)) then
    some (0, 5)
  else
    (loopN (amount_Sum_l1 N x0) N (0, 0)).bind fun
      | .inl v5 =>
        (amount_checked N v5).bind fun (r6, r7) =>
        some (r6, r7)
      | .inr (v8, v9) =>
        some (v8, v9)

def billingref01_Sum_l1 (N : Nat) (x0 : (List Int)) : (Int × Int) → Option ((Int × Int) ⊕ ((Int) ⊕ (Int × Int))) := fun (v1, v2) =>
  if (decide (v2 < (List.length x0 : Int))) then
    (idx x0 v2).bind fun x3 =>
    (billingref01_Valid N x3).bind fun r4 =>
    if (!r4) then
      some (.inr (.inr (0, 6)))
    else
      (idx x0 v2).bind fun x5 =>
      some (.inl ((IntKind.wrap .i64 (v1 + x5)), (IntKind.wrap .i64 (v2 + 1))))
  else
    some (.inr (.inl v1))
def billingref01_Sum (N : Nat) (x0 : (List Int)) : Option (Int × Int) :=
  if (decide ((List.length x0 : Int) > 4096)) then
    some (0, 5)
  else
    (loopN (billingref01_Sum_l1 N x0) N (0, 0)).bind fun
      | .inl v6 =>
        (billingref01_Valid N v6).bind fun r7 =>
        if (!r7) then
          some (0, 6)
        else
          some (v6, 0)
      | .inr (v8, v9) =>
        some (v8, v9)

def billinglaw01_AmountAdds (N : Nat) (x0 : Int) (x1 : Int) (x2 : (List Int)) : Option (Bool) :=
  if ((decide ((List.length x2 : Int) > 200)) && (decide ((List.length x2 : Int) ≤ 4096))) then
    (billinglaw01_awake N).bind fun r1 =>
    some r1
  else
    (amount_Add N x0 x1).bind fun (r2, r3) =>
    (billingref01_Add N x0 x1).bind fun (r4, r5) =>
    (app 8 ([] : (List Int)) x2).bind fun q6 =>
    (amount_Sum N q6).bind fun (r7, r8) =>
    (billingref01_Sum N x2).bind fun (r9, r10) =>
    (if ((((r2 == r4) && (r3 == r5)) && (r7 == r9)) && (r8 == r10)) then
      (amount_Valid N x0).bind fun r13 =>
      (billingref01_Valid N x0).bind fun r14 =>
      some (r13 == r14)
    else
      some false : Option (Bool)).bind fun v15 =>
    (if v15 then
      (billinglaw01_awake N).bind fun r17 =>
      some r17
    else
      some false : Option (Bool)).bind fun v18 =>
    some v18

end Gx
