/- The Go functions as Lean functions. -/
import Derived.Test.YteiofmonhoddfaaGLaws
namespace Gd
open Go
set_option linter.unusedVariables false
structure ApiPost where
  Account : Str
  Amount : Int
def rApiPost : RT ApiPost := rStruct [⟨Str, rStr, fun x => x.Account⟩, ⟨Int, (rInt .i64), fun x => x.Amount⟩]
def goodApiPost (x : ApiPost) : Prop := goodS x.Account ∧ goodI .i64 x.Amount
theorem ex_ApiPost {ok : Ok} {w : World} {x : ApiPost} {v : Value} (h : isV rApiPost ok w x v) : v = .agg ⟨[strV x.Account, .int .i64 x.Amount]⟩ := by
  obtain ⟨cs, hr, rfl⟩ := h
  obtain ⟨_, _, rfl, rfl, _, _, rfl, rfl, rfl⟩ := hr
  exact rfl
theorem im_ApiPost {ok : Ok} {w : World} {x : ApiPost} : isV rApiPost ok w x (.agg ⟨[strV x.Account, .int .i64 x.Amount]⟩) :=
  ⟨[strV x.Account, .int .i64 x.Amount], ⟨[_], _, rfl, rfl, [_], _, rfl, rfl, rfl⟩, rfl⟩

structure ApiEntry where
  At : Int
  Text : Str
  Posts : (List ApiPost)
def rApiEntry : RT ApiEntry := rStruct [⟨Int, (rInt .i64), fun x => x.At⟩, ⟨Str, rStr, fun x => x.Text⟩, ⟨(List ApiPost), (rSl rApiPost), fun x => x.Posts⟩]
def goodApiEntry (x : ApiEntry) : Prop := goodI .i64 x.At ∧ goodS x.Text ∧ goodL goodApiPost x.Posts
theorem ex_ApiEntry {ok : Ok} {w : World} {x : ApiEntry} {v : Value} (h : isV rApiEntry ok w x v) : ∃ v0, isV (rSl rApiPost) ok w x.Posts v0 ∧ v = .agg ⟨[.int .i64 x.At, strV x.Text, v0]⟩ := by
  obtain ⟨cs, hr, rfl⟩ := h
  obtain ⟨_, _, rfl, rfl, _, _, rfl, rfl, _, _, rfl, ⟨v0, rfl, h0⟩, rfl⟩ := hr
  exact ⟨v0, isV_sl.2 h0, rfl⟩
theorem im_ApiEntry {ok : Ok} {w : World} {x : ApiEntry} {v0 : Value} (h0 : isV (rSl rApiPost) ok w x.Posts v0) : isV rApiEntry ok w x (.agg ⟨[.int .i64 x.At, strV x.Text, v0]⟩) :=
  ⟨[.int .i64 x.At, strV x.Text, v0], ⟨[_], _, rfl, rfl, [_], _, rfl, rfl, [_], _, rfl, ⟨_, rfl, isV_sl.1 h0⟩, rfl⟩, rfl⟩

structure ApiPeriod where
  From : Int
  To : Int
def rApiPeriod : RT ApiPeriod := rStruct [⟨Int, (rInt .i64), fun x => x.From⟩, ⟨Int, (rInt .i64), fun x => x.To⟩]
def goodApiPeriod (x : ApiPeriod) : Prop := goodI .i64 x.From ∧ goodI .i64 x.To
theorem ex_ApiPeriod {ok : Ok} {w : World} {x : ApiPeriod} {v : Value} (h : isV rApiPeriod ok w x v) : v = .agg ⟨[.int .i64 x.From, .int .i64 x.To]⟩ := by
  obtain ⟨cs, hr, rfl⟩ := h
  obtain ⟨_, _, rfl, rfl, _, _, rfl, rfl, rfl⟩ := hr
  exact rfl
theorem im_ApiPeriod {ok : Ok} {w : World} {x : ApiPeriod} : isV rApiPeriod ok w x (.agg ⟨[.int .i64 x.From, .int .i64 x.To]⟩) :=
  ⟨[.int .i64 x.From, .int .i64 x.To], ⟨[_], _, rfl, rfl, [_], _, rfl, rfl, rfl⟩, rfl⟩

structure ApiTaxLine where
  Category : Str
  Points : Int
  Base : Int
  Rounded : Int
def rApiTaxLine : RT ApiTaxLine := rStruct [⟨Str, rStr, fun x => x.Category⟩, ⟨Int, (rInt .i64), fun x => x.Points⟩, ⟨Int, (rInt .i64), fun x => x.Base⟩, ⟨Int, (rInt .i64), fun x => x.Rounded⟩]
def goodApiTaxLine (x : ApiTaxLine) : Prop := goodS x.Category ∧ goodI .i64 x.Points ∧ goodI .i64 x.Base ∧ goodI .i64 x.Rounded
theorem ex_ApiTaxLine {ok : Ok} {w : World} {x : ApiTaxLine} {v : Value} (h : isV rApiTaxLine ok w x v) : v = .agg ⟨[strV x.Category, .int .i64 x.Points, .int .i64 x.Base, .int .i64 x.Rounded]⟩ := by
  obtain ⟨cs, hr, rfl⟩ := h
  obtain ⟨_, _, rfl, rfl, _, _, rfl, rfl, _, _, rfl, rfl, _, _, rfl, rfl, rfl⟩ := hr
  exact rfl
theorem im_ApiTaxLine {ok : Ok} {w : World} {x : ApiTaxLine} : isV rApiTaxLine ok w x (.agg ⟨[strV x.Category, .int .i64 x.Points, .int .i64 x.Base, .int .i64 x.Rounded]⟩) :=
  ⟨[strV x.Category, .int .i64 x.Points, .int .i64 x.Base, .int .i64 x.Rounded], ⟨[_], _, rfl, rfl, [_], _, rfl, rfl, [_], _, rfl, rfl, [_], _, rfl, rfl, rfl⟩, rfl⟩

structure ApiLine where
  Kind : Int
  Sub : Int
  Name : Str
  Category : Str
  Count : Int
  Units : Int
  Amount : Int
  Rounded : Int
def rApiLine : RT ApiLine := rStruct [⟨Int, (rInt .i64), fun x => x.Kind⟩, ⟨Int, (rInt .i64), fun x => x.Sub⟩, ⟨Str, rStr, fun x => x.Name⟩, ⟨Str, rStr, fun x => x.Category⟩, ⟨Int, (rInt .i64), fun x => x.Count⟩, ⟨Int, (rInt .i64), fun x => x.Units⟩, ⟨Int, (rInt .i64), fun x => x.Amount⟩, ⟨Int, (rInt .i64), fun x => x.Rounded⟩]
def goodApiLine (x : ApiLine) : Prop := goodI .i64 x.Kind ∧ goodI .i64 x.Sub ∧ goodS x.Name ∧ goodS x.Category ∧ goodI .i64 x.Count ∧ goodI .i64 x.Units ∧ goodI .i64 x.Amount ∧ goodI .i64 x.Rounded
theorem ex_ApiLine {ok : Ok} {w : World} {x : ApiLine} {v : Value} (h : isV rApiLine ok w x v) : v = .agg ⟨[.int .i64 x.Kind, .int .i64 x.Sub, strV x.Name, strV x.Category, .int .i64 x.Count, .int .i64 x.Units, .int .i64 x.Amount, .int .i64 x.Rounded]⟩ := by
  obtain ⟨cs, hr, rfl⟩ := h
  obtain ⟨_, _, rfl, rfl, _, _, rfl, rfl, _, _, rfl, rfl, _, _, rfl, rfl, _, _, rfl, rfl, _, _, rfl, rfl, _, _, rfl, rfl, _, _, rfl, rfl, rfl⟩ := hr
  exact rfl
theorem im_ApiLine {ok : Ok} {w : World} {x : ApiLine} : isV rApiLine ok w x (.agg ⟨[.int .i64 x.Kind, .int .i64 x.Sub, strV x.Name, strV x.Category, .int .i64 x.Count, .int .i64 x.Units, .int .i64 x.Amount, .int .i64 x.Rounded]⟩) :=
  ⟨[.int .i64 x.Kind, .int .i64 x.Sub, strV x.Name, strV x.Category, .int .i64 x.Count, .int .i64 x.Units, .int .i64 x.Amount, .int .i64 x.Rounded], ⟨[_], _, rfl, rfl, [_], _, rfl, rfl, [_], _, rfl, rfl, [_], _, rfl, rfl, [_], _, rfl, rfl, [_], _, rfl, rfl, [_], _, rfl, rfl, [_], _, rfl, rfl, rfl⟩, rfl⟩

structure ApiInvoice where
  Account : Int
  Period : ApiPeriod
  Lines : (List ApiLine)
  Taxes : (List ApiTaxLine)
  Net : Int
  Tax : Int
  Total : Int
def rApiInvoice : RT ApiInvoice := rStruct [⟨Int, (rInt .i64), fun x => x.Account⟩, ⟨ApiPeriod, rApiPeriod, fun x => x.Period⟩, ⟨(List ApiLine), (rSl rApiLine), fun x => x.Lines⟩, ⟨(List ApiTaxLine), (rSl rApiTaxLine), fun x => x.Taxes⟩, ⟨Int, (rInt .i64), fun x => x.Net⟩, ⟨Int, (rInt .i64), fun x => x.Tax⟩, ⟨Int, (rInt .i64), fun x => x.Total⟩]
def goodApiInvoice (x : ApiInvoice) : Prop := goodI .i64 x.Account ∧ goodApiPeriod x.Period ∧ goodL goodApiLine x.Lines ∧ goodL goodApiTaxLine x.Taxes ∧ goodI .i64 x.Net ∧ goodI .i64 x.Tax ∧ goodI .i64 x.Total
theorem ex_ApiInvoice {ok : Ok} {w : World} {x : ApiInvoice} {v : Value} (h : isV rApiInvoice ok w x v) : ∃ v0 v1, isV (rSl rApiLine) ok w x.Lines v0 ∧ isV (rSl rApiTaxLine) ok w x.Taxes v1 ∧ v = .agg ⟨[.int .i64 x.Account, .int .i64 x.Period.From, .int .i64 x.Period.To, v0, v1, .int .i64 x.Net, .int .i64 x.Tax, .int .i64 x.Total]⟩ := by
  obtain ⟨cs, hr, rfl⟩ := h
  obtain ⟨_, _, rfl, rfl, _, _, rfl, ⟨_, _, rfl, rfl, _, _, rfl, rfl, rfl⟩, _, _, rfl, ⟨v0, rfl, h0⟩, _, _, rfl, ⟨v1, rfl, h1⟩, _, _, rfl, rfl, _, _, rfl, rfl, _, _, rfl, rfl, rfl⟩ := hr
  exact ⟨v0, v1, isV_sl.2 h0, isV_sl.2 h1, rfl⟩
theorem im_ApiInvoice {ok : Ok} {w : World} {x : ApiInvoice} {v0 : Value} {v1 : Value} (h0 : isV (rSl rApiLine) ok w x.Lines v0) (h1 : isV (rSl rApiTaxLine) ok w x.Taxes v1) : isV rApiInvoice ok w x (.agg ⟨[.int .i64 x.Account, .int .i64 x.Period.From, .int .i64 x.Period.To, v0, v1, .int .i64 x.Net, .int .i64 x.Tax, .int .i64 x.Total]⟩) :=
  ⟨[.int .i64 x.Account, .int .i64 x.Period.From, .int .i64 x.Period.To, v0, v1, .int .i64 x.Net, .int .i64 x.Tax, .int .i64 x.Total], ⟨[_], _, rfl, rfl, [_, _], _, rfl, ⟨[_], _, rfl, rfl, [_], _, rfl, rfl, rfl⟩, [_], _, rfl, ⟨_, rfl, isV_sl.1 h0⟩, [_], _, rfl, ⟨_, rfl, isV_sl.1 h1⟩, [_], _, rfl, rfl, [_], _, rfl, rfl, [_], _, rfl, rfl, rfl⟩, rfl⟩

def billingref47_Plain_j11 (N : Nat) : Option (Bool) :=
  some true
def billingref47_Plain_l10 (N : Nat) (x0 : Str) (x1 : Int) : Nat → Int → Option ((Bool) ⊕ (Unit))
  | 0, _ => none
  | n + 1, i21 =>
    if (decide (i21 < (List.length x0 : Int))) then
      ((sidx x0 i21).bind fun x62 =>
      if (decide (x62 < x1)) then
        some true
      else
        (sidx x0 i21).bind fun x84 =>
        some (decide (x84 > 126))).bind fun g39 =>
      if g39 then
        some (.inl false)
      else
        (billingref47_Plain_l10 N x0 x1 n) (IntKind.wrap .i64 (i21 + 1))
    else
      some (.inr ())
def billingref47_Plain (N : Nat) (x0 : Str) (x1 : Int) : Option (Bool) :=
  (billingref47_Plain_l10 N x0 x1 N 0).bind fun
    | .inl r => some r
    | .inr _ => billingref47_Plain_j11 N

def billingref01_Valid (N : Nat) (x0 : Int) : Option (Bool) :=
  some ((decide (x0 ≥ (-1125899906842624))) && (decide (x0 ≤ 1125899906842624)))

def billingref47_Check_j62 (N : Nat) (i61 : Int) : Option (Int) :=
  if (i61 != 0) then
    some 21
  else
    some 0
def billingref47_Check_l60 (N : Nat) (x0 : ApiEntry) : Nat → Int → Int → Option ((Int) ⊕ (Int))
  | 0, _, _ => none
  | n + 1, i84, i85 =>
    if (decide (i85 < (List.length x0.Posts : Int))) then
      (idx x0.Posts i85).bind fun x107 =>
      (if (decide ((List.length x107.Account : Int) < 1)) then
        some true
      else
        if (decide ((List.length x107.Account : Int) > 200)) then
          some true
        else
          (billingref47_Plain N x107.Account 33).bind fun y721 =>
          some (!y721)).bind fun g123 =>
      if g123 then
        some (.inl 8)
      else
        (if (decide (i85 > 0)) then
          (idx x0.Posts (IntKind.wrap .i64 (i85 - 1))).bind fun x212 =>
          some (Op.bytesLess x107.Account x212.Account || x107.Account == x212.Account)
        else
          some false).bind fun g139 =>
        if g139 then
          some (.inl 9)
        else
          (if (x107.Amount == 0) then
            some true
          else
            (billingref01_Valid N x107.Amount).bind fun y196 =>
            some (!y196)).bind fun g155 =>
          if g155 then
            some (.inl 6)
          else
            (billingref47_Check_l60 N x0 n) (IntKind.wrap .i64 (i84 + x107.Amount)) (IntKind.wrap .i64 (i85 + 1))
    else
      some (.inr (i84))
def billingref47_Check (N : Nat) (x0 : ApiEntry) : Option (Int) :=
  if ((decide (x0.At < 0)) || (decide (x0.At ≥ 12622780800))) then
    some 15
  else
    if ((decide ((List.length x0.Text : Int) > 200)) || (decide ((List.length x0.Posts : Int) > 64))) then
      some 5
    else
      ((billingref47_Plain N x0.Text 32).bind fun y742 =>
      if (!y742) then
        some true
      else
        some (decide ((List.length x0.Posts : Int) < 2))).bind fun g37 =>
      if g37 then
        some 8
      else
        (billingref47_Check_l60 N x0 N 0 0).bind fun
          | .inl r => some r
          | .inr i61 => billingref47_Check_j62 N i61

def billingref47_ValidAll_j25 (N : Nat) : Option (Bool) :=
  some true
def billingref47_ValidAll_l24 (N : Nat) (x0 : (List ApiEntry)) : Nat → Int → Option ((Bool) ⊕ (Unit))
  | 0, _ => none
  | n + 1, i35 =>
    if (decide (i35 < (List.length x0 : Int))) then
      (idx x0 i35).bind fun x57 =>
      (billingref47_Check N x57).bind fun y72 =>
      if (y72 != 0) then
        some (.inl false)
      else
        (billingref47_ValidAll_l24 N x0 n) (IntKind.wrap .i64 (i35 + 1))
    else
      some (.inr ())
def billingref47_ValidAll (N : Nat) (x0 : (List ApiEntry)) (x1 : Int) : Option (Bool) :=
  if (decide ((List.length x0 : Int) > x1)) then
    some false
  else
    (billingref47_ValidAll_l24 N x0 N 0).bind fun
      | .inl r => some r
      | .inr _ => billingref47_ValidAll_j25 N

def ledger_receivable_j21 (N : Nat) (i19 : Int) (l20 : List Int) : Option (Str) :=
  (slc l20 i19 (List.length l20 : Int)).bind fun z32 =>
  (scat ([114, 101, 99, 101, 105, 118, 97, 98, 108, 101, 58] : Str) (bstr z32)).bind fun s36 =>
  some s36
def ledger_receivable_l18 (N : Nat) : Nat → Int → Int → (List Int) → Option (Int × List Int)
  | 0, _, _, _ => none
  | n + 1, i45, i46, l47 =>
    if ((decide (i46 > 0)) || (i45 == 20)) then
      (idx l47 (IntKind.wrap .i64 (i45 - 1))).bind fun x75 =>
      (ledger_receivable_l18 N n) (IntKind.wrap .i64 (i45 - 1)) (IntKind.wrap .i64 (Int.tdiv i46 10)) (List.set l47 (Int.toNat (IntKind.wrap .i64 (i45 - 1))) (IntKind.wrap .u8 ((IntKind.wrap .i64 (48 + (Int.tmod i46 10))))))
    else
      some (i45, l47)
def ledger_receivable (N : Nat) (x0 : Int) : Option (Str) :=
  (ledger_receivable_l18 N N 20 (if 0 > x0 then 0 else x0) (List.replicate 20 0)).bind fun (i19, l20) => ledger_receivable_j21 N i19 l20

def ledger_nonzero_j21 (N : Nat) (l18 : List ApiPost) : Option ((List ApiPost)) :=
  some l18
def ledger_nonzero_l17 (N : Nat) (x0 : (List ApiPost)) : Nat → (List ApiPost) → Int → Option (List ApiPost)
  | 0, _, _ => none
  | n + 1, l31, i34 =>
    if (decide (i34 < (List.length x0 : Int))) then
      (idx x0 i34).bind fun x52 =>
      if (x52.Amount != 0) then
        (app 24 l31 ([x52] : List ApiPost)).bind fun z84 =>
        (ledger_nonzero_l17 N x0 n) z84 (IntKind.wrap .i64 (i34 + 1))
      else
        (ledger_nonzero_l17 N x0 n) l31 (IntKind.wrap .i64 (i34 + 1))
    else
      some (l31)
def ledger_nonzero (N : Nat) (x0 : (List ApiPost)) : Option ((List ApiPost)) :=
  (ledger_nonzero_l17 N x0 N [] 0).bind fun l18 => ledger_nonzero_j21 N l18

def ledger_Payment (N : Nat) (x0 : Int) (x1 : Int) (x2 : Int) : Option (ApiEntry) :=
  (ledger_receivable N x0).bind fun y10 =>
  (ledger_nonzero N ([(⟨([99, 97, 115, 104] : Str), x2⟩ : ApiPost), (⟨y10, (IntKind.wrap .i64 (0 - x2))⟩ : ApiPost)] : List ApiPost)).bind fun y40 =>
  some (⟨x1, ([112, 97, 121, 109, 101, 110, 116] : Str), y40⟩ : ApiEntry)

def ledger_place_j81 (N : Nat) (z35 : List ApiPost) (l76 : List ApiPost) (s79 : Str) (i80 : Int) : Option ((List ApiPost)) :=
  (app 24 z35 ([(⟨s79, i80⟩ : ApiPost)] : List ApiPost)).bind fun z99 =>
  (app 24 z99 l76).bind fun z118 =>
  some z118
def ledger_place_j14 (N : Nat) (x0 : (List ApiPost)) (x1 : ApiPost) (i13 : Int) : Option ((List ApiPost)) :=
  (slc x0 0 i13).bind fun z25 =>
  (app 24 ([] : List ApiPost) z25).bind fun z35 =>
  (slc x0 i13 (List.length x0 : Int)).bind fun z54 =>
  (if (decide ((List.length z54 : Int) > 0)) then
    (idx z54 0).bind fun x297 =>
    some (x297.Account == x1.Account)
  else
    some false).bind fun g69 =>
  if g69 then
    (idx z54 0).bind fun x135 =>
    (slc z54 1 (List.length z54 : Int)).bind fun z279 =>
    ledger_place_j81 N z35 z279 x1.Account (IntKind.wrap .i64 (x1.Amount + x135.Amount))
  else
    ledger_place_j81 N z35 z54 x1.Account x1.Amount
def ledger_place_l12 (N : Nat) (x0 : (List ApiPost)) (x1 : ApiPost) : Nat → Int → Int → Option (Int)
  | 0, _, _ => none
  | n + 1, i705, i706 =>
    if (decide (i705 < i706)) then
      (idx x0 (IntKind.wrap .i64 (Int.tdiv (IntKind.wrap .i64 (i705 + i706)) 2))).bind fun x727 =>
      if (Op.bytesLess x727.Account x1.Account) then
        (ledger_place_l12 N x0 x1 n) (IntKind.wrap .i64 ((IntKind.wrap .i64 (Int.tdiv (IntKind.wrap .i64 (i705 + i706)) 2)) + 1)) i706
      else
        (ledger_place_l12 N x0 x1 n) i705 (IntKind.wrap .i64 (Int.tdiv (IntKind.wrap .i64 (i705 + i706)) 2))
    else
      some (i705)
def ledger_place (N : Nat) (x0 : (List ApiPost)) (x1 : ApiPost) : Option ((List ApiPost)) :=
  (ledger_place_l12 N x0 x1 N 0 (List.length x0 : Int)).bind fun i13 => ledger_place_j14 N x0 x1 i13

def ledger_Invoice_j182 (N : Nat) (x0 : ApiInvoice) (l179 : List ApiPost) : Option (ApiEntry) :=
  (ledger_nonzero N l179).bind fun y189 =>
  some (⟨(IntKind.wrap .i64 (x0.Period.To - 1)), ([105, 110, 118, 111, 105, 99, 101] : Str), y189⟩ : ApiEntry)
def ledger_Invoice_l178 (N : Nat) (x0 : ApiInvoice) : Nat → (List ApiPost) → Int → Option (List ApiPost)
  | 0, _, _ => none
  | n + 1, l332, i335 =>
    if (decide (i335 < (List.length x0.Taxes : Int))) then
      (idx x0.Taxes i335).bind fun x353 =>
      (scat ([116, 97, 120, 58] : Str) x353.Category).bind fun s372 =>
      (ledger_place N l332 (⟨s372, (IntKind.wrap .i64 (0 - x353.Rounded))⟩ : ApiPost)).bind fun y380 =>
      (ledger_Invoice_l178 N x0 n) y380 (IntKind.wrap .i64 (i335 + 1))
    else
      some (l332)
def ledger_Invoice (N : Nat) (x0 : ApiInvoice) : Option (ApiEntry) :=
  (ledger_receivable N x0.Account).bind fun y10 =>
  (ledger_place N [] (⟨y10, x0.Total⟩ : ApiPost)).bind fun y12 =>
  (ledger_place N y12 (⟨([114, 101, 118, 101, 110, 117, 101] : Str), (IntKind.wrap .i64 (0 - x0.Net))⟩ : ApiPost)).bind fun y155 =>
  (ledger_Invoice_l178 N x0 N y155 0).bind fun l179 => ledger_Invoice_j182 N x0 l179

def ledger_Trial_j20 (N : Nat) (l17 : List ApiPost) : Option ((List ApiPost)) :=
  (ledger_nonzero N l17).bind fun y31 =>
  some y31
def ledger_Trial_j98 (N : Nat) (go16 : List ApiPost → Int → Option (List ApiPost)) (i52 : Int) (l95 : List ApiPost) : Option (List ApiPost) :=
  go16 l95 (IntKind.wrap .i64 (i52 + 1))
def ledger_Trial_l94 (N : Nat) (x70 : ApiEntry) : Nat → (List ApiPost) → Int → Option (List ApiPost)
  | 0, _, _ => none
  | n + 1, l109, i112 =>
    if (decide (i112 < (List.length x70.Posts : Int))) then
      (idx x70.Posts i112).bind fun x130 =>
      (ledger_place N l109 x130).bind fun y149 =>
      (ledger_Trial_l94 N x70 n) y149 (IntKind.wrap .i64 (i112 + 1))
    else
      some (l109)
def ledger_Trial_l16 (N : Nat) (x0 : (List ApiEntry)) : Nat → (List ApiPost) → Int → Option (List ApiPost)
  | 0, _, _ => none
  | n + 1, l49, i52 =>
    if (decide (i52 < (List.length x0 : Int))) then
      (idx x0 i52).bind fun x70 =>
      (ledger_Trial_l94 N x70 N l49 0).bind fun l95 => ledger_Trial_j98 N (ledger_Trial_l16 N x0 n) i52 l95
    else
      some (l49)
def ledger_Trial (N : Nat) (x0 : (List ApiEntry)) : Option ((List ApiPost)) :=
  (ledger_Trial_l16 N x0 N [] 0).bind fun l17 => ledger_Trial_j20 N l17

def billingref47_SamePosts_j27 (N : Nat) : Option (Bool) :=
  some true
def billingref47_SamePosts_l26 (N : Nat) (x0 : (List ApiPost)) (x1 : (List ApiPost)) : Nat → Int → Option ((Bool) ⊕ (Unit))
  | 0, _ => none
  | n + 1, i37 =>
    if (decide (i37 < (List.length x0 : Int))) then
      (idx x0 i37).bind fun x55 =>
      (idx x1 i37).bind fun x57 =>
      if (!((x55.Account == x57.Account) && ((x55.Amount == x57.Amount) && true))) then
        some (.inl false)
      else
        (billingref47_SamePosts_l26 N x0 x1 n) (IntKind.wrap .i64 (i37 + 1))
    else
      some (.inr ())
def billingref47_SamePosts (N : Nat) (x0 : (List ApiPost)) (x1 : (List ApiPost)) : Option (Bool) :=
  if ((List.length x0 : Int) != (List.length x1 : Int)) then
    some false
  else
    (billingref47_SamePosts_l26 N x0 x1 N 0).bind fun
      | .inl r => some r
      | .inr _ => billingref47_SamePosts_j27 N

def ledger_printed_j11 (N : Nat) : Option (Bool) :=
  some true
def ledger_printed_l10 (N : Nat) (x0 : Str) (x1 : Int) : Nat → Int → Option ((Bool) ⊕ (Unit))
  | 0, _ => none
  | n + 1, i21 =>
    if (decide (i21 < (List.length x0 : Int))) then
      ((sidx x0 i21).bind fun x62 =>
      if (decide (x62 < x1)) then
        some true
      else
        (sidx x0 i21).bind fun x84 =>
        some (decide (x84 > 126))).bind fun g39 =>
      if g39 then
        some (.inl false)
      else
        (ledger_printed_l10 N x0 x1 n) (IntKind.wrap .i64 (i21 + 1))
    else
      some (.inr ())
def ledger_printed (N : Nat) (x0 : Str) (x1 : Int) : Option (Bool) :=
  (ledger_printed_l10 N x0 x1 N 0).bind fun
    | .inl r => some r
    | .inr _ => ledger_printed_j11 N

def amount_Valid (N : Nat) (x0 : Int) : Option (Bool) :=
  some ((decide (x0 ≥ (-1125899906842624))) && (decide (x0 ≤ 1125899906842624)))

def api_Post__j19 (N : Nat) (i18 : Int) : Option (Int) :=
  some i18
def api_Post__l17 (N : Nat) (x0 : (List ApiPost)) (x1 : (ApiPost → Option Int)) : Nat → Int → Int → Option (Int)
  | 0, _, _ => none
  | n + 1, i29, i30 =>
    if (decide (i30 < (List.length x0 : Int))) then
      (idx x0 i30).bind fun x48 =>
      (x1 x48).bind fun y67 =>
      (api_Post__l17 N x0 x1 n) (IntKind.wrap .i64 (i29 + y67)) (IntKind.wrap .i64 (i30 + 1))
    else
      some (i29)
def api_Post_ (N : Nat) (x0 : (List ApiPost)) (x1 : (ApiPost → Option Int)) : Option (Int) :=
  (api_Post__l17 N x0 x1 N 0 0).bind fun i18 => api_Post__j19 N i18

def ledger_value (N : Nat) (x0 : ApiPost) : Option (Int) :=
  some x0.Amount

def ledger_Check_j56 (N : Nat) (x0 : ApiEntry) : Option (Int) :=
  (api_Post_ N x0.Posts (ledger_value N)).bind fun y68 =>
  if (y68 != 0) then
    some 21
  else
    some 0
def ledger_Check_l55 (N : Nat) (x0 : ApiEntry) : Nat → Int → Option ((Int) ⊕ (Unit))
  | 0, _ => none
  | n + 1, i93 =>
    if (decide (i93 < (List.length x0.Posts : Int))) then
      (idx x0.Posts i93).bind fun x115 =>
      (if (x115.Account == ([] : Str)) then
        some true
      else
        if (decide ((List.length x115.Account : Int) > 200)) then
          some true
        else
          (ledger_printed N x115.Account 33).bind fun y731 =>
          some (!y731)).bind fun g131 =>
      if g131 then
        some (.inl 8)
      else
        (if (decide (i93 > 0)) then
          (idx x0.Posts (IntKind.wrap .i64 (i93 - 1))).bind fun x214 =>
          some (!(Op.bytesLess x214.Account x115.Account))
        else
          some false).bind fun g146 =>
        if g146 then
          some (.inl 9)
        else
          (if (x115.Amount == 0) then
            some true
          else
            (amount_Valid N x115.Amount).bind fun y198 =>
            some (!y198)).bind fun g161 =>
          if g161 then
            some (.inl 6)
          else
            (ledger_Check_l55 N x0 n) (IntKind.wrap .i64 (i93 + 1))
    else
      some (.inr ())
def ledger_Check (N : Nat) (x0 : ApiEntry) : Option (Int) :=
  if ((decide (x0.At < 0)) || (decide (x0.At ≥ 12622780800))) then
    some 15
  else
    if ((decide ((List.length x0.Text : Int) > 200)) || (decide ((List.length x0.Posts : Int) > 64))) then
      some 5
    else
      ((ledger_printed N x0.Text 32).bind fun y752 =>
      if (!y752) then
        some true
      else
        some (decide ((List.length x0.Posts : Int) < 2))).bind fun g36 =>
      if g36 then
        some 8
      else
        (ledger_Check_l55 N x0 N 0).bind fun
          | .inl r => some r
          | .inr _ => ledger_Check_j56 N x0

def billinglaw47_awake (N : Nat) : Option (Bool) :=
  (ledger_Payment N 17 100 595).bind fun y6 =>
  (ledger_Invoice N (⟨17, (⟨0, 50⟩ : ApiPeriod), [], ([(⟨([118, 111, 105, 99, 101] : Str), 0, 0, 95⟩ : ApiTaxLine)] : List ApiTaxLine), 500, 95, 595⟩ : ApiInvoice)).bind fun y42 =>
  (ledger_Trial N ([y42, y6] : List ApiEntry)).bind fun y91 =>
  ((billingref47_SamePosts N y6.Posts ([(⟨([99, 97, 115, 104] : Str), 595⟩ : ApiPost), (⟨([114, 101, 99, 101, 105, 118, 97, 98, 108, 101, 58, 49, 55] : Str), (-595)⟩ : ApiPost)] : List ApiPost)).bind fun y128 =>
  if y128 then
    if (y6.At == 100) then
      if (y42.At == 49) then
        (billingref47_SamePosts N y42.Posts ([(⟨([114, 101, 99, 101, 105, 118, 97, 98, 108, 101, 58, 49, 55] : Str), 595⟩ : ApiPost), (⟨([114, 101, 118, 101, 110, 117, 101] : Str), (-500)⟩ : ApiPost), (⟨([116, 97, 120, 58, 118, 111, 105, 99, 101] : Str), (-95)⟩ : ApiPost)] : List ApiPost)).bind fun y162 =>
        if y162 then
          (billingref47_SamePosts N y91 ([(⟨([99, 97, 115, 104] : Str), 595⟩ : ApiPost), (⟨([114, 101, 118, 101, 110, 117, 101] : Str), (-500)⟩ : ApiPost), (⟨([116, 97, 120, 58, 118, 111, 105, 99, 101] : Str), (-95)⟩ : ApiPost)] : List ApiPost)).bind fun y189 =>
          if y189 then
            (ledger_Check N y6).bind fun y209 =>
            some (y209 == 0)
          else
            some false
        else
          some false
      else
        some false
    else
      some false
  else
    some false).bind fun g110 =>
  some g110

def billingref47_Clone (N : Nat) (x0 : ApiEntry) : Option (ApiEntry) :=
  (app 24 ([] : List ApiPost) x0.Posts).bind fun z8 =>
  some (⟨x0.At, x0.Text, z8⟩ : ApiEntry)

def billingref47_CloneAll_j30 (N : Nat) (l27 : List ApiEntry) : Option ((List ApiEntry)) :=
  some l27
def billingref47_CloneAll_l26 (N : Nat) (x0 : (List ApiEntry)) : Nat → (List ApiEntry) → Int → Option (List ApiEntry)
  | 0, _, _ => none
  | n + 1, l40, i43 =>
    if (decide (i43 < (List.length x0 : Int))) then
      (idx x0 i43).bind fun x65 =>
      (billingref47_Clone N x65).bind fun y80 =>
      (app 48 l40 ([y80] : List ApiEntry)).bind fun z102 =>
      (billingref47_CloneAll_l26 N x0 n) z102 (IntKind.wrap .i64 (i43 + 1))
    else
      some (l40)
def billingref47_CloneAll (N : Nat) (x0 : (List ApiEntry)) : Option ((List ApiEntry)) :=
  (billingref47_CloneAll_l26 N x0 N ([] : List ApiEntry) 0).bind fun l27 => billingref47_CloneAll_j30 N l27

def ledger_Balance_c1_c1 (N : Nat) (x0 : ApiPost) (x1 : Str) : Option (Int) :=
  if (!(x0.Account == x1)) then
    some 0
  else
    some x0.Amount

def ledger_Balance_c1 (N : Nat) (x0 : ApiEntry) (x1 : Str) : Option (Int) :=
  (api_Post_ N x0.Posts (fun z => ledger_Balance_c1_c1 N z x1)).bind fun y15 =>
  some y15

def api_Entry__j19 (N : Nat) (i18 : Int) : Option (Int) :=
  some i18
def api_Entry__l17 (N : Nat) (x0 : (List ApiEntry)) (x1 : (ApiEntry → Option Int)) : Nat → Int → Int → Option (Int)
  | 0, _, _ => none
  | n + 1, i29, i30 =>
    if (decide (i30 < (List.length x0 : Int))) then
      (idx x0 i30).bind fun x48 =>
      (x1 x48).bind fun y73 =>
      (api_Entry__l17 N x0 x1 n) (IntKind.wrap .i64 (i29 + y73)) (IntKind.wrap .i64 (i30 + 1))
    else
      some (i29)
def api_Entry_ (N : Nat) (x0 : (List ApiEntry)) (x1 : (ApiEntry → Option Int)) : Option (Int) :=
  (api_Entry__l17 N x0 x1 N 0 0).bind fun i18 => api_Entry__j19 N i18

def ledger_Balance (N : Nat) (x0 : (List ApiEntry)) (x1 : Str) : Option (Int) :=
  (api_Entry_ N x0 (fun z => ledger_Balance_c1 N z x1)).bind fun y16 =>
  some y16

def billinglaw47_LedgerZero_j127 (N : Nat) (i126 : Int) : Option (Bool) :=
  (if (i126 == 0) then
    (billinglaw47_awake N).bind fun y148 =>
    some y148
  else
    some false).bind fun g134 =>
  some g134
def billinglaw47_LedgerZero_l125 (N : Nat) (x0 : (List ApiEntry)) (x1 : (List ApiEntry)) (y90 : (List ApiPost)) : Nat → Int → Int → Option ((Bool) ⊕ (Int))
  | 0, _, _ => none
  | n + 1, i169, i170 =>
    if (decide (i170 < (List.length y90 : Int))) then
      (idx y90 i170).bind fun x192 =>
      (idx y90 i170).bind fun x210 =>
      (idx y90 i170).bind fun x212 =>
      (ledger_Balance N x0 x212.Account).bind fun y214 =>
      (idx y90 i170).bind fun x216 =>
      (ledger_Balance N x1 x216.Account).bind fun y218 =>
      if (x210.Amount != (IntKind.wrap .i64 (y214 + y218))) then
        some (.inl false)
      else
        (billinglaw47_LedgerZero_l125 N x0 x1 y90 n) (IntKind.wrap .i64 (i169 + x192.Amount)) (IntKind.wrap .i64 (i170 + 1))
    else
      some (.inr (i169))
def billinglaw47_LedgerZero (N : Nat) (x0 : (List ApiEntry)) (x1 : (List ApiEntry)) : Option (Bool) :=
  ((billingref47_ValidAll N x0 40).bind fun y581 =>
  if (!y581) then
    some true
  else
    (billingref47_ValidAll N x1 40).bind fun y608 =>
    some (!y608)).bind fun g11 =>
  if g11 then
    (billinglaw47_awake N).bind fun y21 =>
    some y21
  else
    (billingref47_CloneAll N x0).bind fun y41 =>
    (billingref47_CloneAll N x1).bind fun y54 =>
    (app 48 y41 y54).bind fun z67 =>
    (ledger_Trial N z67).bind fun y90 =>
    if (decide ((List.length y90 : Int) > 5120)) then
      some false
    else
      (billinglaw47_LedgerZero_l125 N x0 x1 y90 N 0 0).bind fun
        | .inl r => some r
        | .inr i126 => billinglaw47_LedgerZero_j127 N i126
end Gd
