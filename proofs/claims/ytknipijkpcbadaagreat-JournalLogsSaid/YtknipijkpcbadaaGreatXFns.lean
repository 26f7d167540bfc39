/- The Go functions as Lean functions. -/
import Derived.Test.YtknipijkpcbadaaGreatXRd
namespace Gx
open Go Gd
set_option linter.unusedVariables false
abbrev tyApiPeriod : Ty := .st (.pr (.int .i64) (.int .i64))
abbrev ApiPeriod : Type := Int × Int
abbrev ApiPeriod.From (x : ApiPeriod) : Int := x.1
abbrev ApiPeriod.To (x : ApiPeriod) : Int := x.2
abbrev tyApiBucket : Ty := .st (.pr (.int .i64) (.pr (.int .i64) (.pr .str (.pr (.int .i64) (.pr (.int .i64) (.pr (.sl .str) (.pr tyApiPeriod (.pr (.int .i64) (.pr (.int .i64) (.pr (.int .i64) .bool))))))))))
abbrev ApiBucket : Type := Int × Int × Str × Int × Int × (List Str) × ApiPeriod × Int × Int × Int × Bool
abbrev ApiBucket.Account (x : ApiBucket) : Int := x.1
abbrev ApiBucket.Sub (x : ApiBucket) : Int := x.2.1
abbrev ApiBucket.Product (x : ApiBucket) : Str := x.2.2.1
abbrev ApiBucket.Index (x : ApiBucket) : Int := x.2.2.2.1
abbrev ApiBucket.Kind (x : ApiBucket) : Int := x.2.2.2.2.1
abbrev ApiBucket.Zones (x : ApiBucket) : (List Str) := x.2.2.2.2.2.1
abbrev ApiBucket.Valid (x : ApiBucket) : ApiPeriod := x.2.2.2.2.2.2.1
abbrev ApiBucket.Units (x : ApiBucket) : Int := x.2.2.2.2.2.2.2.1
abbrev ApiBucket.Left (x : ApiBucket) : Int := x.2.2.2.2.2.2.2.2.1
abbrev ApiBucket.Priority (x : ApiBucket) : Int := x.2.2.2.2.2.2.2.2.2.1
abbrev ApiBucket.Shared (x : ApiBucket) : Bool := x.2.2.2.2.2.2.2.2.2.2
abbrev tyApiWallet : Ty := .st (.pr (.int .i64) (.pr (.int .i64) (.pr (.int .i64) (.pr (.int .i64) (.int .i64)))))
abbrev ApiWallet : Type := Int × Int × Int × Int × Int
abbrev ApiWallet.Account (x : ApiWallet) : Int := x.1
abbrev ApiWallet.Balance (x : ApiWallet) : Int := x.2.1
abbrev ApiWallet.Floor (x : ApiWallet) : Int := x.2.2.1
abbrev ApiWallet.Held (x : ApiWallet) : Int := x.2.2.2.1
abbrev ApiWallet.Until (x : ApiWallet) : Int := x.2.2.2.2
abbrev tyApiCounter : Ty := .st (.pr (.int .i64) (.pr (.int .i64) (.pr (.int .i64) (.pr (.int .i64) (.int .i64)))))
abbrev ApiCounter : Type := Int × Int × Int × Int × Int
abbrev ApiCounter.Sub (x : ApiCounter) : Int := x.1
abbrev ApiCounter.Kind (x : ApiCounter) : Int := x.2.1
abbrev ApiCounter.From (x : ApiCounter) : Int := x.2.2.1
abbrev ApiCounter.Units (x : ApiCounter) : Int := x.2.2.2.1
abbrev ApiCounter.Spent (x : ApiCounter) : Int := x.2.2.2.2
abbrev tyApiState : Ty := .st (.pr (.sl tyApiBucket) (.pr (.sl tyApiWallet) (.sl tyApiCounter)))
abbrev ApiState : Type := (List ApiBucket) × (List ApiWallet) × (List ApiCounter)
abbrev ApiState.Buckets (x : ApiState) : (List ApiBucket) := x.1
abbrev ApiState.Wallets (x : ApiState) : (List ApiWallet) := x.2.1
abbrev ApiState.Counters (x : ApiState) : (List ApiCounter) := x.2.2
abbrev tyApiStep : Ty := .st (.pr (.int .i64) (.pr (.int .i64) (.int .i64)))
abbrev ApiStep : Type := Int × Int × Int
abbrev ApiStep.Upto (x : ApiStep) : Int := x.1
abbrev ApiStep.Quantum (x : ApiStep) : Int := x.2.1
abbrev ApiStep.Price (x : ApiStep) : Int := x.2.2
abbrev tyApiRate : Ty := .st (.pr (.int .i64) (.pr .str (.pr .str (.pr (.int .i64) (.sl tyApiStep)))))
abbrev ApiRate : Type := Int × Str × Str × Int × (List ApiStep)
abbrev ApiRate.Kind (x : ApiRate) : Int := x.1
abbrev ApiRate.Zone (x : ApiRate) : Str := x.2.1
abbrev ApiRate.Band (x : ApiRate) : Str := x.2.2.1
abbrev ApiRate.Setup (x : ApiRate) : Int := x.2.2.2.1
abbrev ApiRate.Steps (x : ApiRate) : (List ApiStep) := x.2.2.2.2
abbrev tyApiMeter : Ty := .st (.pr (.int .i64) (.pr (.int .i64) (.pr (.int .i64) (.pr .str (.pr .str (.pr (.int .i64) (.pr tyApiRate (.pr (.int .i64) (.int .i64)))))))))
abbrev ApiMeter : Type := Int × Int × Int × Str × Str × Int × ApiRate × Int × Int
abbrev ApiMeter.Account (x : ApiMeter) : Int := x.1
abbrev ApiMeter.Sub (x : ApiMeter) : Int := x.2.1
abbrev ApiMeter.Kind (x : ApiMeter) : Int := x.2.2.1
abbrev ApiMeter.Zone (x : ApiMeter) : Str := x.2.2.2.1
abbrev ApiMeter.Plan (x : ApiMeter) : Str := x.2.2.2.2.1
abbrev ApiMeter.Version (x : ApiMeter) : Int := x.2.2.2.2.2.1
abbrev ApiMeter.Rate (x : ApiMeter) : ApiRate := x.2.2.2.2.2.2.1
abbrev ApiMeter.Free (x : ApiMeter) : Int := x.2.2.2.2.2.2.2.1
abbrev ApiMeter.Paid (x : ApiMeter) : Int := x.2.2.2.2.2.2.2.2
abbrev tyApiTake : Ty := .st (.pr (.int .i64) (.pr .str (.pr (.int .i64) (.pr (.int .i64) (.int .i64)))))
abbrev ApiTake : Type := Int × Str × Int × Int × Int
abbrev ApiTake.Sub (x : ApiTake) : Int := x.1
abbrev ApiTake.Product (x : ApiTake) : Str := x.2.1
abbrev ApiTake.Index (x : ApiTake) : Int := x.2.2.1
abbrev ApiTake.From (x : ApiTake) : Int := x.2.2.2.1
abbrev ApiTake.Units (x : ApiTake) : Int := x.2.2.2.2
abbrev tyApiAnswer : Ty := .st (.pr (.int .i64) (.pr (.int .i64) (.pr (.int .i64) (.pr (.int .i64) (.int .i64)))))
abbrev ApiAnswer : Type := Int × Int × Int × Int × Int
abbrev ApiAnswer.Session (x : ApiAnswer) : Int := x.1
abbrev ApiAnswer.Seq (x : ApiAnswer) : Int := x.2.1
abbrev ApiAnswer.Granted (x : ApiAnswer) : Int := x.2.2.1
abbrev ApiAnswer.Until (x : ApiAnswer) : Int := x.2.2.2.1
abbrev ApiAnswer.Err (x : ApiAnswer) : Int := x.2.2.2.2
abbrev tyApiSession : Ty := .st (.pr (.int .i64) (.pr (.int .i64) (.pr (.int .i64) (.pr (.int .i64) (.pr tyApiMeter (.pr (.int .i64) (.pr (.sl tyApiTake) (.pr (.int .i64) (.pr (.int .i64) (.pr .bool tyApiAnswer))))))))))
abbrev ApiSession : Type := Int × Int × Int × Int × ApiMeter × Int × (List ApiTake) × Int × Int × Bool × ApiAnswer
abbrev ApiSession.Id (x : ApiSession) : Int := x.1
abbrev ApiSession.Seq (x : ApiSession) : Int := x.2.1
abbrev ApiSession.Start (x : ApiSession) : Int := x.2.2.1
abbrev ApiSession.Until (x : ApiSession) : Int := x.2.2.2.1
abbrev ApiSession.Meter (x : ApiSession) : ApiMeter := x.2.2.2.2.1
abbrev ApiSession.Granted (x : ApiSession) : Int := x.2.2.2.2.2.1
abbrev ApiSession.Takes (x : ApiSession) : (List ApiTake) := x.2.2.2.2.2.2.1
abbrev ApiSession.Held (x : ApiSession) : Int := x.2.2.2.2.2.2.2.1
abbrev ApiSession.Spent (x : ApiSession) : Int := x.2.2.2.2.2.2.2.2.1
abbrev ApiSession.Closed (x : ApiSession) : Bool := x.2.2.2.2.2.2.2.2.2.1
abbrev ApiSession.Last (x : ApiSession) : ApiAnswer := x.2.2.2.2.2.2.2.2.2.2
abbrev tyApiRequest : Ty := .st (.pr (.int .i64) (.pr (.int .i64) (.pr (.int .i64) (.pr (.int .i64) (.pr (.int .i64) (.pr (.int .i64) (.pr .str (.pr (.int .i64) (.int .i64)))))))))
abbrev ApiRequest : Type := Int × Int × Int × Int × Int × Int × Str × Int × Int
abbrev ApiRequest.Session (x : ApiRequest) : Int := x.1
abbrev ApiRequest.Seq (x : ApiRequest) : Int := x.2.1
abbrev ApiRequest.Kind (x : ApiRequest) : Int := x.2.2.1
abbrev ApiRequest.At (x : ApiRequest) : Int := x.2.2.2.1
abbrev ApiRequest.Sub (x : ApiRequest) : Int := x.2.2.2.2.1
abbrev ApiRequest.Usage (x : ApiRequest) : Int := x.2.2.2.2.2.1
abbrev ApiRequest.B (x : ApiRequest) : Str := x.2.2.2.2.2.2.1
abbrev ApiRequest.Used (x : ApiRequest) : Int := x.2.2.2.2.2.2.2.1
abbrev ApiRequest.Ask (x : ApiRequest) : Int := x.2.2.2.2.2.2.2.2
abbrev tyBillinglaw42Op : Ty := .st (.pr (.int .i64) (.pr tyApiRequest (.int .i64)))
abbrev Billinglaw42Op : Type := Int × ApiRequest × Int
abbrev Billinglaw42Op.Call (x : Billinglaw42Op) : Int := x.1
abbrev Billinglaw42Op.Request (x : Billinglaw42Op) : ApiRequest := x.2.1
abbrev Billinglaw42Op.Keep (x : Billinglaw42Op) : Int := x.2.2
abbrev tyJournalLog : Ty := .st (.pr (.sl (.int .u8)) (.pr (.int .i64) .ref))
abbrev JournalLog : Type := (List Int) × Int × Unit
abbrev JournalLog.bytes (x : JournalLog) : (List Int) := x.1
abbrev JournalLog.safe (x : JournalLog) : Int := x.2.1
abbrev JournalLog.ends (x : JournalLog) : Unit := x.2.2
abbrev tyApiEvent : Ty := .st (.pr (.int .i64) (.pr (.int .i64) (.pr (.int .i64) (.pr (.int .i64) (.pr .str (.pr .str (.int .i64)))))))
abbrev ApiEvent : Type := Int × Int × Int × Int × Str × Str × Int
abbrev ApiEvent.At (x : ApiEvent) : Int := x.1
abbrev ApiEvent.Kind (x : ApiEvent) : Int := x.2.1
abbrev ApiEvent.Account (x : ApiEvent) : Int := x.2.2.1
abbrev ApiEvent.Sub (x : ApiEvent) : Int := x.2.2.2.1
abbrev ApiEvent.Number (x : ApiEvent) : Str := x.2.2.2.2.1
abbrev ApiEvent.Name (x : ApiEvent) : Str := x.2.2.2.2.2.1
abbrev ApiEvent.Value (x : ApiEvent) : Int := x.2.2.2.2.2.2
abbrev tyApiZone : Ty := .st (.pr .str (.sl .str))
abbrev ApiZone : Type := Str × (List Str)
abbrev ApiZone.Name (x : ApiZone) : Str := x.1
abbrev ApiZone.Prefixes (x : ApiZone) : (List Str) := x.2
abbrev tyApiSlot : Ty := .st (.pr (.int .i64) (.pr (.int .i64) (.int .i64)))
abbrev ApiSlot : Type := Int × Int × Int
abbrev ApiSlot.Days (x : ApiSlot) : Int := x.1
abbrev ApiSlot.From (x : ApiSlot) : Int := x.2.1
abbrev ApiSlot.To (x : ApiSlot) : Int := x.2.2
abbrev tyApiBand : Ty := .st (.pr .str (.sl tyApiSlot))
abbrev ApiBand : Type := Str × (List ApiSlot)
abbrev ApiBand.Name (x : ApiBand) : Str := x.1
abbrev ApiBand.Slots (x : ApiBand) : (List ApiSlot) := x.2
abbrev tyApiExpr : Ty := .rose (.pr (.int .i64) (.pr (.int .i64) .str))
abbrev ApiExpr : Type := Rose (Int × Int × Str)
abbrev ApiExpr.Op (x : ApiExpr) : Int := x.x.1
abbrev ApiExpr.Num (x : ApiExpr) : Int := x.x.2.1
abbrev ApiExpr.Text (x : ApiExpr) : Str := x.x.2.2
abbrev ApiExpr.Args (x : ApiExpr) : List ApiExpr := x.ks
abbrev tyApiDiscount : Ty := .st (.pr .str (.pr tyApiExpr (.int .i64)))
abbrev ApiDiscount : Type := Str × ApiExpr × Int
abbrev ApiDiscount.Name (x : ApiDiscount) : Str := x.1
abbrev ApiDiscount.When (x : ApiDiscount) : ApiExpr := x.2.1
abbrev ApiDiscount.Points (x : ApiDiscount) : Int := x.2.2
abbrev tyApiTariff : Ty := .st (.pr .str (.pr (.int .i64) (.pr .bool (.pr (.sl tyApiZone) (.pr (.sl tyApiBand) (.pr (.sl tyApiRate) (.sl tyApiDiscount)))))))
abbrev ApiTariff : Type := Str × Int × Bool × (List ApiZone) × (List ApiBand) × (List ApiRate) × (List ApiDiscount)
abbrev ApiTariff.Name (x : ApiTariff) : Str := x.1
abbrev ApiTariff.From (x : ApiTariff) : Int := x.2.1
abbrev ApiTariff.Split (x : ApiTariff) : Bool := x.2.2.1
abbrev ApiTariff.Zones (x : ApiTariff) : (List ApiZone) := x.2.2.2.1
abbrev ApiTariff.Bands (x : ApiTariff) : (List ApiBand) := x.2.2.2.2.1
abbrev ApiTariff.Rates (x : ApiTariff) : (List ApiRate) := x.2.2.2.2.2.1
abbrev ApiTariff.Discounts (x : ApiTariff) : (List ApiDiscount) := x.2.2.2.2.2.2
abbrev tyApiBundle : Ty := .st (.pr (.int .i64) (.pr (.sl .str) (.pr (.int .i64) (.pr (.int .i64) (.pr (.int .i64) .bool)))))
abbrev ApiBundle : Type := Int × (List Str) × Int × Int × Int × Bool
abbrev ApiBundle.Kind (x : ApiBundle) : Int := x.1
abbrev ApiBundle.Zones (x : ApiBundle) : (List Str) := x.2.1
abbrev ApiBundle.Units (x : ApiBundle) : Int := x.2.2.1
abbrev ApiBundle.Rollover (x : ApiBundle) : Int := x.2.2.2.1
abbrev ApiBundle.Priority (x : ApiBundle) : Int := x.2.2.2.2.1
abbrev ApiBundle.Shared (x : ApiBundle) : Bool := x.2.2.2.2.2
abbrev tyApiProduct : Ty := .st (.pr .str (.pr (.int .i64) (.pr (.int .i64) (.pr .str (.pr .bool (.sl tyApiBundle))))))
abbrev ApiProduct : Type := Str × Int × Int × Str × Bool × (List ApiBundle)
abbrev ApiProduct.Name (x : ApiProduct) : Str := x.1
abbrev ApiProduct.From (x : ApiProduct) : Int := x.2.1
abbrev ApiProduct.Fee (x : ApiProduct) : Int := x.2.2.1
abbrev ApiProduct.Category (x : ApiProduct) : Str := x.2.2.2.1
abbrev ApiProduct.Prorate (x : ApiProduct) : Bool := x.2.2.2.2.1
abbrev ApiProduct.Bundles (x : ApiProduct) : (List ApiBundle) := x.2.2.2.2.2
abbrev tyApiTax : Ty := .st (.pr .str (.pr (.int .i64) (.int .i64)))
abbrev ApiTax : Type := Str × Int × Int
abbrev ApiTax.Category (x : ApiTax) : Str := x.1
abbrev ApiTax.From (x : ApiTax) : Int := x.2.1
abbrev ApiTax.Points (x : ApiTax) : Int := x.2.2
abbrev tyApiAgreement : Ty := .st (.pr (.int .i64) (.pr (.int .i64) (.pr .bool (.pr tyApiPeriod (.pr (.sl tyApiStep) (.int .i64))))))
abbrev ApiAgreement : Type := Int × Int × Bool × ApiPeriod × (List ApiStep) × Int
abbrev ApiAgreement.Partner (x : ApiAgreement) : Int := x.1
abbrev ApiAgreement.Kind (x : ApiAgreement) : Int := x.2.1
abbrev ApiAgreement.Inbound (x : ApiAgreement) : Bool := x.2.2.1
abbrev ApiAgreement.Valid (x : ApiAgreement) : ApiPeriod := x.2.2.2.1
abbrev ApiAgreement.Steps (x : ApiAgreement) : (List ApiStep) := x.2.2.2.2.1
abbrev ApiAgreement.Cap (x : ApiAgreement) : Int := x.2.2.2.2.2
abbrev tyApiBook : Ty := .st (.pr (.sl tyApiEvent) (.pr (.sl tyApiTariff) (.pr (.sl tyApiProduct) (.pr (.sl tyApiTax) (.pr (.sl (.int .i64)) (.sl tyApiAgreement))))))
abbrev ApiBook : Type := (List ApiEvent) × (List ApiTariff) × (List ApiProduct) × (List ApiTax) × (List Int) × (List ApiAgreement)
abbrev ApiBook.Events (x : ApiBook) : (List ApiEvent) := x.1
abbrev ApiBook.Tariffs (x : ApiBook) : (List ApiTariff) := x.2.1
abbrev ApiBook.Products (x : ApiBook) : (List ApiProduct) := x.2.2.1
abbrev ApiBook.Taxes (x : ApiBook) : (List ApiTax) := x.2.2.2.1
abbrev ApiBook.Holidays (x : ApiBook) : (List Int) := x.2.2.2.2.1
abbrev ApiBook.Agreements (x : ApiBook) : (List ApiAgreement) := x.2.2.2.2.2
abbrev tyOnlineServer : Ty := .st (.pr tyApiBook (.pr tyApiState .ref))
abbrev OnlineServer : Type := ApiBook × ApiState × Unit
abbrev OnlineServer.book (x : OnlineServer) : ApiBook := x.1
abbrev OnlineServer.state (x : OnlineServer) : ApiState := x.2.1
abbrev OnlineServer.sessions (x : OnlineServer) : Unit := x.2.2
abbrev tyJournalReader : Ty := .st (.pr (.sl (.int .u8)) (.int .i64))
abbrev JournalReader : Type := (List Int) × Int
abbrev JournalReader.rest (x : JournalReader) : (List Int) := x.1
abbrev JournalReader.bad (x : JournalReader) : Int := x.2
abbrev tyBillingref42Reader : Ty := .st (.pr (.sl (.int .u8)) (.int .i64))
abbrev Billingref42Reader : Type := (List Int) × Int
abbrev Billingref42Reader.b (x : Billingref42Reader) : (List Int) := x.1
abbrev Billingref42Reader.e (x : Billingref42Reader) : Int := x.2
abbrev tyBillingref42Log : Ty := .st (.pr (.sl (.int .u8)) (.int .i64))
abbrev Billingref42Log : Type := (List Int) × Int
abbrev Billingref42Log.b (x : Billingref42Log) : (List Int) := x.1
abbrev Billingref42Log.safe (x : Billingref42Log) : Int := x.2
def journal_New (N : Nat) : Option (Int × (List (Int × Int))) :=
  some (0, ([] : List (Int × Int)))
def journal_Log_made (N : Nat) (m5000_1 : Int) (m5001 : (List Int)) (m5002 : (List (Int × Int))) : Option (Bool × Int × (List (Int × Int)) × (List Int)) :=
  some (true, m5000_1, m5002, m5001)
def codec_grown (N : Nat) (x0 : (List Int)) (x1 : Int) : Option ((List Int)) :=
  (mkL 1 (List.length x0 : Int) (IntKind.wrap .i64 ((List.length x0 : Int) + x1)) 0).bind fun m1 =>
  some (copyL m1 x0)
def codec_zigzag (N : Nat) (x0 : Int) : Option (Int) :=
  (shlW .u64 (IntKind.wrap .u64 x0) 1).bind fun n1 =>
  (shrW .i64 x0 63).bind fun n2 =>
  some (Go.bits .xor .u64 n1 (IntKind.wrap .u64 n2))
def codec_add_l1 (N : Nat) : (Int × (List Int)) → Option ((Int × (List Int)) ⊕ ((Int × (List Int)))) := fun (v2, v3) =>
  if (decide (v2 ≥ 128)) then
    (app 1 v3 ([(Go.bits .or .u8 (IntKind.wrap .u8 v2) 128)] : (List Int))).bind fun q4 =>
    (shrW .u64 v2 7).bind fun n5 =>
    some (.inl (n5, q4))
  else
    some (.inr (v2, v3))
def codec_add (N : Nat) (x1 : Int) (m5000 : (List Int)) : Option ((List Int)) :=
  (codec_zigzag N x1).bind fun r1 =>
  (loopN (codec_add_l1 N) N (r1, m5000)).bind fun (v6, v7) =>
  (app 1 v7 ([(IntKind.wrap .u8 v6)] : (List Int))).bind fun q8 =>
  some q8
def codec_PutNumber (N : Nat) (x0 : (List Int)) (x1 : Int) : Option ((List Int)) :=
  (codec_grown N x0 10).bind fun r1 =>
  (codec_add N x1 r1).bind fun r2 =>
  some r2
def codec_PutText (N : Nat) (x0 : (List Int)) (x1 : Str) : Option ((List Int)) :=
  (codec_grown N x0 (IntKind.wrap .i64 (10 + (List.length x1 : Int)))).bind fun r1 =>
  (codec_add N (List.length x1 : Int) r1).bind fun r2 =>
  (app 1 r2 (sbytes x1)).bind fun q3 =>
  some q3
def codec_PutNumber_2 (N : Nat) (x0 : (List Int)) (x1 : Int) : Option ((List Int)) :=
  (codec_grown N x0 10).bind fun r1 =>
  (codec_add N x1 r1).bind fun r2 =>
  some r2
def journal_Encode_l1 (N : Nat) (x0 : ApiRequest) : (Int × (List Int)) → Option ((Int × (List Int)) ⊕ (((List Int)))) := fun (v1, v2) =>
  if (decide (v1 < (List.length ([x0.Session, x0.Seq, x0.Kind, x0.At, x0.Sub, x0.Usage] : (List Int)) : Int))) then
    (idx ([x0.Session, x0.Seq, x0.Kind, x0.At, x0.Sub, x0.Usage] : (List Int)) v1).bind fun x3 =>
    (codec_PutNumber N v2 x3).bind fun r4 =>
    some (.inl ((IntKind.wrap .i64 (v1 + 1)), r4))
  else
    some (.inr v2)
def journal_Encode (N : Nat) (x0 : ApiRequest) : Option ((List Int)) :=
  (loopN (journal_Encode_l1 N x0) N (0, ([] : (List Int)))).bind fun v5 =>
  (codec_PutText N v5 x0.B).bind fun r6 =>
  (codec_PutNumber_2 N r6 x0.Used).bind fun r8 =>
  (codec_PutNumber N r8 x0.Ask).bind fun r9 =>
  some r9
def frame_Sum_l1 (N : Nat) (x0 : (List Int)) : (Int × Int) → Option ((Int × Int) ⊕ ((Int))) := fun (v1, v2) =>
  if (decide (v2 < (List.length x0 : Int))) then
    (idx x0 v2).bind fun x3 =>
    some (.inl ((IntKind.wrap .u32 ((Go.bits .xor .u32 v1 (IntKind.wrap .u32 x3)) * 16777619)), (IntKind.wrap .i64 (v2 + 1))))
  else
    some (.inr v1)
def frame_Sum (N : Nat) (x0 : (List Int)) : Option (Int) :=
  (loopN (frame_Sum_l1 N x0) N (2166136261, 0)).bind fun v4 =>
  some v4
def frame_wrap_v2 (N : Nat) (x1 : (List Int)) (m5000 : (List Int)) : Option ((List Int)) :=
  (frame_Sum N x1).bind fun r1 =>
  (codec_PutNumber N ([] : (List Int)) (List.length x1 : Int)).bind fun r2 =>
  (app 1 m5000 r2).bind fun q3 =>
  (shrW .u32 r1 24).bind fun n4 =>
  (shrW .u32 r1 16).bind fun n5 =>
  (shrW .u32 r1 8).bind fun n6 =>
  (app 1 q3 ([(IntKind.wrap .u8 n4), (IntKind.wrap .u8 n5), (IntKind.wrap .u8 n6), (IntKind.wrap .u8 r1)] : (List Int))).bind fun q7 =>
  (app 1 q7 x1).bind fun q8 =>
  some q8
def frame_Wrap (N : Nat) (x0 : (List Int)) : Option (Int × (List Int)) :=
  if (decide ((List.length x0 : Int) > 1048576)) then
    some (5, ([] : (List Int)))
  else
    (mkL 1 0 (IntKind.wrap .i64 ((List.length x0 : Int) + 14)) 0).bind fun m1 =>
    (frame_wrap_v2 N x0 m1).bind fun r2 =>
    some (0, r2)
def journal_Log_trim (N : Nat) (m5000_1 : Int) (m5001 : (List Int)) (m5002 : (List (Int × Int))) : Option (Int × (List (Int × Int)) × (List Int)) :=
  (slc m5001 0 ((findL (k := (.int .i64)) (List.length m5002 : Int) m5002).getD 0)).bind fun s2 =>
  some ((if (List.length s2 : Int) < m5000_1 then (List.length s2 : Int) else m5000_1), m5002, s2)
def journal_Log_Append (N : Nat) (x1 : ApiRequest) (m5000_1 : Int) (m5001 : (List Int)) (m5002 : (List (Int × Int))) : Option (Int × Int × (List (Int × Int)) × (List Int)) :=
  (journal_Log_made N m5000_1 m5001 m5002).bind fun (r1, r2, r3, r4) =>
  if (!r1) then
    some (0, r2, r3, r4)
  else
    (journal_Encode N x1).bind fun r5 =>
    (frame_Wrap N r5).bind fun (r6, r7) =>
    if (r6 != 0) then
      some (r6, r2, r3, r4)
    else
      (journal_Log_trim N r2 r4 r3).bind fun (r8, r9, r10) =>
      (app 1 r10 r7).bind fun q11 =>
      some (0, r8, (putL (k := (.int .i64)) (IntKind.wrap .i64 ((List.length r9 : Int) + 1)) (List.length q11 : Int) r9), q11)
def journal_Log_Sync (N : Nat) (m5000_1 : Int) (m5001 : (List Int)) (m5002 : (List (Int × Int))) : Option (Int × Int × (List (Int × Int)) × (List Int)) :=
  (journal_Log_made N m5000_1 m5001 m5002).bind fun (r1, r2, r3, r4) =>
  if (!r1) then
    some (0, r2, r3, r4)
  else
    (journal_Log_trim N r2 r4 r3).bind fun (r5, r6, r7) =>
    some ((List.length r6 : Int), (List.length r7 : Int), r6, r7)
def journal_Log_Crash_l1 (N : Nat) (r2 : Int) (r4 : (List Int)) (x1 : Int) : (Int × (List (Int × Int))) → Option ((Int × (List (Int × Int))) ⊕ (((List (Int × Int))))) := fun (v7, v8) =>
  if ((decide (v7 > 0)) && (decide (((findL (k := (.int .i64)) v7 v8).getD 0) > (IntKind.wrap .i64 (r2 + (if (IntKind.wrap .i64 ((List.length r4 : Int) - r2)) < (if 0 > x1 then 0 else x1) then (IntKind.wrap .i64 ((List.length r4 : Int) - r2)) else (if 0 > x1 then 0 else x1))))))) then
    some (.inl ((IntKind.wrap .i64 (v7 - 1)), (delL (k := (.int .i64)) v7 v8)))
  else
    some (.inr v8)
def journal_Log_Crash (N : Nat) (x1 : Int) (m5000_1 : Int) (m5001 : (List Int)) (m5002 : (List (Int × Int))) : Option (Int × (List (Int × Int)) × (List Int)) :=
  (journal_Log_made N m5000_1 m5001 m5002).bind fun (r1, r2, r3, r4) =>
  if (!r1) then
    some (r2, r3, r4)
  else
    (slc r4 0 (IntKind.wrap .i64 (r2 + (if (IntKind.wrap .i64 ((List.length r4 : Int) - r2)) < (if 0 > x1 then 0 else x1) then (IntKind.wrap .i64 ((List.length r4 : Int) - r2)) else (if 0 > x1 then 0 else x1))))).bind fun s5 =>
    (loopN (journal_Log_Crash_l1 N r2 r4 x1) N ((List.length r3 : Int), r3)).bind fun v9 =>
    some ((IntKind.wrap .i64 (r2 + (if (IntKind.wrap .i64 ((List.length r4 : Int) - r2)) < (if 0 > x1 then 0 else x1) then (IntKind.wrap .i64 ((List.length r4 : Int) - r2)) else (if 0 > x1 then 0 else x1)))), v9, s5)
def journal_Log_Bytes (N : Nat) (m5000_1 : Int) (m5001 : (List Int)) (m5002 : (List (Int × Int))) : Option (Int × (List (Int × Int)) × (List Int) × (List Int)) :=
  (journal_Log_made N m5000_1 m5001 m5002).bind fun (r1, r2, r3, r4) =>
  if (!r1) then
    some (r2, r3, ([] : (List Int)), r4)
  else
    (cloneR 1 r4).bind fun (r5, r6) =>
    some (r2, r3, r6, r5)
def online_copyBook_l1 (N : Nat) (r4 : (List ApiTariff)) : (Unit) → Option ((Unit) ⊕ ((Unit))) := fun _ =>
  if (decide (0 < (List.length r4 : Int))) then
    none
  else
    some (.inr ())
def online_copyBook_l2 (N : Nat) (r5 : (List ApiProduct)) : (Unit) → Option ((Unit) ⊕ ((Unit))) := fun _ =>
  if (decide (0 < (List.length r5 : Int))) then
    none
  else
    some (.inr ())
def online_copyBook_l3 (N : Nat) (r6 : (List ApiAgreement)) : (Unit) → Option ((Unit) ⊕ ((Unit))) := fun _ =>
  if (decide (0 < (List.length r6 : Int))) then
    none
  else
    some (.inr ())
def online_copyBook (N : Nat) (x0 : ApiBook) : Option (ApiBook) :=
  (cloneF 72 x0.Events).bind fun r1 =>
  (cloneF 32 x0.Taxes).bind fun r2 =>
  (cloneF 8 x0.Holidays).bind fun r3 =>
  (cloneF 128 x0.Tariffs).bind fun r4 =>
  (cloneF 80 x0.Products).bind fun r5 =>
  (cloneF 72 x0.Agreements).bind fun r6 =>
  (loopN (online_copyBook_l1 N r4) N ()).bind fun _ =>
  (loopN (online_copyBook_l2 N r5) N ()).bind fun _ =>
  (loopN (online_copyBook_l3 N r6) N ()).bind fun _ =>
  some (r1, r4, r5, r2, r3, r6)
def online_copyState_l1 (N : Nat) (r1 : (List ApiBucket)) : (Unit) → Option ((Unit) ⊕ ((Unit))) := fun _ =>
  if (decide (0 < (List.length r1 : Int))) then
    none
  else
    some (.inr ())
def online_copyState (N : Nat) (x0 : ApiState) : Option (ApiState) :=
  (cloneF 120 x0.Buckets).bind fun r1 =>
  (cloneF 40 x0.Wallets).bind fun r2 =>
  (cloneF 40 x0.Counters).bind fun r3 =>
  (loopN (online_copyState_l1 N r1) N ()).bind fun _ =>
  some (r1, r2, r3)
def online_New (N : Nat) (x0 : ApiBook) (x1 : ApiState) : Option (ApiBook × ApiState × (List (Int × ApiSession))) :=
  (online_copyBook N x0).bind fun r1 =>
  (online_copyState N x1).bind fun r2 =>
  some (r1, r2, ([] : List (Int × ApiSession)))
def codec_back (N : Nat) (x0 : Int) : Option (Int) :=
  (shrW .u64 x0 1).bind fun n1 =>
  some (Go.bits .xor .i64 (IntKind.wrap .i64 n1) (IntKind.wrap .i64 (0 - (IntKind.wrap .i64 (Go.bits .and .u64 x0 1)))))
def codec_scan_l1 (N : Nat) (x0 : (List Int)) : (Int × Int) → Option ((Int × Int) ⊕ ((Unit) ⊕ (Int × Int × Int))) := fun (v1, v2) =>
  if (decide (v2 < (List.length x0 : Int))) then
    (idx x0 v2).bind fun x3 =>
    if (((v2 == 9) && (x3 != 1)) || ((decide (v2 > 0)) && (x3 == 0))) then
      some (.inr (.inr (0, 0, 1)))
    else
      (shlW .u64 (IntKind.wrap .u64 (Go.bits .and .u8 x3 127)) (IntKind.wrap .i64 (7 * v2))).bind fun n4 =>
      if (decide (x3 < 128)) then
        (codec_back N (Go.bits .or .u64 v1 n4)).bind fun r5 =>
        some (.inr (.inr (r5, (IntKind.wrap .i64 (v2 + 1)), 0)))
      else
        some (.inl ((Go.bits .or .u64 v1 n4), (IntKind.wrap .i64 (v2 + 1))))
  else
    some (.inr (.inl ()))
def codec_scan (N : Nat) (x0 : (List Int)) : Option (Int × Int × Int) :=
  (loopN (codec_scan_l1 N x0) N (0, 0)).bind fun
    | .inl _ =>
      some (0, 0, 2)
    | .inr (v6, v7, v8) =>
      some (v6, v7, v8)
def codec_rest (N : Nat) (x0 : (List Int)) (x1 : Int) : Option ((List Int)) :=
  (mkL 1 (IntKind.wrap .i64 ((List.length x0 : Int) - x1)) (IntKind.wrap .i64 ((List.length x0 : Int) - x1)) 0).bind fun m1 =>
  (chk (decide ((List.length x0 : Int) ≤ (List.length x0 : Int)) && decide ((List.length x0 : Int) ≤ (List.length x0 : Int)))).bind fun _ =>
  (slc x0 x1 (List.length x0 : Int)).bind fun s2 =>
  some (copyL m1 s2)
def codec_Number (N : Nat) (x0 : (List Int)) : Option (Int × Int × (List Int)) :=
  (codec_scan N x0).bind fun (r1, r2, r3) =>
  if (r3 != 0) then
    some (0, r3, ([] : (List Int)))
  else
    (codec_rest N x0 r2).bind fun r4 =>
    some (r1, 0, r4)
def frame_locate (N : Nat) (x0 : (List Int)) : Option (Int × Int × Int) :=
  (chk (decide ((if 10 < (List.length x0 : Int) then 10 else (List.length x0 : Int)) ≤ (if 10 < (List.length x0 : Int) then 10 else (List.length x0 : Int))) && decide ((if 10 < (List.length x0 : Int) then 10 else (List.length x0 : Int)) ≤ (List.length x0 : Int)))).bind fun _ =>
  (slc x0 0 (if 10 < (List.length x0 : Int) then 10 else (List.length x0 : Int))).bind fun s1 =>
  (codec_Number N s1).bind fun (r2, r3, r4) =>
  if (r3 != 0) then
    none
  else
    if (decide (r2 < 0)) then
      none
    else
      if (decide (r2 > 1048576)) then
        none
      else
        if (decide ((IntKind.wrap .i64 ((List.length x0 : Int) - (IntKind.wrap .i64 ((List.length s1 : Int) - (List.length r4 : Int))))) < (IntKind.wrap .i64 (4 + r2)))) then
          some (0, 0, 2)
        else
          (idx x0 (IntKind.wrap .i64 ((List.length s1 : Int) - (List.length r4 : Int)))).bind fun x5 =>
          (shlW .u32 (IntKind.wrap .u32 x5) 24).bind fun n6 =>
          (idx x0 (IntKind.wrap .i64 ((IntKind.wrap .i64 ((List.length s1 : Int) - (List.length r4 : Int))) + 1))).bind fun x7 =>
          (shlW .u32 (IntKind.wrap .u32 x7) 16).bind fun n8 =>
          (idx x0 (IntKind.wrap .i64 ((IntKind.wrap .i64 ((List.length s1 : Int) - (List.length r4 : Int))) + 2))).bind fun x9 =>
          (shlW .u32 (IntKind.wrap .u32 x9) 8).bind fun n10 =>
          (idx x0 (IntKind.wrap .i64 ((IntKind.wrap .i64 ((List.length s1 : Int) - (List.length r4 : Int))) + 3))).bind fun x11 =>
          (slc x0 (IntKind.wrap .i64 ((IntKind.wrap .i64 ((List.length s1 : Int) - (List.length r4 : Int))) + 4)) (IntKind.wrap .i64 ((IntKind.wrap .i64 ((IntKind.wrap .i64 ((List.length s1 : Int) - (List.length r4 : Int))) + 4)) + r2))).bind fun s12 =>
          (frame_Sum N s12).bind fun r13 =>
          if (r13 != (Go.bits .or .u32 (Go.bits .or .u32 (Go.bits .or .u32 n6 n8) n10) (IntKind.wrap .u32 x11))) then
            none
          else
            some ((IntKind.wrap .i64 ((IntKind.wrap .i64 ((List.length s1 : Int) - (List.length r4 : Int))) + 4)), (IntKind.wrap .i64 ((IntKind.wrap .i64 ((IntKind.wrap .i64 ((List.length s1 : Int) - (List.length r4 : Int))) + 4)) + r2)), 0)
def frame_copied (N : Nat) (x0 : (List Int)) (x1 : Int) (x2 : Int) : Option ((List Int)) :=
  (mkL 1 (IntKind.wrap .i64 (x2 - x1)) (IntKind.wrap .i64 (x2 - x1)) 0).bind fun m1 =>
  (chk (decide (x2 ≤ x2) && decide (x2 ≤ (List.length x0 : Int)))).bind fun _ =>
  (slc x0 x1 x2).bind fun s2 =>
  some (copyL m1 s2)
def frame_All_l1 (N : Nat) (x0 : (List Int)) : (Int × (List (List Int))) → Option ((Int × (List (List Int))) ⊕ ((Int × (List (List Int))))) := fun (v2, v3) =>
  if (decide (v2 < (List.length x0 : Int))) then
    (slc x0 v2 (List.length x0 : Int)).bind fun s4 =>
    (frame_locate N s4).bind fun (r7, r8, r9) =>
    if (r9 != 0) then
      some (.inr (v2, v3))
    else
      (frame_copied N x0 (IntKind.wrap .i64 (v2 + r7)) (IntKind.wrap .i64 (v2 + r8))).bind fun r10 =>
      (app 24 v3 ([r10] : (List (List Int)))).bind fun q11 =>
      some (.inl ((IntKind.wrap .i64 (v2 + r8)), q11))
  else
    none
def frame_All (N : Nat) (x0 : (List Int)) : Option (Int × (List (List Int))) :=
  (loopN (frame_All_l1 N x0) N (0, ([] : (List (List Int))))).bind fun (v12, v13) =>
  some (v12, v13)
def journal_reader_number (N : Nat) (m5000 : JournalReader) : Option (Int × (List Int) × Int) :=
  if (m5000.bad != 0) then
    some (0, m5000.rest, m5000.bad)
  else
    (codec_Number N m5000.rest).bind fun (r1, r2, r3) =>
    some (r1, r3, r2)
def codec_length (N : Nat) (x0 : (List Int)) : Option (Int × Int × Int) :=
  (codec_scan N x0).bind fun (r1, r2, r3) =>
  if (r3 != 0) then
    some (0, 0, r3)
  else
    if (decide (r1 < 0)) then
      some (0, 0, 1)
    else
      if (decide (r1 > 1048576)) then
        some (0, 0, 5)
      else
        some (r1, r2, 0)
def codec_rest_2 (N : Nat) (x0 : (List Int)) (x1 : Int) : Option ((List Int)) :=
  (mkL 1 (IntKind.wrap .i64 ((List.length x0 : Int) - x1)) (IntKind.wrap .i64 ((List.length x0 : Int) - x1)) 0).bind fun m1 =>
  (chk (decide ((List.length x0 : Int) ≤ (List.length x0 : Int)) && decide ((List.length x0 : Int) ≤ (List.length x0 : Int)))).bind fun _ =>
  (slc x0 x1 (List.length x0 : Int)).bind fun s2 =>
  some (copyL m1 s2)
def codec_Text (N : Nat) (x0 : (List Int)) : Option (Str × (List Int) × Int) :=
  (codec_length N x0).bind fun (r1, r2, r3) =>
  if (r3 != 0) then
    some (([] : Str), ([] : (List Int)), r3)
  else
    if (decide ((IntKind.wrap .i64 ((List.length x0 : Int) - r2)) < r1)) then
      some (([] : Str), ([] : (List Int)), 2)
    else
      (slc x0 r2 (IntKind.wrap .i64 (r2 + r1))).bind fun s4 =>
      (codec_rest_2 N x0 (IntKind.wrap .i64 (r2 + r1))).bind fun r5 =>
      some ((bstr s4), r5, 0)
def journal_reader_text (N : Nat) (m5000 : JournalReader) : Option (Str × JournalReader) :=
  if (m5000.bad != 0) then
    some (([] : Str), m5000)
  else
    (codec_Text N m5000.rest).bind fun (r1, r2, r3) =>
    some (r1, (r2, r3))
def journal_Decode (N : Nat) (x0 : (List Int)) : Option (ApiRequest × Int) :=
  (journal_reader_number N (x0, 0)).bind fun (r1, r2, r3) =>
  (journal_reader_number N (r2, r3)).bind fun (r4, r5, r6) =>
  (journal_reader_number N (r5, r6)).bind fun (r7, r8, r9) =>
  (journal_reader_number N (r8, r9)).bind fun (r10, r11, r12) =>
  (journal_reader_number N (r11, r12)).bind fun (r13, r14, r15) =>
  (journal_reader_number N (r14, r15)).bind fun (r16, r17, r18) =>
  (journal_reader_text N (r17, r18)).bind fun (r19, r20) =>
  (journal_reader_number N r20).bind fun (r21, r22, r23) =>
  (journal_reader_number N (r22, r23)).bind fun (r24, r25, r26) =>
  if (r26 != 0) then
    some ((0, 0, 0, 0, 0, 0, ([] : Str), 0, 0), r26)
  else
    if (decide ((List.length r25 : Int) > 0)) then
      some ((0, 0, 0, 0, 0, 0, ([] : Str), 0, 0), 3)
    else
      some ((r1, r4, r7, r10, r13, r16, r19, r21, r24), 0)
def online_Server_made (N : Nat) (m5000_0 : ApiBook) (m5000_1 : ApiState) (m5001 : (List (Int × ApiSession))) : Option (Bool × ApiBook × ApiState × (List (Int × ApiSession))) :=
  some (true, m5000_0, m5000_1, m5001)
def online_refusal (N : Nat) (x0 : ApiRequest) (x1 : Int) : Option (ApiAnswer) :=
  some (x0.Session, x0.Seq, 0, 0, x1)
def online_Server_Do (N : Nat) (x1 : ApiRequest) (m5000_0 : ApiBook) (m5000_1 : ApiState) (m5001 : (List (Int × ApiSession))) : Option (ApiAnswer × ApiBook × ApiState × (List (Int × ApiSession))) :=
  (online_Server_made N m5000_0 m5000_1 m5001).bind fun (r1, r2, r3, r4) =>
  if (!r1) then
    none
  else
    if ((decide (x1.Kind < 1)) || (decide (x1.Kind ≥ 5))) then
      (online_refusal N x1 7).bind fun r5 =>
      some (r5, r2, r3, r4)
    else
      none
def journal_Recover_l1 (N : Nat) (r5 : (List (List Int))) : (Int × Int × ApiBook × ApiState × (List (Int × ApiSession))) → Option ((Int × Int × ApiBook × ApiState × (List (Int × ApiSession))) ⊕ ((Int × ApiBook × ApiState × (List (Int × ApiSession))))) := fun (v8, v9, v10, v11, v12) =>
  if (decide (v9 < (List.length r5 : Int))) then
    (idx r5 v9).bind fun _ =>
    (idx r5 v9).bind fun x13 =>
    (journal_Decode N x13).bind fun (r14, r15) =>
    if (r15 != 0) then
      none
    else
      (online_Server_Do N r14 v10 v11 v12).bind fun (r16, r17, r18, r19) =>
      some (.inl ((IntKind.wrap .i64 (v8 + 1)), (IntKind.wrap .i64 (v9 + 1)), r17, r18, r19))
  else
    some (.inr (v8, v10, v11, v12))
def journal_Recover (N : Nat) (x0 : ApiBook) (x1 : ApiState) (x2 : (List Int)) : Option (Int × ApiBook × ApiState × (List (Int × ApiSession))) :=
  (online_New N x0 x1).bind fun (r1, r2, r3) =>
  (frame_All N x2).bind fun (r4, r5) =>
  (loopN (journal_Recover_l1 N r5) N (0, 0, r1, r2, r3)).bind fun (v20, v21, v22, v23) =>
  some (v20, v21, v22, v23)
def billinglaw42_alive (N : Nat) : Option (Bool) :=
  (journal_New N).bind fun (r1, r2) =>
  if false then
    none
  else
    (journal_Log_Append N (0, 0, 0, 0, 0, 0, ([] : Str), 0, 0) r1 ([] : (List Int)) r2).bind fun (r3, r4, r5, r6) =>
    (journal_Log_Append N (1, 0, 0, 0, 0, 0, ([] : Str), 0, 0) r4 r6 r5).bind fun (r7, r8, r9, r10) =>
    (journal_Log_Sync N r8 r10 r9).bind fun (r11, r12, r13, r14) =>
    (journal_Log_Append N (0, 0, 0, 0, 0, 0, ([] : Str), 0, 0) r12 r14 r13).bind fun (r15, r16, r17, r18) =>
    (journal_Log_Crash N 3 r16 r18 r17).bind fun (r19, r20, r21) =>
    (journal_Log_Bytes N r19 r21 r20).bind fun (r22, r23, r24, r25) =>
    (journal_Recover N (([] : (List ApiEvent)), ([] : (List ApiTariff)), ([] : (List ApiProduct)), ([] : (List ApiTax)), ([] : (List Int)), ([] : (List ApiAgreement))) (([] : (List ApiBucket)), ([] : (List ApiWallet)), ([] : (List ApiCounter))) r24).bind fun (r26, r27, r28, r29) =>
    (journal_Log_Bytes N r22 r25 r23).bind fun (r30, r31, r32, r33) =>
    (journal_Log_Append N (0, 0, 0, 0, 0, 0, ([] : Str), 0, 0) r30 r33 r31).bind fun (r34, r35, r36, r37) =>
    (if (((((((r3 == 0) && (r7 == 0)) && (r11 == 2)) && (r15 == 0)) && (r26 == 2)) && ((List.length r32 : Int) == 31)) && (r34 == 0)) then
      (journal_Log_Bytes N r35 r37 r36).bind fun (r42, r43, r44, r45) =>
      some (((List.length r44 : Int) == 42), r42, r45, r43)
    else
      some (false, r35, r37, r36) : Option (Bool × Int × (List Int) × (List (Int × Int)))).bind fun (v46, v47, v48, v49) =>
    (if v46 then
      (journal_Encode N (0, 0, 0, 0, 0, 0, ([] : Str), 0, 0)).bind fun r51 =>
      some ((List.length r51 : Int) == 9)
    else
      some false : Option (Bool)).bind fun v52 =>
    some v52
def billingref07_join (N : Nat) (x0 : (List Int)) (x1 : (List Int)) : Option ((List Int)) :=
  (app 1 ([] : (List Int)) x0).bind fun q1 =>
  (app 1 q1 x1).bind fun q2 =>
  some q2
def billingref07_Number_l1 (N : Nat) (x0 : (List Int)) : (Int × Int × Int) → Option ((Int × Int × Int) ⊕ ((Unit) ⊕ (Int × Int × (List Int)))) := fun (v1, v2, v3) =>
  if (decide (v3 < 10)) then
    if (v3 == (List.length x0 : Int)) then
      some (.inr (.inr (0, 2, ([] : (List Int)))))
    else
      (idx x0 v3).bind fun x4 =>
      if (((v3 == 9) && ((IntKind.wrap .u64 x4) != 1)) || ((decide (v3 > 0)) && ((IntKind.wrap .u64 x4) == 0))) then
        some (.inr (.inr (0, 1, ([] : (List Int)))))
      else
        if (decide ((IntKind.wrap .u64 x4) ≥ 128)) then
          some (.inl ((IntKind.wrap .u64 (v1 + (IntKind.wrap .u64 ((Int.tmod (IntKind.wrap .u64 x4) 128) * v2)))), (IntKind.wrap .u64 (v2 * 128)), (IntKind.wrap .i64 (v3 + 1))))
        else
          (slc x0 (IntKind.wrap .i64 (v3 + 1)) (List.length x0 : Int)).bind fun s5 =>
          (billingref07_join N ([] : (List Int)) s5).bind fun r6 =>
          if ((Int.tmod (IntKind.wrap .u64 (v1 + (IntKind.wrap .u64 ((Int.tmod (IntKind.wrap .u64 x4) 128) * v2)))) 2) == 1) then
            some (.inr (.inr ((IntKind.wrap .i64 ((IntKind.wrap .i64 (0 - (IntKind.wrap .i64 (IntKind.wrap .u64 (Int.tdiv (IntKind.wrap .u64 (v1 + (IntKind.wrap .u64 ((Int.tmod (IntKind.wrap .u64 x4) 128) * v2)))) 2))))) - 1)), 0, r6)))
          else
            some (.inr (.inr ((IntKind.wrap .i64 (IntKind.wrap .u64 (Int.tdiv (IntKind.wrap .u64 (v1 + (IntKind.wrap .u64 ((Int.tmod (IntKind.wrap .u64 x4) 128) * v2)))) 2))), 0, r6)))
  else
    some (.inr (.inl ()))
def billingref07_Number (N : Nat) (x0 : (List Int)) : Option (Int × Int × (List Int)) :=
  (loopN (billingref07_Number_l1 N x0) N (0, 1, 0)).bind fun
    | .inl _ =>
      some (0, 1, ([] : (List Int)))
    | .inr (v7, v8, v9) =>
      some (v7, v8, v9)
def billingref07_Bytes_l1 (N : Nat) : (Int × (List Int)) → Option ((Int × (List Int)) ⊕ ((Int × (List Int)))) := fun (v3, v4) =>
  if (decide (v3 > 127)) then
    (app 1 v4 ([(IntKind.wrap .u8 (IntKind.wrap .u64 (128 + (Int.tmod v3 128))))] : (List Int))).bind fun q5 =>
    some (.inl ((IntKind.wrap .u64 (Int.tdiv v3 128)), q5))
  else
    some (.inr (v3, v4))
def billingref07_Bytes (N : Nat) (x0 : Int) : Option ((List Int)) :=
  (if (decide (x0 < 0)) then
    some (IntKind.wrap .u64 ((IntKind.wrap .u64 (2 * (IntKind.wrap .u64 (IntKind.wrap .i64 (0 - (IntKind.wrap .i64 (x0 + 1))))))) + 1))
  else
    some (IntKind.wrap .u64 (2 * (IntKind.wrap .u64 x0))) : Option ((Int))).bind fun v1 =>
  (loopN (billingref07_Bytes_l1 N) N (v1, ([] : (List Int)))).bind fun (v6, v7) =>
  (app 1 v7 ([(IntKind.wrap .u8 v6)] : (List Int))).bind fun q8 =>
  some q8
def billingref07_PutNumber (N : Nat) (x0 : (List Int)) (x1 : Int) : Option ((List Int)) :=
  (billingref07_Bytes N x1).bind fun r1 =>
  (billingref07_join N x0 r1).bind fun r2 =>
  some r2
def billingref07_PutText (N : Nat) (x0 : (List Int)) (x1 : Str) : Option ((List Int)) :=
  (billingref07_PutNumber N x0 (List.length x1 : Int)).bind fun r1 =>
  (app 1 ([] : List Int) (sbytes x1)).bind fun q2 =>
  (billingref07_join N r1 q2).bind fun r3 =>
  some r3
def billingref42_Encode (N : Nat) (x0 : ApiRequest) : Option ((List Int)) :=
  (billingref07_PutNumber N ([] : (List Int)) x0.Session).bind fun r1 =>
  (billingref07_PutNumber N r1 x0.Seq).bind fun r2 =>
  (billingref07_PutNumber N r2 x0.Kind).bind fun r3 =>
  (billingref07_PutNumber N r3 x0.At).bind fun r4 =>
  (billingref07_PutNumber N r4 x0.Sub).bind fun r5 =>
  (billingref07_PutNumber N r5 x0.Usage).bind fun r6 =>
  (billingref07_PutText N r6 x0.B).bind fun r7 =>
  (billingref07_PutNumber N r7 x0.Used).bind fun r8 =>
  (billingref07_PutNumber N r8 x0.Ask).bind fun r9 =>
  some r9
def billingref07_Same (N : Nat) (x0 : (List Int)) (x1 : (List Int)) : Option (Bool) :=
  some ((bstr x0) == (bstr x1))
def billingref42_New (N : Nat) : Option (Int) :=
  some 0
def billingref42_Encode_2 (N : Nat) (x0 : ApiRequest) : Option ((List Int)) :=
  (billingref07_PutNumber N ([] : (List Int)) x0.Session).bind fun r1 =>
  (billingref07_PutNumber N r1 x0.Seq).bind fun r2 =>
  (billingref07_PutNumber N r2 x0.Kind).bind fun r3 =>
  (billingref07_PutNumber N r3 x0.At).bind fun r4 =>
  (billingref07_PutNumber N r4 x0.Sub).bind fun r5 =>
  (billingref07_PutNumber N r5 x0.Usage).bind fun r6 =>
  (billingref07_PutText N r6 x0.B).bind fun r7 =>
  (billingref07_PutNumber N r7 x0.Used).bind fun r8 =>
  (billingref07_PutNumber N r8 x0.Ask).bind fun r9 =>
  some r9
def billingref08_Sum_l1 (N : Nat) (x0 : (List Int)) : (Int × Int) → Option ((Int × Int) ⊕ ((Int))) := fun (v1, v2) =>
  if (decide (v2 < (List.length x0 : Int))) then
    (idx x0 v2).bind fun x3 =>
    some (.inl ((IntKind.wrap .u32 ((Go.bits .xor .u32 v1 (IntKind.wrap .u32 x3)) * 16777619)), (IntKind.wrap .i64 (v2 + 1))))
  else
    some (.inr v1)
def billingref08_Sum (N : Nat) (x0 : (List Int)) : Option (Int) :=
  (loopN (billingref08_Sum_l1 N x0) N (2166136261, 0)).bind fun v4 =>
  some v4
def billingref08_Wrap (N : Nat) (x0 : (List Int)) : Option (Int × (List Int)) :=
  if (decide ((List.length x0 : Int) > 1048576)) then
    some (5, ([] : (List Int)))
  else
    (billingref08_Sum N x0).bind fun r1 =>
    (billingref07_PutNumber N ([] : (List Int)) (List.length x0 : Int)).bind fun r2 =>
    (shrW .u32 r1 24).bind fun n3 =>
    (shrW .u32 r1 16).bind fun n4 =>
    (shrW .u32 r1 8).bind fun n5 =>
    (app 1 r2 ([(IntKind.wrap .u8 n3), (IntKind.wrap .u8 n4), (IntKind.wrap .u8 n5), (IntKind.wrap .u8 r1)] : (List Int))).bind fun q6 =>
    (app 1 q6 x0).bind fun q7 =>
    some (0, q7)
def billingref08_Unwrap (N : Nat) (x0 : (List Int)) : Option (Int × (List Int) × (List Int)) :=
  (billingref07_Number N x0).bind fun (r1, r2, r3) =>
  if (r2 != 0) then
    some (r2, ([] : (List Int)), ([] : (List Int)))
  else
    if (decide (r1 < 0)) then
      some (1, ([] : (List Int)), ([] : (List Int)))
    else
      if (decide (r1 > 1048576)) then
        some (5, ([] : (List Int)), ([] : (List Int)))
      else
        if (decide ((List.length r3 : Int) < (IntKind.wrap .i64 (4 + r1)))) then
          some (2, ([] : (List Int)), ([] : (List Int)))
        else
          (slc r3 4 (IntKind.wrap .i64 (4 + r1))).bind fun s4 =>
          (app 1 ([] : (List Int)) s4).bind fun q5 =>
          (idx r3 0).bind fun x6 =>
          (shlW .u32 (IntKind.wrap .u32 x6) 24).bind fun n7 =>
          (idx r3 1).bind fun x8 =>
          (shlW .u32 (IntKind.wrap .u32 x8) 16).bind fun n9 =>
          (idx r3 2).bind fun x10 =>
          (shlW .u32 (IntKind.wrap .u32 x10) 8).bind fun n11 =>
          (idx r3 3).bind fun x12 =>
          (billingref08_Sum N q5).bind fun r13 =>
          if (r13 != (IntKind.wrap .u32 ((IntKind.wrap .u32 ((IntKind.wrap .u32 (n7 + n9)) + n11)) + (IntKind.wrap .u32 x12)))) then
            some (4, ([] : (List Int)), ([] : (List Int)))
          else
            (slc r3 (IntKind.wrap .i64 (4 + r1)) (List.length r3 : Int)).bind fun s14 =>
            (app 1 ([] : (List Int)) s14).bind fun q15 =>
            some (0, q5, q15)
def billingref08_All_2_l1 (N : Nat) : ((List (List Int)) × (List Int)) → Option (((List (List Int)) × (List Int)) ⊕ (((List (List Int)) × (List Int)))) := fun (v3, v4) =>
  if (decide ((List.length v4 : Int) > 0)) then
    (billingref08_Unwrap N v4).bind fun (r6, r7, r8) =>
    if (r6 != 0) then
      some (.inr (v3, v4))
    else
      (app 24 v3 ([r7] : (List (List Int)))).bind fun q9 =>
      some (.inl (q9, r8))
  else
    some (.inr (v3, v4))
def billingref08_All_2 (N : Nat) (m5000 : (List Int)) : Option (Int × (List Int) × (List (List Int))) :=
  (app 1 ([] : (List Int)) m5000).bind fun q1 =>
  (loopN (billingref08_All_2_l1 N) N (([] : (List (List Int))), q1)).bind fun (v10, v11) =>
  some ((IntKind.wrap .i64 ((List.length m5000 : Int) - (List.length v11 : Int))), m5000, v10)
def billingref42_Log_trim (N : Nat) (m5000_1 : Int) (m5001 : (List Int)) : Option (Int × Int × (List Int)) :=
  (billingref08_All_2 N m5001).bind fun (r1, r2, r3) =>
  (chk (decide (r1 ≤ r1) && decide (r1 ≤ (List.length r2 : Int)))).bind fun _ =>
  (slc r2 0 r1).bind fun s4 =>
  some ((List.length r3 : Int), (if r1 < m5000_1 then r1 else m5000_1), s4)
def billingref42_Log_Append (N : Nat) (x1 : ApiRequest) (m5000_1 : Int) (m5001 : (List Int)) : Option (Int × Int × (List Int)) :=
  (billingref42_Encode_2 N x1).bind fun r1 =>
  (billingref08_Wrap N r1).bind fun (r2, r3) =>
  if (r2 != 0) then
    some (r2, m5000_1, m5001)
  else
    (billingref42_Log_trim N m5000_1 m5001).bind fun (r4, r5, r6) =>
    (app 1 r6 r3).bind fun q7 =>
    some (0, r5, q7)
def billingref42_Log_Sync (N : Nat) (m5000_1 : Int) (m5001 : (List Int)) : Option (Int × Int × (List Int)) :=
  (billingref42_Log_trim N m5000_1 m5001).bind fun (r1, r2, r3) =>
  some (r1, (List.length r3 : Int), r3)
def billingref42_Log_Crash (N : Nat) (x1 : Int) (m5000_1 : Int) (m5001 : (List Int)) : Option (Int × (List Int)) :=
  (chk (decide ((IntKind.wrap .i64 (m5000_1 + (if (IntKind.wrap .i64 ((List.length m5001 : Int) - m5000_1)) < (if 0 > x1 then 0 else x1) then (IntKind.wrap .i64 ((List.length m5001 : Int) - m5000_1)) else (if 0 > x1 then 0 else x1)))) ≤ (IntKind.wrap .i64 (m5000_1 + (if (IntKind.wrap .i64 ((List.length m5001 : Int) - m5000_1)) < (if 0 > x1 then 0 else x1) then (IntKind.wrap .i64 ((List.length m5001 : Int) - m5000_1)) else (if 0 > x1 then 0 else x1))))) && decide ((IntKind.wrap .i64 (m5000_1 + (if (IntKind.wrap .i64 ((List.length m5001 : Int) - m5000_1)) < (if 0 > x1 then 0 else x1) then (IntKind.wrap .i64 ((List.length m5001 : Int) - m5000_1)) else (if 0 > x1 then 0 else x1)))) ≤ (List.length m5001 : Int)))).bind fun _ =>
  (slc m5001 0 (IntKind.wrap .i64 (m5000_1 + (if (IntKind.wrap .i64 ((List.length m5001 : Int) - m5000_1)) < (if 0 > x1 then 0 else x1) then (IntKind.wrap .i64 ((List.length m5001 : Int) - m5000_1)) else (if 0 > x1 then 0 else x1))))).bind fun s1 =>
  some ((IntKind.wrap .i64 (m5000_1 + (if (IntKind.wrap .i64 ((List.length m5001 : Int) - m5000_1)) < (if 0 > x1 then 0 else x1) then (IntKind.wrap .i64 ((List.length m5001 : Int) - m5000_1)) else (if 0 > x1 then 0 else x1)))), s1)
def billingref42_Log_Bytes (N : Nat) (m5000_1 : Int) (m5001 : (List Int)) : Option (Int × (List Int) × (List Int)) :=
  (app 1 ([] : (List Int)) m5001).bind fun q1 =>
  some (m5000_1, q1, m5001)
def billinglaw42_JournalLogs_l1 (N : Nat) (x0 : (List Billinglaw42Op)) : (Int × Int × Int × (List Int) × (List (Int × Int)) × (List Int)) → Option ((Int × Int × Int × (List Int) × (List (Int × Int)) × (List Int)) ⊕ ((Unit) ⊕ (Bool))) := fun (v13, v14, v15, v16, v17, v18) =>
  if (decide (v13 < (List.length x0 : Int))) then
    (idx x0 v13).bind fun x19 =>
    if (decide ((List.length x19.Request.B : Int) > 100)) then
      (billinglaw42_alive N).bind fun r43 =>
      some (.inr (.inr r43))
    else
      (if (x19.Call == 0) then
        (journal_Log_Append N x19.Request v14 v16 v17).bind fun (r60, r61, r62, r63) =>
        (billingref42_Log_Append N x19.Request v15 v18).bind fun (r64, r65, r66) =>
        if (r60 != r64) then
          some (.inr false)
        else
          some (.inl (r61, r65, r63, r62, r66))
      else
        if (x19.Call == 1) then
          (journal_Log_Sync N v14 v16 v17).bind fun (r67, r68, r69, r70) =>
          (billingref42_Log_Sync N v15 v18).bind fun (r71, r72, r73) =>
          if (r67 != r71) then
            some (.inr false)
          else
            some (.inl (r68, r72, r70, r69, r73))
        else
          if (x19.Call == 2) then
            (journal_Log_Crash N x19.Keep v14 v16 v17).bind fun (r74, r75, r76) =>
            (billingref42_Log_Crash N x19.Keep v15 v18).bind fun (r77, r78) =>
            some (.inl (r74, r77, r76, r75, r78))
          else
            some (.inl (v14, v15, v16, v17, v18)) : Option ((Int × Int × (List Int) × (List (Int × Int)) × (List Int)) ⊕ (Bool))).bind fun
        | .inl (v79, v80, v81, v82, v83) =>
          (journal_Log_Bytes N v79 v81 v82).bind fun (r84, r85, r86, r87) =>
          (billingref42_Log_Bytes N v80 v83).bind fun (r88, r89, r90) =>
          (billingref07_Same N r86 r89).bind fun r91 =>
          if (!r91) then
            some (.inr (.inr false))
          else
            some (.inl ((IntKind.wrap .i64 (v13 + 1)), r84, r88, r87, r85, r90))
        | .inr v92 =>
          some (.inr (.inr v92))
  else
    some (.inr (.inl ()))
def billinglaw42_JournalLogs (N : Nat) (x0 : (List Billinglaw42Op)) : Option (Bool) :=
  if (decide ((List.length x0 : Int) > 30)) then
    (billinglaw42_alive N).bind fun r1 =>
    some r1
  else
    (journal_New N).bind fun (r2, r3) =>
    (billingref42_New N).bind fun r4 =>
    if false then
      some false
    else
      (loopN (billinglaw42_JournalLogs_l1 N x0) N (0, r2, r4, ([] : (List Int)), r3, ([] : (List Int)))).bind fun
        | .inl _ =>
          (billinglaw42_alive N).bind fun r93 =>
          some r93
        | .inr v94 =>
          some v94
end Gx
