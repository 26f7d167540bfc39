/- The Go functions as Lean functions. -/
import Derived.Test.YtknipijkpcbadaaGreatXRd
namespace Gx
open Go Gd
set_option linter.unusedVariables false
abbrev tyApiPeriod : Ty := .st (.pr (.int .i64) (.int .i64))
abbrev ApiPeriod : Type := Int × Int
abbrev ApiPeriod.From (x : ApiPeriod) : Int := x.1
abbrev ApiPeriod.To (x : ApiPeriod) : Int := x.2
abbrev tyApiBucket : Ty := .st (.pr (.int .i64) (.pr (.int .i64) (.pr .str (.pr (.int .i64) (.pr (.int .i64) (.pr (.sl .str) (.pr tyApiPeriod (.pr (.int .i64) (.pr (.int .i64) (.pr (.int .i64) .bool))))))))))
abbrev ApiBucket : Type := Int × Int × Str × Int × Int × (List Str) × ApiPeriod × Int × Int × Int × Bool
abbrev ApiBucket.Account (x : ApiBucket) : Int := x.1
abbrev ApiBucket.Sub (x : ApiBucket) : Int := x.2.1
abbrev ApiBucket.Product (x : ApiBucket) : Str := x.2.2.1
abbrev ApiBucket.Index (x : ApiBucket) : Int := x.2.2.2.1
abbrev ApiBucket.Kind (x : ApiBucket) : Int := x.2.2.2.2.1
abbrev ApiBucket.Zones (x : ApiBucket) : (List Str) := x.2.2.2.2.2.1
abbrev ApiBucket.Valid (x : ApiBucket) : ApiPeriod := x.2.2.2.2.2.2.1
abbrev ApiBucket.Units (x : ApiBucket) : Int := x.2.2.2.2.2.2.2.1
abbrev ApiBucket.Left (x : ApiBucket) : Int := x.2.2.2.2.2.2.2.2.1
abbrev ApiBucket.Priority (x : ApiBucket) : Int := x.2.2.2.2.2.2.2.2.2.1
abbrev ApiBucket.Shared (x : ApiBucket) : Bool := x.2.2.2.2.2.2.2.2.2.2
abbrev tyApiWallet : Ty := .st (.pr (.int .i64) (.pr (.int .i64) (.pr (.int .i64) (.pr (.int .i64) (.int .i64)))))
abbrev ApiWallet : Type := Int × Int × Int × Int × Int
abbrev ApiWallet.Account (x : ApiWallet) : Int := x.1
abbrev ApiWallet.Balance (x : ApiWallet) : Int := x.2.1
abbrev ApiWallet.Floor (x : ApiWallet) : Int := x.2.2.1
abbrev ApiWallet.Held (x : ApiWallet) : Int := x.2.2.2.1
abbrev ApiWallet.Until (x : ApiWallet) : Int := x.2.2.2.2
abbrev tyApiCounter : Ty := .st (.pr (.int .i64) (.pr (.int .i64) (.pr (.int .i64) (.pr (.int .i64) (.int .i64)))))
abbrev ApiCounter : Type := Int × Int × Int × Int × Int
abbrev ApiCounter.Sub (x : ApiCounter) : Int := x.1
abbrev ApiCounter.Kind (x : ApiCounter) : Int := x.2.1
abbrev ApiCounter.From (x : ApiCounter) : Int := x.2.2.1
abbrev ApiCounter.Units (x : ApiCounter) : Int := x.2.2.2.1
abbrev ApiCounter.Spent (x : ApiCounter) : Int := x.2.2.2.2
abbrev tyApiState : Ty := .st (.pr (.sl tyApiBucket) (.pr (.sl tyApiWallet) (.sl tyApiCounter)))
abbrev ApiState : Type := (List ApiBucket) × (List ApiWallet) × (List ApiCounter)
abbrev ApiState.Buckets (x : ApiState) : (List ApiBucket) := x.1
abbrev ApiState.Wallets (x : ApiState) : (List ApiWallet) := x.2.1
abbrev ApiState.Counters (x : ApiState) : (List ApiCounter) := x.2.2
abbrev tyApiStep : Ty := .st (.pr (.int .i64) (.pr (.int .i64) (.int .i64)))
abbrev ApiStep : Type := Int × Int × Int
abbrev ApiStep.Upto (x : ApiStep) : Int := x.1
abbrev ApiStep.Quantum (x : ApiStep) : Int := x.2.1
abbrev ApiStep.Price (x : ApiStep) : Int := x.2.2
abbrev tyApiRate : Ty := .st (.pr (.int .i64) (.pr .str (.pr .str (.pr (.int .i64) (.sl tyApiStep)))))
abbrev ApiRate : Type := Int × Str × Str × Int × (List ApiStep)
abbrev ApiRate.Kind (x : ApiRate) : Int := x.1
abbrev ApiRate.Zone (x : ApiRate) : Str := x.2.1
abbrev ApiRate.Band (x : ApiRate) : Str := x.2.2.1
abbrev ApiRate.Setup (x : ApiRate) : Int := x.2.2.2.1
abbrev ApiRate.Steps (x : ApiRate) : (List ApiStep) := x.2.2.2.2
abbrev tyApiMeter : Ty := .st (.pr (.int .i64) (.pr (.int .i64) (.pr (.int .i64) (.pr .str (.pr .str (.pr (.int .i64) (.pr tyApiRate (.pr (.int .i64) (.int .i64)))))))))
abbrev ApiMeter : Type := Int × Int × Int × Str × Str × Int × ApiRate × Int × Int
abbrev ApiMeter.Account (x : ApiMeter) : Int := x.1
abbrev ApiMeter.Sub (x : ApiMeter) : Int := x.2.1
abbrev ApiMeter.Kind (x : ApiMeter) : Int := x.2.2.1
abbrev ApiMeter.Zone (x : ApiMeter) : Str := x.2.2.2.1
abbrev ApiMeter.Plan (x : ApiMeter) : Str := x.2.2.2.2.1
abbrev ApiMeter.Version (x : ApiMeter) : Int := x.2.2.2.2.2.1
abbrev ApiMeter.Rate (x : ApiMeter) : ApiRate := x.2.2.2.2.2.2.1
abbrev ApiMeter.Free (x : ApiMeter) : Int := x.2.2.2.2.2.2.2.1
abbrev ApiMeter.Paid (x : ApiMeter) : Int := x.2.2.2.2.2.2.2.2
abbrev tyApiTake : Ty := .st (.pr (.int .i64) (.pr .str (.pr (.int .i64) (.pr (.int .i64) (.int .i64)))))
abbrev ApiTake : Type := Int × Str × Int × Int × Int
abbrev ApiTake.Sub (x : ApiTake) : Int := x.1
abbrev ApiTake.Product (x : ApiTake) : Str := x.2.1
abbrev ApiTake.Index (x : ApiTake) : Int := x.2.2.1
abbrev ApiTake.From (x : ApiTake) : Int := x.2.2.2.1
abbrev ApiTake.Units (x : ApiTake) : Int := x.2.2.2.2
abbrev tyApiAnswer : Ty := .st (.pr (.int .i64) (.pr (.int .i64) (.pr (.int .i64) (.pr (.int .i64) (.int .i64)))))
abbrev ApiAnswer : Type := Int × Int × Int × Int × Int
abbrev ApiAnswer.Session (x : ApiAnswer) : Int := x.1
abbrev ApiAnswer.Seq (x : ApiAnswer) : Int := x.2.1
abbrev ApiAnswer.Granted (x : ApiAnswer) : Int := x.2.2.1
abbrev ApiAnswer.Until (x : ApiAnswer) : Int := x.2.2.2.1
abbrev ApiAnswer.Err (x : ApiAnswer) : Int := x.2.2.2.2
abbrev tyApiSession : Ty := .st (.pr (.int .i64) (.pr (.int .i64) (.pr (.int .i64) (.pr (.int .i64) (.pr tyApiMeter (.pr (.int .i64) (.pr (.sl tyApiTake) (.pr (.int .i64) (.pr (.int .i64) (.pr .bool tyApiAnswer))))))))))
abbrev ApiSession : Type := Int × Int × Int × Int × ApiMeter × Int × (List ApiTake) × Int × Int × Bool × ApiAnswer
abbrev ApiSession.Id (x : ApiSession) : Int := x.1
abbrev ApiSession.Seq (x : ApiSession) : Int := x.2.1
abbrev ApiSession.Start (x : ApiSession) : Int := x.2.2.1
abbrev ApiSession.Until (x : ApiSession) : Int := x.2.2.2.1
abbrev ApiSession.Meter (x : ApiSession) : ApiMeter := x.2.2.2.2.1
abbrev ApiSession.Granted (x : ApiSession) : Int := x.2.2.2.2.2.1
abbrev ApiSession.Takes (x : ApiSession) : (List ApiTake) := x.2.2.2.2.2.2.1
abbrev ApiSession.Held (x : ApiSession) : Int := x.2.2.2.2.2.2.2.1
abbrev ApiSession.Spent (x : ApiSession) : Int := x.2.2.2.2.2.2.2.2.1
abbrev ApiSession.Closed (x : ApiSession) : Bool := x.2.2.2.2.2.2.2.2.2.1
abbrev ApiSession.Last (x : ApiSession) : ApiAnswer := x.2.2.2.2.2.2.2.2.2.2
abbrev tyApiRequest : Ty := .st (.pr (.int .i64) (.pr (.int .i64) (.pr (.int .i64) (.pr (.int .i64) (.pr (.int .i64) (.pr (.int .i64) (.pr .str (.pr (.int .i64) (.int .i64)))))))))
abbrev ApiRequest : Type := Int × Int × Int × Int × Int × Int × Str × Int × Int
abbrev ApiRequest.Session (x : ApiRequest) : Int := x.1
abbrev ApiRequest.Seq (x : ApiRequest) : Int := x.2.1
abbrev ApiRequest.Kind (x : ApiRequest) : Int := x.2.2.1
abbrev ApiRequest.At (x : ApiRequest) : Int := x.2.2.2.1
abbrev ApiRequest.Sub (x : ApiRequest) : Int := x.2.2.2.2.1
abbrev ApiRequest.Usage (x : ApiRequest) : Int := x.2.2.2.2.2.1
abbrev ApiRequest.B (x : ApiRequest) : Str := x.2.2.2.2.2.2.1
abbrev ApiRequest.Used (x : ApiRequest) : Int := x.2.2.2.2.2.2.2.1
abbrev ApiRequest.Ask (x : ApiRequest) : Int := x.2.2.2.2.2.2.2.2
abbrev tyBillinglaw42Op : Ty := .st (.pr (.int .i64) (.pr tyApiRequest (.int .i64)))
abbrev Billinglaw42Op : Type := Int × ApiRequest × Int
abbrev Billinglaw42Op.Call (x : Billinglaw42Op) : Int := x.1
abbrev Billinglaw42Op.Request (x : Billinglaw42Op) : ApiRequest := x.2.1
abbrev Billinglaw42Op.Keep (x : Billinglaw42Op) : Int := x.2.2
abbrev tyJournalLog : Ty := .st (.pr (.sl (.int .u8)) (.pr (.int .i64) .ref))
abbrev JournalLog : Type := (List Int) × Int × Unit
abbrev JournalLog.bytes (x : JournalLog) : (List Int) := x.1
abbrev JournalLog.safe (x : JournalLog) : Int := x.2.1
abbrev JournalLog.ends (x : JournalLog) : Unit := x.2.2
abbrev tyApiEvent : Ty := .st (.pr (.int .i64) (.pr (.int .i64) (.pr (.int .i64) (.pr (.int .i64) (.pr .str (.pr .str (.int .i64)))))))
abbrev ApiEvent : Type := Int × Int × Int × Int × Str × Str × Int
abbrev ApiEvent.At (x : ApiEvent) : Int := x.1
abbrev ApiEvent.Kind (x : ApiEvent) : Int := x.2.1
abbrev ApiEvent.Account (x : ApiEvent) : Int := x.2.2.1
abbrev ApiEvent.Sub (x : ApiEvent) : Int := x.2.2.2.1
abbrev ApiEvent.Number (x : ApiEvent) : Str := x.2.2.2.2.1
abbrev ApiEvent.Name (x : ApiEvent) : Str := x.2.2.2.2.2.1
abbrev ApiEvent.Value (x : ApiEvent) : Int := x.2.2.2.2.2.2
abbrev tyApiZone : Ty := .st (.pr .str (.sl .str))
abbrev ApiZone : Type := Str × (List Str)
abbrev ApiZone.Name (x : ApiZone) : Str := x.1
abbrev ApiZone.Prefixes (x : ApiZone) : (List Str) := x.2
abbrev tyApiSlot : Ty := .st (.pr (.int .i64) (.pr (.int .i64) (.int .i64)))
abbrev ApiSlot : Type := Int × Int × Int
abbrev ApiSlot.Days (x : ApiSlot) : Int := x.1
abbrev ApiSlot.From (x : ApiSlot) : Int := x.2.1
abbrev ApiSlot.To (x : ApiSlot) : Int := x.2.2
abbrev tyApiBand : Ty := .st (.pr .str (.sl tyApiSlot))
abbrev ApiBand : Type := Str × (List ApiSlot)
abbrev ApiBand.Name (x : ApiBand) : Str := x.1
abbrev ApiBand.Slots (x : ApiBand) : (List ApiSlot) := x.2
abbrev tyApiExpr : Ty := .rose (.pr (.int .i64) (.pr (.int .i64) .str))
abbrev ApiExpr : Type := Rose (Int × Int × Str)
abbrev ApiExpr.Op (x : ApiExpr) : Int := x.x.1
abbrev ApiExpr.Num (x : ApiExpr) : Int := x.x.2.1
abbrev ApiExpr.Text (x : ApiExpr) : Str := x.x.2.2
abbrev ApiExpr.Args (x : ApiExpr) : List ApiExpr := x.ks
abbrev tyApiDiscount : Ty := .st (.pr .str (.pr tyApiExpr (.int .i64)))
abbrev ApiDiscount : Type := Str × ApiExpr × Int
abbrev ApiDiscount.Name (x : ApiDiscount) : Str := x.1
abbrev ApiDiscount.When (x : ApiDiscount) : ApiExpr := x.2.1
abbrev ApiDiscount.Points (x : ApiDiscount) : Int := x.2.2
abbrev tyApiTariff : Ty := .st (.pr .str (.pr (.int .i64) (.pr .bool (.pr (.sl tyApiZone) (.pr (.sl tyApiBand) (.pr (.sl tyApiRate) (.sl tyApiDiscount)))))))
abbrev ApiTariff : Type := Str × Int × Bool × (List ApiZone) × (List ApiBand) × (List ApiRate) × (List ApiDiscount)
abbrev ApiTariff.Name (x : ApiTariff) : Str := x.1
abbrev ApiTariff.From (x : ApiTariff) : Int := x.2.1
abbrev ApiTariff.Split (x : ApiTariff) : Bool := x.2.2.1
abbrev ApiTariff.Zones (x : ApiTariff) : (List ApiZone) := x.2.2.2.1
abbrev ApiTariff.Bands (x : ApiTariff) : (List ApiBand) := x.2.2.2.2.1
abbrev ApiTariff.Rates (x : ApiTariff) : (List ApiRate) := x.2.2.2.2.2.1
abbrev ApiTariff.Discounts (x : ApiTariff) : (List ApiDiscount) := x.2.2.2.2.2.2
abbrev tyApiBundle : Ty := .st (.pr (.int .i64) (.pr (.sl .str) (.pr (.int .i64) (.pr (.int .i64) (.pr (.int .i64) .bool)))))
abbrev ApiBundle : Type := Int × (List Str) × Int × Int × Int × Bool
abbrev ApiBundle.Kind (x : ApiBundle) : Int := x.1
abbrev ApiBundle.Zones (x : ApiBundle) : (List Str) := x.2.1
abbrev ApiBundle.Units (x : ApiBundle) : Int := x.2.2.1
abbrev ApiBundle.Rollover (x : ApiBundle) : Int := x.2.2.2.1
abbrev ApiBundle.Priority (x : ApiBundle) : Int := x.2.2.2.2.1
abbrev ApiBundle.Shared (x : ApiBundle) : Bool := x.2.2.2.2.2
abbrev tyApiProduct : Ty := .st (.pr .str (.pr (.int .i64) (.pr (.int .i64) (.pr .str (.pr .bool (.sl tyApiBundle))))))
abbrev ApiProduct : Type := Str × Int × Int × Str × Bool × (List ApiBundle)
abbrev ApiProduct.Name (x : ApiProduct) : Str := x.1
abbrev ApiProduct.From (x : ApiProduct) : Int := x.2.1
abbrev ApiProduct.Fee (x : ApiProduct) : Int := x.2.2.1
abbrev ApiProduct.Category (x : ApiProduct) : Str := x.2.2.2.1
abbrev ApiProduct.Prorate (x : ApiProduct) : Bool := x.2.2.2.2.1
abbrev ApiProduct.Bundles (x : ApiProduct) : (List ApiBundle) := x.2.2.2.2.2
abbrev tyApiTax : Ty := .st (.pr .str (.pr (.int .i64) (.int .i64)))
abbrev ApiTax : Type := Str × Int × Int
abbrev ApiTax.Category (x : ApiTax) : Str := x.1
abbrev ApiTax.From (x : ApiTax) : Int := x.2.1
abbrev ApiTax.Points (x : ApiTax) : Int := x.2.2
abbrev tyApiAgreement : Ty := .st (.pr (.int .i64) (.pr (.int .i64) (.pr .bool (.pr tyApiPeriod (.pr (.sl tyApiStep) (.int .i64))))))
abbrev ApiAgreement : Type := Int × Int × Bool × ApiPeriod × (List ApiStep) × Int
abbrev ApiAgreement.Partner (x : ApiAgreement) : Int := x.1
abbrev ApiAgreement.Kind (x : ApiAgreement) : Int := x.2.1
abbrev ApiAgreement.Inbound (x : ApiAgreement) : Bool := x.2.2.1
abbrev ApiAgreement.Valid (x : ApiAgreement) : ApiPeriod := x.2.2.2.1
abbrev ApiAgreement.Steps (x : ApiAgreement) : (List ApiStep) := x.2.2.2.2.1
abbrev ApiAgreement.Cap (x : ApiAgreement) : Int := x.2.2.2.2.2
abbrev tyApiBook : Ty := .st (.pr (.sl tyApiEvent) (.pr (.sl tyApiTariff) (.pr (.sl tyApiProduct) (.pr (.sl tyApiTax) (.pr (.sl (.int .i64)) (.sl tyApiAgreement))))))
abbrev ApiBook : Type := (List ApiEvent) × (List ApiTariff) × (List ApiProduct) × (List ApiTax) × (List Int) × (List ApiAgreement)
abbrev ApiBook.Events (x : ApiBook) : (List ApiEvent) := x.1
abbrev ApiBook.Tariffs (x : ApiBook) : (List ApiTariff) := x.2.1
abbrev ApiBook.Products (x : ApiBook) : (List ApiProduct) := x.2.2.1
abbrev ApiBook.Taxes (x : ApiBook) : (List ApiTax) := x.2.2.2.1
abbrev ApiBook.Holidays (x : ApiBook) : (List Int) := x.2.2.2.2.1
abbrev ApiBook.Agreements (x : ApiBook) : (List ApiAgreement) := x.2.2.2.2.2
abbrev tyOnlineServer : Ty := .st (.pr tyApiBook (.pr tyApiState .ref))
abbrev OnlineServer : Type := ApiBook × ApiState × Unit
abbrev OnlineServer.book (x : OnlineServer) : ApiBook := x.1
abbrev OnlineServer.state (x : OnlineServer) : ApiState := x.2.1
abbrev OnlineServer.sessions (x : OnlineServer) : Unit := x.2.2
abbrev tyBillinglaw42Case : Ty := .st (.pr tyApiBook (.pr tyApiState (.sl tyApiRequest)))
abbrev Billinglaw42Case : Type := ApiBook × ApiState × (List ApiRequest)
abbrev Billinglaw42Case.Book (x : Billinglaw42Case) : ApiBook := x.1
abbrev Billinglaw42Case.State (x : Billinglaw42Case) : ApiState := x.2.1
abbrev Billinglaw42Case.Requests (x : Billinglaw42Case) : (List ApiRequest) := x.2.2
abbrev tyJournalReader : Ty := .st (.pr (.sl (.int .u8)) (.int .i64))
abbrev JournalReader : Type := (List Int) × Int
abbrev JournalReader.rest (x : JournalReader) : (List Int) := x.1
abbrev JournalReader.bad (x : JournalReader) : Int := x.2
abbrev tyBillingref42Reader : Ty := .st (.pr (.sl (.int .u8)) (.int .i64))
abbrev Billingref42Reader : Type := (List Int) × Int
abbrev Billingref42Reader.b (x : Billingref42Reader) : (List Int) := x.1
abbrev Billingref42Reader.e (x : Billingref42Reader) : Int := x.2
abbrev tyBillingref42Log : Ty := .st (.pr (.sl (.int .u8)) (.int .i64))
abbrev Billingref42Log : Type := (List Int) × Int
abbrev Billingref42Log.b (x : Billingref42Log) : (List Int) := x.1
abbrev Billingref42Log.safe (x : Billingref42Log) : Int := x.2
abbrev tySessionChange : Ty := .st (.pr tyApiSession tyApiState)
abbrev SessionChange : Type := ApiSession × ApiState
abbrev SessionChange.Session (x : SessionChange) : ApiSession := x.1
abbrev SessionChange.state (x : SessionChange) : ApiState := x.2
abbrev tyBucketIdentity : Ty := .st (.pr (.int .i64) (.pr .str (.pr (.int .i64) (.int .i64))))
abbrev BucketIdentity : Type := Int × Str × Int × Int
abbrev BucketIdentity.sub (x : BucketIdentity) : Int := x.1
abbrev BucketIdentity.product (x : BucketIdentity) : Str := x.2.1
abbrev BucketIdentity.index (x : BucketIdentity) : Int := x.2.2.1
abbrev tyApiSpell : Ty := .st (.pr tyApiPeriod (.pr .str (.pr (.sl .str) (.pr .bool .bool))))
abbrev ApiSpell : Type := ApiPeriod × Str × (List Str) × Bool × Bool
abbrev ApiSpell.Period (x : ApiSpell) : ApiPeriod := x.1
abbrev ApiSpell.Plan (x : ApiSpell) : Str := x.2.1
abbrev ApiSpell.Products (x : ApiSpell) : (List Str) := x.2.2.1
abbrev ApiSpell.Suspended (x : ApiSpell) : Bool := x.2.2.2.1
abbrev ApiSpell.Family (x : ApiSpell) : Bool := x.2.2.2.2
abbrev tyApiSub : Ty := .st (.pr (.int .i64) (.pr (.int .i64) (.pr (.int .i64) (.pr .str (.pr (.sl .str) (.pr (.sl .str) (.pr .bool .bool)))))))
abbrev ApiSub : Type := Int × Int × Int × Str × (List Str) × (List Str) × Bool × Bool
abbrev ApiSub.Id (x : ApiSub) : Int := x.1
abbrev ApiSub.Account (x : ApiSub) : Int := x.2.1
abbrev ApiSub.Since (x : ApiSub) : Int := x.2.2.1
abbrev ApiSub.Plan (x : ApiSub) : Str := x.2.2.2.1
abbrev ApiSub.Numbers (x : ApiSub) : (List Str) := x.2.2.2.2.1
abbrev ApiSub.Products (x : ApiSub) : (List Str) := x.2.2.2.2.2.1
abbrev ApiSub.Suspended (x : ApiSub) : Bool := x.2.2.2.2.2.2.1
abbrev ApiSub.Family (x : ApiSub) : Bool := x.2.2.2.2.2.2.2
abbrev tyApiAccount : Ty := .st (.pr (.int .i64) (.pr (.int .i64) (.pr (.int .i64) (.pr .bool (.pr .bool (.sl (.int .i64)))))))
abbrev ApiAccount : Type := Int × Int × Int × Bool × Bool × (List Int)
abbrev ApiAccount.Id (x : ApiAccount) : Int := x.1
abbrev ApiAccount.Since (x : ApiAccount) : Int := x.2.1
abbrev ApiAccount.Anchor (x : ApiAccount) : Int := x.2.2.1
abbrev ApiAccount.Prepaid (x : ApiAccount) : Bool := x.2.2.2.1
abbrev ApiAccount.Closed (x : ApiAccount) : Bool := x.2.2.2.2.1
abbrev ApiAccount.Subs (x : ApiAccount) : (List Int) := x.2.2.2.2.2
abbrev tyBillingref17Book : Ty := .st (.pr (.sl tyApiAccount) (.pr (.sl tyApiSub) (.sl (.int .i64))))
abbrev Billingref17Book : Type := (List ApiAccount) × (List ApiSub) × (List Int)
abbrev Billingref17Book.Accounts (x : Billingref17Book) : (List ApiAccount) := x.1
abbrev Billingref17Book.Subs (x : Billingref17Book) : (List ApiSub) := x.2.1
abbrev Billingref17Book.Ended (x : Billingref17Book) : (List Int) := x.2.2
abbrev tyBundleStore : Ty := .st (.pr (.sl tyApiBucket) .ref)
abbrev BundleStore : Type := (List ApiBucket) × Unit
abbrev BundleStore.list (x : BundleStore) : (List ApiBucket) := x.1
abbrev BundleStore.has (x : BundleStore) : Unit := x.2
abbrev tyBundleIdentity : Ty := .st (.pr (.int .i64) (.pr .str (.pr (.int .i64) (.int .i64))))
abbrev BundleIdentity : Type := Int × Str × Int × Int
abbrev BundleIdentity.sub (x : BundleIdentity) : Int := x.1
abbrev BundleIdentity.product (x : BundleIdentity) : Str := x.2.1
abbrev BundleIdentity.index (x : BundleIdentity) : Int := x.2.2.1
abbrev tyBundleHolding : Ty := .st (.pr (.int .i64) (.pr (.int .i64) (.pr .str (.sl tyApiPeriod))))
abbrev BundleHolding : Type := Int × Int × Str × (List ApiPeriod)
abbrev BundleHolding.account (x : BundleHolding) : Int := x.1
abbrev BundleHolding.sub (x : BundleHolding) : Int := x.2.1
abbrev BundleHolding.product (x : BundleHolding) : Str := x.2.2.1
abbrev BundleHolding.active (x : BundleHolding) : (List ApiPeriod) := x.2.2.2
abbrev tyBundleGranted : Ty := .st (.pr tyApiBucket (.int .i64))
abbrev BundleGranted : Type := ApiBucket × Int
abbrev BundleGranted.bucket (x : BundleGranted) : ApiBucket := x.1
abbrev BundleGranted.rollover (x : BundleGranted) : Int := x.2
abbrev tyQuotaPriced : Ty := .st tyApiMeter
abbrev QuotaPriced : Type := ApiMeter
abbrev QuotaPriced.Meter (x : QuotaPriced) : ApiMeter := x
abbrev tySubscribeMoment : Ty := .st (.pr (.int .i64) tyApiSub)
abbrev SubscribeMoment : Type := Int × ApiSub
abbrev SubscribeMoment.s (x : SubscribeMoment) : ApiSub := x.2
def journal_New (N : Nat) : Option (Int × (List (Int × Int))) :=
  some (0, ([] : List (Int × Int)))
def journal_Log_made (N : Nat) (m5000_1 : Int) (m5001 : (List Int)) (m5002 : (List (Int × Int))) : Option (Bool × Int × (List (Int × Int)) × (List Int)) :=
  some (true, m5000_1, m5002, m5001)
def codec_grown (N : Nat) (x0 : (List Int)) (x1 : Int) : Option ((List Int)) :=
  (mkL 1 (List.length x0 : Int) (IntKind.wrap .i64 ((List.length x0 : Int) + x1)) 0).bind fun m1 =>
  some (copyL m1 x0)
def codec_zigzag (N : Nat) (x0 : Int) : Option (Int) :=
  (shlW .u64 (IntKind.wrap .u64 x0) 1).bind fun n1 =>
  (shrW .i64 x0 63).bind fun n2 =>
  some (Go.bits .xor .u64 n1 (IntKind.wrap .u64 n2))
def codec_add_l1 (N : Nat) : (Int × (List Int)) → Option ((Int × (List Int)) ⊕ ((Int × (List Int)))) := fun (v2, v3) =>
  if (decide (v2 ≥ 128)) then
    (app 1 v3 ([(Go.bits .or .u8 (IntKind.wrap .u8 v2) 128)] : (List Int))).bind fun q4 =>
    (shrW .u64 v2 7).bind fun n5 =>
    some (.inl (n5, q4))
  else
    some (.inr (v2, v3))
def codec_add (N : Nat) (x1 : Int) (m5000 : (List Int)) : Option ((List Int)) :=
  (codec_zigzag N x1).bind fun r1 =>
  (loopN (codec_add_l1 N) N (r1, m5000)).bind fun (v6, v7) =>
  (app 1 v7 ([(IntKind.wrap .u8 v6)] : (List Int))).bind fun q8 =>
  some q8
def codec_PutNumber (N : Nat) (x0 : (List Int)) (x1 : Int) : Option ((List Int)) :=
  (codec_grown N x0 10).bind fun r1 =>
  (codec_add N x1 r1).bind fun r2 =>
  some r2
def codec_PutText (N : Nat) (x0 : (List Int)) (x1 : Str) : Option ((List Int)) :=
  (codec_grown N x0 (IntKind.wrap .i64 (10 + (List.length x1 : Int)))).bind fun r1 =>
  (codec_add N (List.length x1 : Int) r1).bind fun r2 =>
  (app 1 r2 (sbytes x1)).bind fun q3 =>
  some q3
def codec_PutNumber_2 (N : Nat) (x0 : (List Int)) (x1 : Int) : Option ((List Int)) :=
  (codec_grown N x0 10).bind fun r1 =>
  (codec_add N x1 r1).bind fun r2 =>
  some r2
def journal_Encode_l1 (N : Nat) (x0 : ApiRequest) : (Int × (List Int)) → Option ((Int × (List Int)) ⊕ (((List Int)))) := fun (v1, v2) =>
  if (decide (v1 < (List.length ([x0.Session, x0.Seq, x0.Kind, x0.At, x0.Sub, x0.Usage] : (List Int)) : Int))) then
    (idx ([x0.Session, x0.Seq, x0.Kind, x0.At, x0.Sub, x0.Usage] : (List Int)) v1).bind fun x3 =>
    (codec_PutNumber N v2 x3).bind fun r4 =>
    some (.inl ((IntKind.wrap .i64 (v1 + 1)), r4))
  else
    some (.inr v2)
def journal_Encode (N : Nat) (x0 : ApiRequest) : Option ((List Int)) :=
  (loopN (journal_Encode_l1 N x0) N (0, ([] : (List Int)))).bind fun v5 =>
  (codec_PutText N v5 x0.B).bind fun r6 =>
  (codec_PutNumber_2 N r6 x0.Used).bind fun r8 =>
  (codec_PutNumber N r8 x0.Ask).bind fun r9 =>
  some r9
def frame_Sum_l1 (N : Nat) (x0 : (List Int)) : (Int × Int) → Option ((Int × Int) ⊕ ((Int))) := fun (v1, v2) =>
  if (decide (v2 < (List.length x0 : Int))) then
    (idx x0 v2).bind fun x3 =>
    some (.inl ((IntKind.wrap .u32 ((Go.bits .xor .u32 v1 (IntKind.wrap .u32 x3)) * 16777619)), (IntKind.wrap .i64 (v2 + 1))))
  else
    some (.inr v1)
def frame_Sum (N : Nat) (x0 : (List Int)) : Option (Int) :=
  (loopN (frame_Sum_l1 N x0) N (2166136261, 0)).bind fun v4 =>
  some v4
def frame_wrap_v2 (N : Nat) (x1 : (List Int)) (m5000 : (List Int)) : Option ((List Int)) :=
  (frame_Sum N x1).bind fun r1 =>
  (codec_PutNumber N ([] : (List Int)) (List.length x1 : Int)).bind fun r2 =>
  (app 1 m5000 r2).bind fun q3 =>
  (shrW .u32 r1 24).bind fun n4 =>
  (shrW .u32 r1 16).bind fun n5 =>
  (shrW .u32 r1 8).bind fun n6 =>
  (app 1 q3 ([(IntKind.wrap .u8 n4), (IntKind.wrap .u8 n5), (IntKind.wrap .u8 n6), (IntKind.wrap .u8 r1)] : (List Int))).bind fun q7 =>
  (app 1 q7 x1).bind fun q8 =>
  some q8
def frame_Wrap (N : Nat) (x0 : (List Int)) : Option (Int × (List Int)) :=
  if (decide ((List.length x0 : Int) > 1048576)) then
    some (5, ([] : (List Int)))
  else
    (mkL 1 0 (IntKind.wrap .i64 ((List.length x0 : Int) + 14)) 0).bind fun m1 =>
    (frame_wrap_v2 N x0 m1).bind fun r2 =>
    some (0, r2)
def journal_Log_trim (N : Nat) (m5000_1 : Int) (m5001 : (List Int)) (m5002 : (List (Int × Int))) : Option (Int × (List (Int × Int)) × (List Int)) :=
  (slc m5001 0 ((findL (k := (.int .i64)) (List.length m5002 : Int) m5002).getD 0)).bind fun s2 =>
  some ((if (List.length s2 : Int) < m5000_1 then (List.length s2 : Int) else m5000_1), m5002, s2)
def journal_Log_Append (N : Nat) (x1 : ApiRequest) (m5000_1 : Int) (m5001 : (List Int)) (m5002 : (List (Int × Int))) : Option (Int × Int × (List (Int × Int)) × (List Int)) :=
  (journal_Log_made N m5000_1 m5001 m5002).bind fun (r1, r2, r3, r4) =>
  if (!r1) then
    some (0, r2, r3, r4)
  else
    (journal_Encode N x1).bind fun r5 =>
    (frame_Wrap N r5).bind fun (r6, r7) =>
    if (r6 != 0) then
      some (r6, r2, r3, r4)
    else
      (journal_Log_trim N r2 r4 r3).bind fun (r8, r9, r10) =>
      (app 1 r10 r7).bind fun q11 =>
      some (0, r8, (putL (k := (.int .i64)) (IntKind.wrap .i64 ((List.length r9 : Int) + 1)) (List.length q11 : Int) r9), q11)
def journal_Log_Sync (N : Nat) (m5000_1 : Int) (m5001 : (List Int)) (m5002 : (List (Int × Int))) : Option (Int × Int × (List (Int × Int)) × (List Int)) :=
  (journal_Log_made N m5000_1 m5001 m5002).bind fun (r1, r2, r3, r4) =>
  if (!r1) then
    some (0, r2, r3, r4)
  else
    (journal_Log_trim N r2 r4 r3).bind fun (r5, r6, r7) =>
    some ((List.length r6 : Int), (List.length r7 : Int), r6, r7)
def journal_Log_Crash_l1 (N : Nat) (r2 : Int) (r4 : (List Int)) (x1 : Int) : (Int × (List (Int × Int))) → Option ((Int × (List (Int × Int))) ⊕ (((List (Int × Int))))) := fun (v7, v8) =>
  if ((decide (v7 > 0)) && (decide (((findL (k := (.int .i64)) v7 v8).getD 0) > (IntKind.wrap .i64 (r2 + (if (IntKind.wrap .i64 ((List.length r4 : Int) - r2)) < (if 0 > x1 then 0 else x1) then (IntKind.wrap .i64 ((List.length r4 : Int) - r2)) else (if 0 > x1 then 0 else x1))))))) then
    some (.inl ((IntKind.wrap .i64 (v7 - 1)), (delL (k := (.int .i64)) v7 v8)))
  else
    some (.inr v8)
def journal_Log_Crash (N : Nat) (x1 : Int) (m5000_1 : Int) (m5001 : (List Int)) (m5002 : (List (Int × Int))) : Option (Int × (List (Int × Int)) × (List Int)) :=
  (journal_Log_made N m5000_1 m5001 m5002).bind fun (r1, r2, r3, r4) =>
  if (!r1) then
    some (r2, r3, r4)
  else
    (slc r4 0 (IntKind.wrap .i64 (r2 + (if (IntKind.wrap .i64 ((List.length r4 : Int) - r2)) < (if 0 > x1 then 0 else x1) then (IntKind.wrap .i64 ((List.length r4 : Int) - r2)) else (if 0 > x1 then 0 else x1))))).bind fun s5 =>
    (loopN (journal_Log_Crash_l1 N r2 r4 x1) N ((List.length r3 : Int), r3)).bind fun v9 =>
    some ((IntKind.wrap .i64 (r2 + (if (IntKind.wrap .i64 ((List.length r4 : Int) - r2)) < (if 0 > x1 then 0 else x1) then (IntKind.wrap .i64 ((List.length r4 : Int) - r2)) else (if 0 > x1 then 0 else x1)))), v9, s5)
def journal_Log_Bytes (N : Nat) (m5000_1 : Int) (m5001 : (List Int)) (m5002 : (List (Int × Int))) : Option (Int × (List (Int × Int)) × (List Int) × (List Int)) :=
  (journal_Log_made N m5000_1 m5001 m5002).bind fun (r1, r2, r3, r4) =>
  if (!r1) then
    some (r2, r3, ([] : (List Int)), r4)
  else
    (cloneR 1 r4).bind fun (r5, r6) =>
    some (r2, r3, r6, r5)
def online_copyExpr_2_l1 (N : Nat) (self : ApiExpr →  Option (ApiExpr)) (r1 : (List ApiExpr)) : (Int × (List ApiExpr)) → Option ((Int × (List ApiExpr)) ⊕ (((List ApiExpr)))) := fun (v3, v4) =>
  if (decide (v3 < (List.length r1 : Int))) then
    (idx v4 v3).bind fun _ =>
    (idx v4 v3).bind fun x5 =>
    (self x5).bind fun r6 =>
    (idx v4 v3).bind fun _ =>
    (idx v4 v3).bind fun y7 =>
    some (.inl ((IntKind.wrap .i64 (v3 + 1)), (List.set v4 (Int.toNat v3) r6)))
  else
    some (.inr v4)
def online_copyExpr_2_r (N : Nat) : Nat → ApiExpr → Option (ApiExpr)
  | 0, _ => none
  | n + 1, x0 =>
    (cloneF 56 x0.Args).bind fun r1 =>
    (loopN (online_copyExpr_2_l1 N (online_copyExpr_2_r N n) r1) N (0, r1)).bind fun v8 =>
    some (Rose.mk (x0.Op, x0.Num, x0.Text) v8)
def online_copyExpr_2 (N : Nat) (x0 : ApiExpr) : Option (ApiExpr) := online_copyExpr_2_r N N x0
def online_copyExpr_l1 (N : Nat) (r1 : (List ApiExpr)) : (Int × (List ApiExpr)) → Option ((Int × (List ApiExpr)) ⊕ (((List ApiExpr)))) := fun (v3, v4) =>
  if (decide (v3 < (List.length r1 : Int))) then
    (idx v4 v3).bind fun _ =>
    (idx v4 v3).bind fun x5 =>
    (online_copyExpr_2 N x5).bind fun r6 =>
    (idx v4 v3).bind fun _ =>
    (idx v4 v3).bind fun y7 =>
    some (.inl ((IntKind.wrap .i64 (v3 + 1)), (List.set v4 (Int.toNat v3) r6)))
  else
    some (.inr v4)
def online_copyExpr_r (N : Nat) : Nat → ApiExpr → Option (ApiExpr)
  | 0, _ => none
  | n + 1, x0 =>
    (cloneF 56 x0.Args).bind fun r1 =>
    (loopN (online_copyExpr_l1 N r1) N (0, r1)).bind fun v8 =>
    some (Rose.mk (x0.Op, x0.Num, x0.Text) v8)
def online_copyExpr (N : Nat) (x0 : ApiExpr) : Option (ApiExpr) := online_copyExpr_r N N x0
def online_copyTariff_2_l1 (N : Nat) (r1 : (List ApiZone)) : (Int × (List ApiZone)) → Option ((Int × (List ApiZone)) ⊕ (((List ApiZone)))) := fun (v6, v7) =>
  if (decide (v6 < (List.length r1 : Int))) then
    (idx v7 v6).bind fun _ =>
    (idx v7 v6).bind fun x9 =>
    (cloneF 16 x9.Prefixes).bind fun r10 =>
    (idx v7 v6).bind fun _ =>
    (idx v7 v6).bind fun y11 =>
    some (.inl ((IntKind.wrap .i64 (v6 + 1)), (List.set v7 (Int.toNat v6) (y11.Name, r10))))
  else
    some (.inr v7)
def online_copyTariff_2_l2 (N : Nat) (r2 : (List ApiBand)) : (Int × (List ApiBand)) → Option ((Int × (List ApiBand)) ⊕ (((List ApiBand)))) := fun (v14, v15) =>
  if (decide (v14 < (List.length r2 : Int))) then
    (idx v15 v14).bind fun _ =>
    (idx v15 v14).bind fun x17 =>
    (cloneF 24 x17.Slots).bind fun r18 =>
    (idx v15 v14).bind fun _ =>
    (idx v15 v14).bind fun y19 =>
    some (.inl ((IntKind.wrap .i64 (v14 + 1)), (List.set v15 (Int.toNat v14) (y19.Name, r18))))
  else
    some (.inr v15)
def online_copyTariff_2_l3 (N : Nat) (r3 : (List ApiRate)) : (Int × (List ApiRate)) → Option ((Int × (List ApiRate)) ⊕ (((List ApiRate)))) := fun (v22, v23) =>
  if (decide (v22 < (List.length r3 : Int))) then
    (idx v23 v22).bind fun _ =>
    (idx v23 v22).bind fun x25 =>
    (cloneF 24 x25.Steps).bind fun r26 =>
    (idx v23 v22).bind fun _ =>
    (idx v23 v22).bind fun y27 =>
    some (.inl ((IntKind.wrap .i64 (v22 + 1)), (List.set v23 (Int.toNat v22) (y27.Kind, y27.Zone, y27.Band, y27.Setup, r26))))
  else
    some (.inr v23)
def online_copyTariff_2_l4 (N : Nat) (r4 : (List ApiDiscount)) : (Int × (List ApiDiscount)) → Option ((Int × (List ApiDiscount)) ⊕ (((List ApiDiscount)))) := fun (v30, v31) =>
  if (decide (v30 < (List.length r4 : Int))) then
    (idx v31 v30).bind fun _ =>
    (idx v31 v30).bind fun x33 =>
    (online_copyExpr N x33.When).bind fun r34 =>
    (idx v31 v30).bind fun _ =>
    (idx v31 v30).bind fun y35 =>
    some (.inl ((IntKind.wrap .i64 (v30 + 1)), (List.set v31 (Int.toNat v30) (y35.Name, r34, y35.Points))))
  else
    some (.inr v31)
def online_copyTariff_2 (N : Nat) (x0 : ApiTariff) : Option (Str × Int × Bool × (List ApiZone) × (List ApiBand) × (List ApiRate) × (List ApiDiscount)) :=
  (cloneF 40 x0.Zones).bind fun r1 =>
  (cloneF 40 x0.Bands).bind fun r2 =>
  (cloneF 72 x0.Rates).bind fun r3 =>
  (cloneF 80 x0.Discounts).bind fun r4 =>
  (loopN (online_copyTariff_2_l1 N r1) N (0, r1)).bind fun v12 =>
  (loopN (online_copyTariff_2_l2 N r2) N (0, r2)).bind fun v20 =>
  (loopN (online_copyTariff_2_l3 N r3) N (0, r3)).bind fun v28 =>
  (loopN (online_copyTariff_2_l4 N r4) N (0, r4)).bind fun v36 =>
  some (x0.Name, x0.From, x0.Split, v12, v20, v28, v36)
def online_copyBook_l1 (N : Nat) (r4 : (List ApiTariff)) : (Int × (List ApiTariff)) → Option ((Int × (List ApiTariff)) ⊕ (((List ApiTariff)))) := fun (v8, v9) =>
  if (decide (v8 < (List.length r4 : Int))) then
    (idx v9 v8).bind fun _ =>
    (idx v9 v8).bind fun x11 =>
    (online_copyTariff_2 N x11).bind fun (r24, r25, r26, r27, r28, r29, r30) =>
    (idx v9 v8).bind fun _ =>
    (idx v9 v8).bind fun y31 =>
    some (.inl ((IntKind.wrap .i64 (v8 + 1)), (List.set v9 (Int.toNat v8) (r24, r25, r26, r27, r28, r29, r30))))
  else
    some (.inr v9)
def online_copyBook_l3 (N : Nat) (r37 : (List ApiBundle)) : (Int × (List ApiBundle)) → Option ((Int × (List ApiBundle)) ⊕ (((List ApiBundle)))) := fun (v40, v41) =>
  if (decide (v40 < (List.length r37 : Int))) then
    (idx v41 v40).bind fun _ =>
    (idx v41 v40).bind fun x42 =>
    (cloneF 16 x42.Zones).bind fun r43 =>
    (idx v41 v40).bind fun _ =>
    (idx v41 v40).bind fun y44 =>
    some (.inl ((IntKind.wrap .i64 (v40 + 1)), (List.set v41 (Int.toNat v40) (y44.Kind, r43, y44.Units, y44.Rollover, y44.Priority, y44.Shared))))
  else
    some (.inr v41)
def online_copyBook_l4 (N : Nat) (r5 : (List ApiProduct)) : (Int × (List ApiProduct)) → Option ((Int × (List ApiProduct)) ⊕ (((List ApiProduct)))) := fun (v34, v35) =>
  if (decide (v34 < (List.length r5 : Int))) then
    (idx v35 v34).bind fun _ =>
    (idx v35 v34).bind fun x36 =>
    (cloneF 64 x36.Bundles).bind fun r37 =>
    (loopN (online_copyBook_l3 N r37) N (0, r37)).bind fun v45 =>
    (idx v35 v34).bind fun _ =>
    (idx v35 v34).bind fun y46 =>
    some (.inl ((IntKind.wrap .i64 (v34 + 1)), (List.set v35 (Int.toNat v34) (y46.Name, y46.From, y46.Fee, y46.Category, y46.Prorate, v45))))
  else
    some (.inr v35)
def online_copyBook_l5 (N : Nat) (r6 : (List ApiAgreement)) : (Int × (List ApiAgreement)) → Option ((Int × (List ApiAgreement)) ⊕ (((List ApiAgreement)))) := fun (v49, v50) =>
  if (decide (v49 < (List.length r6 : Int))) then
    (idx v50 v49).bind fun _ =>
    (idx v50 v49).bind fun x52 =>
    (cloneF 24 x52.Steps).bind fun r53 =>
    (idx v50 v49).bind fun _ =>
    (idx v50 v49).bind fun y54 =>
    some (.inl ((IntKind.wrap .i64 (v49 + 1)), (List.set v50 (Int.toNat v49) (y54.Partner, y54.Kind, y54.Inbound, y54.Valid, r53, y54.Cap))))
  else
    some (.inr v50)
def online_copyBook (N : Nat) (x0 : ApiBook) : Option ((List ApiEvent) × (List ApiTariff) × (List ApiProduct) × (List ApiTax) × (List Int) × (List ApiAgreement)) :=
  (cloneF 72 x0.Events).bind fun r1 =>
  (cloneF 32 x0.Taxes).bind fun r2 =>
  (cloneF 8 x0.Holidays).bind fun r3 =>
  (cloneF 128 x0.Tariffs).bind fun r4 =>
  (cloneF 80 x0.Products).bind fun r5 =>
  (cloneF 72 x0.Agreements).bind fun r6 =>
  (loopN (online_copyBook_l1 N r4) N (0, r4)).bind fun v32 =>
  (loopN (online_copyBook_l4 N r5) N (0, r5)).bind fun v47 =>
  (loopN (online_copyBook_l5 N r6) N (0, r6)).bind fun v55 =>
  some (r1, v32, v47, r2, r3, v55)
def online_copyState_l1 (N : Nat) (r1 : (List ApiBucket)) : (Int × (List ApiBucket)) → Option ((Int × (List ApiBucket)) ⊕ (((List ApiBucket)))) := fun (v5, v6) =>
  if (decide (v5 < (List.length r1 : Int))) then
    (idx v6 v5).bind fun _ =>
    (idx v6 v5).bind fun x8 =>
    (cloneF 16 x8.Zones).bind fun r9 =>
    (idx v6 v5).bind fun _ =>
    (idx v6 v5).bind fun y10 =>
    some (.inl ((IntKind.wrap .i64 (v5 + 1)), (List.set v6 (Int.toNat v5) (y10.Account, y10.Sub, y10.Product, y10.Index, y10.Kind, r9, y10.Valid, y10.Units, y10.Left, y10.Priority, y10.Shared))))
  else
    some (.inr v6)
def online_copyState (N : Nat) (x0 : ApiState) : Option ((List ApiBucket) × (List ApiWallet) × (List ApiCounter)) :=
  (cloneF 120 x0.Buckets).bind fun r1 =>
  (cloneF 40 x0.Wallets).bind fun r2 =>
  (cloneF 40 x0.Counters).bind fun r3 =>
  (loopN (online_copyState_l1 N r1) N (0, r1)).bind fun v11 =>
  some (v11, r2, r3)
def online_New (N : Nat) (x0 : ApiBook) (x1 : ApiState) : Option ((List ApiEvent) × (List ApiTariff) × (List ApiProduct) × (List ApiTax) × (List Int) × (List ApiAgreement) × (List ApiBucket) × (List ApiWallet) × (List ApiCounter) × (List (Int × ApiSession))) :=
  (online_copyBook N x0).bind fun (r1, r2, r3, r4, r5, r6) =>
  (online_copyState N x1).bind fun (r7, r8, r9) =>
  some (r1, r2, r3, r4, r5, r6, r7, r8, r9, ([] : List (Int × ApiSession)))
def codec_back (N : Nat) (x0 : Int) : Option (Int) :=
  (shrW .u64 x0 1).bind fun n1 =>
  some (Go.bits .xor .i64 (IntKind.wrap .i64 n1) (IntKind.wrap .i64 (0 - (IntKind.wrap .i64 (Go.bits .and .u64 x0 1)))))
def codec_scan_l1 (N : Nat) (x0 : (List Int)) : (Int × Int) → Option ((Int × Int) ⊕ ((Unit) ⊕ (Int × Int × Int))) := fun (v1, v2) =>
  if (decide (v2 < (List.length x0 : Int))) then
    (idx x0 v2).bind fun x3 =>
    if (((v2 == 9) && (x3 != 1)) || ((decide (v2 > 0)) && (x3 == 0))) then
      some (.inr (.inr (0, 0, 1)))
    else
      (shlW .u64 (IntKind.wrap .u64 (Go.bits .and .u8 x3 127)) (IntKind.wrap .i64 (7 * v2))).bind fun n4 =>
      if (decide (x3 < 128)) then
        (codec_back N (Go.bits .or .u64 v1 n4)).bind fun r5 =>
        some (.inr (.inr (r5, (IntKind.wrap .i64 (v2 + 1)), 0)))
      else
        some (.inl ((Go.bits .or .u64 v1 n4), (IntKind.wrap .i64 (v2 + 1))))
  else
    some (.inr (.inl ()))
def codec_scan (N : Nat) (x0 : (List Int)) : Option (Int × Int × Int) :=
  (loopN (codec_scan_l1 N x0) N (0, 0)).bind fun
    | .inl _ =>
      some (0, 0, 2)
    | .inr (v6, v7, v8) =>
      some (v6, v7, v8)
def codec_rest (N : Nat) (x0 : (List Int)) (x1 : Int) : Option ((List Int)) :=
  (mkL 1 (IntKind.wrap .i64 ((List.length x0 : Int) - x1)) (IntKind.wrap .i64 ((List.length x0 : Int) - x1)) 0).bind fun m1 =>
  (chk (decide ((List.length x0 : Int) ≤ (List.length x0 : Int)) && decide ((List.length x0 : Int) ≤ (List.length x0 : Int)))).bind fun _ =>
  (slc x0 x1 (List.length x0 : Int)).bind fun s2 =>
  some (copyL m1 s2)
def codec_Number (N : Nat) (x0 : (List Int)) : Option (Int × Int × (List Int)) :=
  (codec_scan N x0).bind fun (r1, r2, r3) =>
  if (r3 != 0) then
    some (0, r3, ([] : (List Int)))
  else
    (codec_rest N x0 r2).bind fun r4 =>
    some (r1, 0, r4)
def frame_locate (N : Nat) (x0 : (List Int)) : Option (Int × Int × Int) :=
  (chk (decide ((if 10 < (List.length x0 : Int) then 10 else (List.length x0 : Int)) ≤ (if 10 < (List.length x0 : Int) then 10 else (List.length x0 : Int))) && decide ((if 10 < (List.length x0 : Int) then 10 else (List.length x0 : Int)) ≤ (List.length x0 : Int)))).bind fun _ =>
  (slc x0 0 (if 10 < (List.length x0 : Int) then 10 else (List.length x0 : Int))).bind fun s1 =>
  (codec_Number N s1).bind fun (r2, r3, r4) =>
  if (r3 != 0) then
    some (0, 0, r3)
  else
    if (decide (r2 < 0)) then
      some (0, 0, 1)
    else
      if (decide (r2 > 1048576)) then
        some (0, 0, 5)
      else
        if (decide ((IntKind.wrap .i64 ((List.length x0 : Int) - (IntKind.wrap .i64 ((List.length s1 : Int) - (List.length r4 : Int))))) < (IntKind.wrap .i64 (4 + r2)))) then
          some (0, 0, 2)
        else
          (idx x0 (IntKind.wrap .i64 ((List.length s1 : Int) - (List.length r4 : Int)))).bind fun x5 =>
          (shlW .u32 (IntKind.wrap .u32 x5) 24).bind fun n6 =>
          (idx x0 (IntKind.wrap .i64 ((IntKind.wrap .i64 ((List.length s1 : Int) - (List.length r4 : Int))) + 1))).bind fun x7 =>
          (shlW .u32 (IntKind.wrap .u32 x7) 16).bind fun n8 =>
          (idx x0 (IntKind.wrap .i64 ((IntKind.wrap .i64 ((List.length s1 : Int) - (List.length r4 : Int))) + 2))).bind fun x9 =>
          (shlW .u32 (IntKind.wrap .u32 x9) 8).bind fun n10 =>
          (idx x0 (IntKind.wrap .i64 ((IntKind.wrap .i64 ((List.length s1 : Int) - (List.length r4 : Int))) + 3))).bind fun x11 =>
          (slc x0 (IntKind.wrap .i64 ((IntKind.wrap .i64 ((List.length s1 : Int) - (List.length r4 : Int))) + 4)) (IntKind.wrap .i64 ((IntKind.wrap .i64 ((IntKind.wrap .i64 ((List.length s1 : Int) - (List.length r4 : Int))) + 4)) + r2))).bind fun s12 =>
          (frame_Sum N s12).bind fun r13 =>
          if (r13 != (Go.bits .or .u32 (Go.bits .or .u32 (Go.bits .or .u32 n6 n8) n10) (IntKind.wrap .u32 x11))) then
            some (0, 0, 4)
          else
            some ((IntKind.wrap .i64 ((IntKind.wrap .i64 ((List.length s1 : Int) - (List.length r4 : Int))) + 4)), (IntKind.wrap .i64 ((IntKind.wrap .i64 ((IntKind.wrap .i64 ((List.length s1 : Int) - (List.length r4 : Int))) + 4)) + r2)), 0)
def frame_copied (N : Nat) (x0 : (List Int)) (x1 : Int) (x2 : Int) : Option ((List Int)) :=
  (mkL 1 (IntKind.wrap .i64 (x2 - x1)) (IntKind.wrap .i64 (x2 - x1)) 0).bind fun m1 =>
  (chk (decide (x2 ≤ x2) && decide (x2 ≤ (List.length x0 : Int)))).bind fun _ =>
  (slc x0 x1 x2).bind fun s2 =>
  some (copyL m1 s2)
def frame_All_l1 (N : Nat) (x0 : (List Int)) : (Int × (List (List Int))) → Option ((Int × (List (List Int))) ⊕ ((Int × (List (List Int))))) := fun (v2, v3) =>
  if (decide (v2 < (List.length x0 : Int))) then
    (slc x0 v2 (List.length x0 : Int)).bind fun s4 =>
    (frame_locate N s4).bind fun (r7, r8, r9) =>
    if (r9 != 0) then
      some (.inr (v2, v3))
    else
      (frame_copied N x0 (IntKind.wrap .i64 (v2 + r7)) (IntKind.wrap .i64 (v2 + r8))).bind fun r10 =>
      (app 24 v3 ([r10] : (List (List Int)))).bind fun q11 =>
      some (.inl ((IntKind.wrap .i64 (v2 + r8)), q11))
  else
    some (.inr (v2, v3))
def frame_All (N : Nat) (x0 : (List Int)) : Option (Int × (List (List Int))) :=
  (loopN (frame_All_l1 N x0) N (0, ([] : (List (List Int))))).bind fun (v12, v13) =>
  some (v12, v13)
def journal_reader_number (N : Nat) (m5000 : JournalReader) : Option (Int × (List Int) × Int) :=
  if (m5000.bad != 0) then
    some (0, m5000.rest, m5000.bad)
  else
    (codec_Number N m5000.rest).bind fun (r1, r2, r3) =>
    some (r1, r3, r2)
def codec_length (N : Nat) (x0 : (List Int)) : Option (Int × Int × Int) :=
  (codec_scan N x0).bind fun (r1, r2, r3) =>
  if (r3 != 0) then
    some (0, 0, r3)
  else
    if (decide (r1 < 0)) then
      some (0, 0, 1)
    else
      if (decide (r1 > 1048576)) then
        some (0, 0, 5)
      else
        some (r1, r2, 0)
def codec_rest_2 (N : Nat) (x0 : (List Int)) (x1 : Int) : Option ((List Int)) :=
  (mkL 1 (IntKind.wrap .i64 ((List.length x0 : Int) - x1)) (IntKind.wrap .i64 ((List.length x0 : Int) - x1)) 0).bind fun m1 =>
  (chk (decide ((List.length x0 : Int) ≤ (List.length x0 : Int)) && decide ((List.length x0 : Int) ≤ (List.length x0 : Int)))).bind fun _ =>
  (slc x0 x1 (List.length x0 : Int)).bind fun s2 =>
  some (copyL m1 s2)
def codec_Text (N : Nat) (x0 : (List Int)) : Option (Str × (List Int) × Int) :=
  (codec_length N x0).bind fun (r1, r2, r3) =>
  if (r3 != 0) then
    some (([] : Str), ([] : (List Int)), r3)
  else
    if (decide ((IntKind.wrap .i64 ((List.length x0 : Int) - r2)) < r1)) then
      some (([] : Str), ([] : (List Int)), 2)
    else
      (slc x0 r2 (IntKind.wrap .i64 (r2 + r1))).bind fun s4 =>
      (codec_rest_2 N x0 (IntKind.wrap .i64 (r2 + r1))).bind fun r5 =>
      some ((bstr s4), r5, 0)
def journal_reader_text (N : Nat) (m5000 : JournalReader) : Option (Str × JournalReader) :=
  if (m5000.bad != 0) then
    some (([] : Str), m5000)
  else
    (codec_Text N m5000.rest).bind fun (r1, r2, r3) =>
    some (r1, (r2, r3))
def journal_Decode (N : Nat) (x0 : (List Int)) : Option (ApiRequest × Int) :=
  (journal_reader_number N (x0, 0)).bind fun (r1, r2, r3) =>
  (journal_reader_number N (r2, r3)).bind fun (r4, r5, r6) =>
  (journal_reader_number N (r5, r6)).bind fun (r7, r8, r9) =>
  (journal_reader_number N (r8, r9)).bind fun (r10, r11, r12) =>
  (journal_reader_number N (r11, r12)).bind fun (r13, r14, r15) =>
  (journal_reader_number N (r14, r15)).bind fun (r16, r17, r18) =>
  (journal_reader_text N (r17, r18)).bind fun (r19, r20) =>
  (journal_reader_number N r20).bind fun (r21, r22, r23) =>
  (journal_reader_number N (r22, r23)).bind fun (r24, r25, r26) =>
  if (r26 != 0) then
    some ((0, 0, 0, 0, 0, 0, ([] : Str), 0, 0), r26)
  else
    if (decide ((List.length r25 : Int) > 0)) then
      some ((0, 0, 0, 0, 0, 0, ([] : Str), 0, 0), 3)
    else
      some ((r1, r4, r7, r10, r13, r16, r19, r21, r24), 0)
def online_Server_made (N : Nat) (m5001 : (List ApiEvent)) (m5002 : (List ApiTariff)) (m5003 : (List ApiProduct)) (m5004 : (List ApiTax)) (m5005 : (List Int)) (m5006 : (List ApiAgreement)) (m5007 : (List ApiBucket)) (m5008 : (List ApiWallet)) (m5009 : (List ApiCounter)) (m5010 : (List (Int × ApiSession))) : Option (Bool × (List (Int × ApiSession)) × (List ApiEvent) × (List ApiTariff) × (List ApiProduct) × (List ApiTax) × (List Int) × (List ApiAgreement) × (List ApiBucket) × (List ApiWallet) × (List ApiCounter)) :=
  some (true, m5010, m5001, m5002, m5003, m5004, m5005, m5006, m5007, m5008, m5009)
def online_refusal (N : Nat) (x0 : ApiRequest) (x1 : Int) : Option (ApiAnswer) :=
  some (x0.Session, x0.Seq, 0, 0, x1)
def online_Server_Do (N : Nat) (x1 : ApiRequest) (m5001 : (List ApiEvent)) (m5002 : (List ApiTariff)) (m5003 : (List ApiProduct)) (m5004 : (List ApiTax)) (m5005 : (List Int)) (m5006 : (List ApiAgreement)) (m5007 : (List ApiBucket)) (m5008 : (List ApiWallet)) (m5009 : (List ApiCounter)) (m5010 : (List (Int × ApiSession))) : Option (ApiAnswer × (List (Int × ApiSession)) × (List ApiEvent) × (List ApiTariff) × (List ApiProduct) × (List ApiTax) × (List Int) × (List ApiAgreement) × (List ApiBucket) × (List ApiWallet) × (List ApiCounter)) :=
  (online_Server_made N m5001 m5002 m5003 m5004 m5005 m5006 m5007 m5008 m5009 m5010).bind fun (r1, r2, r3, r4, r5, r6, r7, r8, r9, r10, r11) =>
  if (!r1) then
    some ((0, 0, 0, 0, 0), r2, r3, r4, r5, r6, r7, r8, r9, r10, r11)
  else
    if ((decide (x1.Kind < 1)) || (decide (x1.Kind ≥ 5))) then
      (online_refusal N x1 7).bind fun r12 =>
      some (r12, r2, r3, r4, r5, r6, r7, r8, r9, r10, r11)
    else
      if ((findL (k := (.int .i64)) x1.Session r2).isSome && ((((findL (k := (.int .i64)) x1.Session r2).getD (0, 0, 0, 0, (0, 0, 0, ([] : Str), ([] : Str), 0, (0, ([] : Str), ([] : Str), 0, ([] : (List ApiStep))), 0, 0), 0, ([] : (List ApiTake)), 0, 0, false, (0, 0, 0, 0, 0))).Seq) == x1.Seq)) then
        some (((findL (k := (.int .i64)) x1.Session r2).getD (0, 0, 0, 0, (0, 0, 0, ([] : Str), ([] : Str), 0, (0, ([] : Str), ([] : Str), 0, ([] : (List ApiStep))), 0, 0), 0, ([] : (List ApiTake)), 0, 0, false, (0, 0, 0, 0, 0))).Last, r2, r3, r4, r5, r6, r7, r8, r9, r10, r11)
      else
        if ((x1.Kind == 1) || (x1.Kind == 4)) then
          if (findL (k := (.int .i64)) x1.Session r2).isSome then
            (online_refusal N x1 10).bind fun r13 =>
            some (r13, r2, r3, r4, r5, r6, r7, r8, r9, r10, r11)
          else
            none
        else
          if (!(findL (k := (.int .i64)) x1.Session r2).isSome) then
            (online_refusal N x1 11).bind fun r14 =>
            some (r14, r2, r3, r4, r5, r6, r7, r8, r9, r10, r11)
          else
            none
def journal_Recover_l1 (N : Nat) (r12 : (List (List Int))) : (Int × Int × (List ApiEvent) × (List ApiTariff) × (List ApiProduct) × (List ApiTax) × (List Int) × (List ApiAgreement) × (List ApiBucket) × (List ApiWallet) × (List ApiCounter) × (List (Int × ApiSession))) → Option ((Int × Int × (List ApiEvent) × (List ApiTariff) × (List ApiProduct) × (List ApiTax) × (List Int) × (List ApiAgreement) × (List ApiBucket) × (List ApiWallet) × (List ApiCounter) × (List (Int × ApiSession))) ⊕ ((Int × (List ApiEvent) × (List ApiTariff) × (List ApiProduct) × (List ApiTax) × (List Int) × (List ApiAgreement) × (List ApiBucket) × (List ApiWallet) × (List ApiCounter) × (List (Int × ApiSession))))) := fun (v15, v16, v17, v18, v19, v20, v21, v22, v23, v24, v25, v26) =>
  if (decide (v16 < (List.length r12 : Int))) then
    (idx r12 v16).bind fun _ =>
    (idx r12 v16).bind fun x27 =>
    (journal_Decode N x27).bind fun (r28, r29) =>
    if (r29 != 0) then
      some (.inr (v15, v17, v18, v19, v20, v21, v22, v23, v24, v25, v26))
    else
      (online_Server_Do N r28 v17 v18 v19 v20 v21 v22 v23 v24 v25 v26).bind fun (r30, r31, r32, r33, r34, r35, r36, r37, r38, r39, r40) =>
      some (.inl ((IntKind.wrap .i64 (v15 + 1)), (IntKind.wrap .i64 (v16 + 1)), r32, r33, r34, r35, r36, r37, r38, r39, r40, r31))
  else
    some (.inr (v15, v17, v18, v19, v20, v21, v22, v23, v24, v25, v26))
def journal_Recover (N : Nat) (x0 : ApiBook) (x1 : ApiState) (x2 : (List Int)) : Option (Int × (List ApiEvent) × (List ApiTariff) × (List ApiProduct) × (List ApiTax) × (List Int) × (List ApiAgreement) × (List ApiBucket) × (List ApiWallet) × (List ApiCounter) × (List (Int × ApiSession))) :=
  (online_New N x0 x1).bind fun (r1, r2, r3, r4, r5, r6, r7, r8, r9, r10) =>
  (frame_All N x2).bind fun (r11, r12) =>
  (loopN (journal_Recover_l1 N r12) N (0, 0, r1, r2, r3, r4, r5, r6, r7, r8, r9, r10)).bind fun (v41, v42, v43, v44, v45, v46, v47, v48, v49, v50, v51) =>
  some (v41, v42, v43, v44, v45, v46, v47, v48, v49, v50, v51)
def billinglaw42_alive (N : Nat) : Option (Bool) :=
  (journal_New N).bind fun (r1, r2) =>
  if false then
    some false
  else
    (journal_Log_Append N (0, 0, 0, 0, 0, 0, ([] : Str), 0, 0) r1 ([] : (List Int)) r2).bind fun (r3, r4, r5, r6) =>
    (journal_Log_Append N (1, 0, 0, 0, 0, 0, ([] : Str), 0, 0) r4 r6 r5).bind fun (r7, r8, r9, r10) =>
    (journal_Log_Sync N r8 r10 r9).bind fun (r11, r12, r13, r14) =>
    (journal_Log_Append N (0, 0, 0, 0, 0, 0, ([] : Str), 0, 0) r12 r14 r13).bind fun (r15, r16, r17, r18) =>
    (journal_Log_Crash N 3 r16 r18 r17).bind fun (r19, r20, r21) =>
    (journal_Log_Bytes N r19 r21 r20).bind fun (r22, r23, r24, r25) =>
    (journal_Recover N (([] : (List ApiEvent)), ([] : (List ApiTariff)), ([] : (List ApiProduct)), ([] : (List ApiTax)), ([] : (List Int)), ([] : (List ApiAgreement))) (([] : (List ApiBucket)), ([] : (List ApiWallet)), ([] : (List ApiCounter))) r24).bind fun (r26, r27, r28, r29, r30, r31, r32, r33, r34, r35, r36) =>
    (journal_Log_Bytes N r22 r25 r23).bind fun (r37, r38, r39, r40) =>
    (journal_Log_Append N (0, 0, 0, 0, 0, 0, ([] : Str), 0, 0) r37 r40 r38).bind fun (r41, r42, r43, r44) =>
    (if (((((((r3 == 0) && (r7 == 0)) && (r11 == 2)) && (r15 == 0)) && (r26 == 2)) && ((List.length r39 : Int) == 31)) && (r41 == 0)) then
      (journal_Log_Bytes N r42 r44 r43).bind fun (r49, r50, r51, r52) =>
      some (((List.length r51 : Int) == 42), r49, r52, r50)
    else
      some (false, r42, r44, r43) : Option (Bool × Int × (List Int) × (List (Int × Int)))).bind fun (v53, v54, v55, v56) =>
    (if v53 then
      (journal_Encode N (0, 0, 0, 0, 0, 0, ([] : Str), 0, 0)).bind fun r58 =>
      some ((List.length r58 : Int) == 9)
    else
      some false : Option (Bool)).bind fun v59 =>
    some v59
def journal_Log_made_2 (N : Nat) : Option (Bool) :=
  some false
def journal_Log_Append_2 (N : Nat) (x1 : ApiRequest) : Option (Int) :=
  (journal_Log_made_2 N).bind fun r1 =>
  if (!r1) then
    some 0
  else
    (journal_Encode N x1).bind fun r2 =>
    (frame_Wrap N r2).bind fun (r3, r4) =>
    if (r3 != 0) then
      some r3
    else
      none
def journal_Log_Sync_2 (N : Nat) : Option (Int) :=
  (journal_Log_made_2 N).bind fun r1 =>
  if (!r1) then
    some 0
  else
    none
def journal_Log_Crash_2 (N : Nat) (x1 : Int) : Option (Unit) :=
  (journal_Log_made_2 N).bind fun r1 =>
  if (!r1) then
    some ()
  else
    none
def journal_Log_Bytes_2 (N : Nat) : Option (Unit) :=
  (journal_Log_made_2 N).bind fun r1 =>
  if (!r1) then
    some ()
  else
    none
def journal_Log_made_3 (N : Nat) (m5000_1 : Int) (m5001 : (List Int)) : Option (Bool × Int × (List Int)) :=
  some (false, m5000_1, m5001)
def journal_Log_Append_3 (N : Nat) (x1 : ApiRequest) (m5000_1 : Int) (m5001 : (List Int)) : Option (Int × Int × (List Int)) :=
  (journal_Log_made_3 N m5000_1 m5001).bind fun (r1, r2, r3) =>
  if (!r1) then
    some (0, r2, r3)
  else
    (journal_Encode N x1).bind fun r4 =>
    (frame_Wrap N r4).bind fun (r5, r6) =>
    if (r5 != 0) then
      some (r5, r2, r3)
    else
      none
def journal_Log_Sync_3 (N : Nat) (m5000_1 : Int) (m5001 : (List Int)) : Option (Int × Int × (List Int)) :=
  (journal_Log_made_3 N m5000_1 m5001).bind fun (r1, r2, r3) =>
  if (!r1) then
    some (0, r2, r3)
  else
    none
def journal_Log_Crash_3 (N : Nat) (x1 : Int) (m5000_1 : Int) (m5001 : (List Int)) : Option (Int × (List Int)) :=
  (journal_Log_made_3 N m5000_1 m5001).bind fun (r1, r2, r3) =>
  if (!r1) then
    some (r2, r3)
  else
    none
def journal_Log_Bytes_3 (N : Nat) (m5000_1 : Int) (m5001 : (List Int)) : Option (Int × (List Int) × (List Int)) :=
  (journal_Log_made_3 N m5000_1 m5001).bind fun (r1, r2, r3) =>
  if (!r1) then
    some (r2, ([] : (List Int)), r3)
  else
    (cloneR 1 r3).bind fun (r4, r5) =>
    some (r2, r5, r4)
def billinglaw42_JournalNobody_l1 (N : Nat) (x0 : ApiRequest) (x1 : Int) : (Int × Int × (List Int)) → Option ((Int × Int × (List Int)) ⊕ ((Int × (List Int)) ⊕ (Bool × Int × (List Int)))) := fun (v5, v7, v8) =>
  if (decide (v5 < (2 : Int))) then
    if v5 = 0 then
      (journal_Log_Append_2 N x0).bind fun r21 =>
      (journal_Log_Sync_2 N).bind fun r22 =>
      (journal_Log_Crash_2 N x1).bind fun _ =>
      (if ((r21 != 0) || (r22 != 0)) then
        some true
      else
        (journal_Log_Bytes_2 N).bind fun _ =>
        some (((0 : Nat) : Int) != 0) : Option (Bool)).bind fun v24 =>
      if v24 then
        some (.inr (.inr (false, v7, v8)))
      else
        some (.inl ((IntKind.wrap .i64 (v5 + 1)), v7, v8))
    else
      if v5 = 1 then
        (journal_Log_Append_3 N x0 v7 v8).bind fun (r25, r26, r27) =>
        (journal_Log_Sync_3 N r26 r27).bind fun (r28, r29, r30) =>
        (journal_Log_Crash_3 N x1 r29 r30).bind fun (r31, r32) =>
        (if ((r25 != 0) || (r28 != 0)) then
          some (true, r31, r32)
        else
          (journal_Log_Bytes_3 N r31 r32).bind fun (r36, r37, r38) =>
          some (((List.length r37 : Int) != 0), r36, r38) : Option (Bool × Int × (List Int))).bind fun (v39, v40, v41) =>
        if v39 then
          some (.inr (.inr (false, v40, v41)))
        else
          some (.inl ((IntKind.wrap .i64 (v5 + 1)), v40, v41))
      else
        none
  else
    some (.inr (.inl (v7, v8)))
def billinglaw42_JournalNobody (N : Nat) (x0 : ApiRequest) (x1 : Int) : Option (Bool) :=
  (loopN (billinglaw42_JournalNobody_l1 N x0 x1) N (0, 0, ([] : (List Int)))).bind fun
    | .inl (v42, v43) =>
      (billinglaw42_alive N).bind fun r44 =>
      some r44
    | .inr (v45, v46, v47) =>
      some v45
end Gx
