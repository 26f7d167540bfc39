/- The Go functions as Lean functions. -/
import Derived.Test.YtbhpbpilmejnlaaGreatXRn
namespace Gx
open Go Gd
set_option linter.unusedVariables false
abbrev tyApiUsage:Ty:=.st (.pr (.int .i64) (.pr (.int .i64) (.pr (.int .i64) (.pr (.int .i64) (.pr .str (.pr .str (.pr (.int .i64) (.pr (.int .i64) (.pr (.int .i64) (.pr .bool (.pr (.int .i64) (.int .i64))))))))))))
abbrev ApiUsage:Type:=Int×Int×Int×Int×Str×Str×Int×Int×Int×Bool×Int×Int
abbrev ApiUsage.Id (x:ApiUsage):Int:=x.1
abbrev ApiUsage.Kind (x:ApiUsage):Int:=x.2.1
abbrev ApiUsage.Account (x:ApiUsage):Int:=x.2.2.1
abbrev ApiUsage.Sub (x:ApiUsage):Int:=x.2.2.2.1
abbrev ApiUsage.A (x:ApiUsage):Str:=x.2.2.2.2.1
abbrev ApiUsage.B (x:ApiUsage):Str:=x.2.2.2.2.2.1
abbrev ApiUsage.Start (x:ApiUsage):Int:=x.2.2.2.2.2.2.1
abbrev ApiUsage.Units (x:ApiUsage):Int:=x.2.2.2.2.2.2.2.1
abbrev ApiUsage.Trunk (x:ApiUsage):Int:=x.2.2.2.2.2.2.2.2.1
abbrev ApiUsage.Inbound (x:ApiUsage):Bool:=x.2.2.2.2.2.2.2.2.2.1
abbrev ApiUsage.Source (x:ApiUsage):Int:=x.2.2.2.2.2.2.2.2.2.2.1
abbrev ApiUsage.Serial (x:ApiUsage):Int:=x.2.2.2.2.2.2.2.2.2.2.2
abbrev tyApiTake:Ty:=.st (.pr (.int .i64) (.pr .str (.pr (.int .i64) (.pr (.int .i64) (.int .i64)))))
abbrev ApiTake:Type:=Int×Str×Int×Int×Int
abbrev ApiTake.Sub (x:ApiTake):Int:=x.1
abbrev ApiTake.Product (x:ApiTake):Str:=x.2.1
abbrev ApiTake.Index (x:ApiTake):Int:=x.2.2.1
abbrev ApiTake.From (x:ApiTake):Int:=x.2.2.2.1
abbrev ApiTake.Units (x:ApiTake):Int:=x.2.2.2.2
abbrev tyApiSegment:Ty:=.st (.pr .str (.pr (.int .i64) (.pr (.int .i64) (.int .i64))))
abbrev ApiSegment:Type:=Str×Int×Int×Int
abbrev ApiSegment.Band (x:ApiSegment):Str:=x.1
abbrev ApiSegment.Start (x:ApiSegment):Int:=x.2.1
abbrev ApiSegment.Units (x:ApiSegment):Int:=x.2.2.1
abbrev ApiSegment.Amount (x:ApiSegment):Int:=x.2.2.2
abbrev tyApiGiven:Ty:=.st (.pr .str (.int .i64))
abbrev ApiGiven:Type:=Str×Int
abbrev ApiGiven.Name (x:ApiGiven):Str:=x.1
abbrev ApiGiven.Amount (x:ApiGiven):Int:=x.2
abbrev tyApiRated:Ty:=.st (.pr tyApiUsage (.pr (.int .i64) (.pr .str (.pr (.int .i64) (.pr .str (.pr (.sl tyApiTake) (.pr (.sl tyApiSegment) (.pr (.int .i64) (.pr (.int .i64) (.pr (.int .i64) (.pr (.sl tyApiGiven) (.pr (.int .i64) (.int .i64)))))))))))))
abbrev ApiRated:Type:=ApiUsage×Int×Str×Int×Str×(List ApiTake)×(List ApiSegment)×Int×Int×Int×(List ApiGiven)×Int×Int
abbrev ApiRated.Usage (x:ApiRated):ApiUsage:=x.1
abbrev ApiRated.Err (x:ApiRated):Int:=x.2.1
abbrev ApiRated.Plan (x:ApiRated):Str:=x.2.2.1
abbrev ApiRated.Version (x:ApiRated):Int:=x.2.2.2.1
abbrev ApiRated.Zone (x:ApiRated):Str:=x.2.2.2.2.1
abbrev ApiRated.Takes (x:ApiRated):(List ApiTake):=x.2.2.2.2.2.1
abbrev ApiRated.Segments (x:ApiRated):(List ApiSegment):=x.2.2.2.2.2.2.1
abbrev ApiRated.Setup (x:ApiRated):Int:=x.2.2.2.2.2.2.2.1
abbrev ApiRated.Gross (x:ApiRated):Int:=x.2.2.2.2.2.2.2.2.1
abbrev ApiRated.Net (x:ApiRated):Int:=x.2.2.2.2.2.2.2.2.2.1
abbrev ApiRated.Given (x:ApiRated):(List ApiGiven):=x.2.2.2.2.2.2.2.2.2.2.1
abbrev ApiRated.Paid (x:ApiRated):Int:=x.2.2.2.2.2.2.2.2.2.2.2.1
abbrev ApiRated.Owed (x:ApiRated):Int:=x.2.2.2.2.2.2.2.2.2.2.2.2
abbrev tyApiAdjust:Ty:=.st (.pr (.int .i64) (.pr (.int .i64) (.pr (.int .i64) (.pr (.int .i64) (.pr (.int .i64) (.pr (.int .i64) (.int .i64)))))))
abbrev ApiAdjust:Type:=Int×Int×Int×Int×Int×Int×Int
abbrev ApiAdjust.Usage (x:ApiAdjust):Int:=x.1
abbrev ApiAdjust.Account (x:ApiAdjust):Int:=x.2.1
abbrev ApiAdjust.Sub (x:ApiAdjust):Int:=x.2.2.1
abbrev ApiAdjust.Kind (x:ApiAdjust):Int:=x.2.2.2.1
abbrev ApiAdjust.Start (x:ApiAdjust):Int:=x.2.2.2.2.1
abbrev ApiAdjust.Paid (x:ApiAdjust):Int:=x.2.2.2.2.2.1
abbrev ApiAdjust.Owed (x:ApiAdjust):Int:=x.2.2.2.2.2.2
abbrev tyApiPeriod:Ty:=.st (.pr (.int .i64) (.int .i64))
abbrev ApiPeriod:Type:=Int×Int
abbrev ApiPeriod.From (x:ApiPeriod):Int:=x.1
abbrev ApiPeriod.To (x:ApiPeriod):Int:=x.2
abbrev tyApiBucket:Ty:=.st (.pr (.int .i64) (.pr (.int .i64) (.pr .str (.pr (.int .i64) (.pr (.int .i64) (.pr (.sl .str) (.pr tyApiPeriod (.pr (.int .i64) (.pr (.int .i64) (.pr (.int .i64) .bool))))))))))
abbrev ApiBucket:Type:=Int×Int×Str×Int×Int×(List Str)×ApiPeriod×Int×Int×Int×Bool
abbrev ApiBucket.Account (x:ApiBucket):Int:=x.1
abbrev ApiBucket.Sub (x:ApiBucket):Int:=x.2.1
abbrev ApiBucket.Product (x:ApiBucket):Str:=x.2.2.1
abbrev ApiBucket.Index (x:ApiBucket):Int:=x.2.2.2.1
abbrev ApiBucket.Kind (x:ApiBucket):Int:=x.2.2.2.2.1
abbrev ApiBucket.Zones (x:ApiBucket):(List Str):=x.2.2.2.2.2.1
abbrev ApiBucket.Valid (x:ApiBucket):ApiPeriod:=x.2.2.2.2.2.2.1
abbrev ApiBucket.Units (x:ApiBucket):Int:=x.2.2.2.2.2.2.2.1
abbrev ApiBucket.Left (x:ApiBucket):Int:=x.2.2.2.2.2.2.2.2.1
abbrev ApiBucket.Priority (x:ApiBucket):Int:=x.2.2.2.2.2.2.2.2.2.1
abbrev ApiBucket.Shared (x:ApiBucket):Bool:=x.2.2.2.2.2.2.2.2.2.2
abbrev tyApiWallet:Ty:=.st (.pr (.int .i64) (.pr (.int .i64) (.pr (.int .i64) (.pr (.int .i64) (.int .i64)))))
abbrev ApiWallet:Type:=Int×Int×Int×Int×Int
abbrev ApiWallet.Account (x:ApiWallet):Int:=x.1
abbrev ApiWallet.Balance (x:ApiWallet):Int:=x.2.1
abbrev ApiWallet.Floor (x:ApiWallet):Int:=x.2.2.1
abbrev ApiWallet.Held (x:ApiWallet):Int:=x.2.2.2.1
abbrev ApiWallet.Until (x:ApiWallet):Int:=x.2.2.2.2
abbrev tyApiCounter:Ty:=.st (.pr (.int .i64) (.pr (.int .i64) (.pr (.int .i64) (.pr (.int .i64) (.int .i64)))))
abbrev ApiCounter:Type:=Int×Int×Int×Int×Int
abbrev ApiCounter.Sub (x:ApiCounter):Int:=x.1
abbrev ApiCounter.Kind (x:ApiCounter):Int:=x.2.1
abbrev ApiCounter.From (x:ApiCounter):Int:=x.2.2.1
abbrev ApiCounter.Units (x:ApiCounter):Int:=x.2.2.2.1
abbrev ApiCounter.Spent (x:ApiCounter):Int:=x.2.2.2.2
abbrev tyApiState:Ty:=.st (.pr (.sl tyApiBucket) (.pr (.sl tyApiWallet) (.sl tyApiCounter)))
abbrev ApiState:Type:=(List ApiBucket)×(List ApiWallet)×(List ApiCounter)
abbrev ApiState.Buckets (x:ApiState):(List ApiBucket):=x.1
abbrev ApiState.Wallets (x:ApiState):(List ApiWallet):=x.2.1
abbrev ApiState.Counters (x:ApiState):(List ApiCounter):=x.2.2
abbrev tyApiEvent:Ty:=.st (.pr (.int .i64) (.pr (.int .i64) (.pr (.int .i64) (.pr (.int .i64) (.pr .str (.pr .str (.int .i64)))))))
abbrev ApiEvent:Type:=Int×Int×Int×Int×Str×Str×Int
abbrev ApiEvent.At (x:ApiEvent):Int:=x.1
abbrev ApiEvent.Kind (x:ApiEvent):Int:=x.2.1
abbrev ApiEvent.Account (x:ApiEvent):Int:=x.2.2.1
abbrev ApiEvent.Sub (x:ApiEvent):Int:=x.2.2.2.1
abbrev ApiEvent.Number (x:ApiEvent):Str:=x.2.2.2.2.1
abbrev ApiEvent.Name (x:ApiEvent):Str:=x.2.2.2.2.2.1
abbrev ApiEvent.Value (x:ApiEvent):Int:=x.2.2.2.2.2.2
abbrev tyApiZone:Ty:=.st (.pr .str (.sl .str))
abbrev ApiZone:Type:=Str×(List Str)
abbrev ApiZone.Name (x:ApiZone):Str:=x.1
abbrev ApiZone.Prefixes (x:ApiZone):(List Str):=x.2
abbrev tyApiSlot:Ty:=.st (.pr (.int .i64) (.pr (.int .i64) (.int .i64)))
abbrev ApiSlot:Type:=Int×Int×Int
abbrev ApiSlot.Days (x:ApiSlot):Int:=x.1
abbrev ApiSlot.From (x:ApiSlot):Int:=x.2.1
abbrev ApiSlot.To (x:ApiSlot):Int:=x.2.2
abbrev tyApiBand:Ty:=.st (.pr .str (.sl tyApiSlot))
abbrev ApiBand:Type:=Str×(List ApiSlot)
abbrev ApiBand.Name (x:ApiBand):Str:=x.1
abbrev ApiBand.Slots (x:ApiBand):(List ApiSlot):=x.2
abbrev tyApiStep:Ty:=.st (.pr (.int .i64) (.pr (.int .i64) (.int .i64)))
abbrev ApiStep:Type:=Int×Int×Int
abbrev ApiStep.Upto (x:ApiStep):Int:=x.1
abbrev ApiStep.Quantum (x:ApiStep):Int:=x.2.1
abbrev ApiStep.Price (x:ApiStep):Int:=x.2.2
abbrev tyApiRate:Ty:=.st (.pr (.int .i64) (.pr .str (.pr .str (.pr (.int .i64) (.sl tyApiStep)))))
abbrev ApiRate:Type:=Int×Str×Str×Int×(List ApiStep)
abbrev ApiRate.Kind (x:ApiRate):Int:=x.1
abbrev ApiRate.Zone (x:ApiRate):Str:=x.2.1
abbrev ApiRate.Band (x:ApiRate):Str:=x.2.2.1
abbrev ApiRate.Setup (x:ApiRate):Int:=x.2.2.2.1
abbrev ApiRate.Steps (x:ApiRate):(List ApiStep):=x.2.2.2.2
abbrev tyApiExpr:Ty:=.rose (.pr (.int .i64) (.pr (.int .i64) .str))
abbrev ApiExpr:Type:=Rose (Int×Int×Str)
abbrev ApiExpr.Op (x:ApiExpr):Int:=x.x.1
abbrev ApiExpr.Num (x:ApiExpr):Int:=x.x.2.1
abbrev ApiExpr.Text (x:ApiExpr):Str:=x.x.2.2
abbrev ApiExpr.Args (x:ApiExpr):List ApiExpr:=x.ks
abbrev tyApiDiscount:Ty:=.st (.pr .str (.pr tyApiExpr (.int .i64)))
abbrev ApiDiscount:Type:=Str×ApiExpr×Int
abbrev ApiDiscount.Name (x:ApiDiscount):Str:=x.1
abbrev ApiDiscount.When (x:ApiDiscount):ApiExpr:=x.2.1
abbrev ApiDiscount.Points (x:ApiDiscount):Int:=x.2.2
abbrev tyApiTariff:Ty:=.st (.pr .str (.pr (.int .i64) (.pr .bool (.pr (.sl tyApiZone) (.pr (.sl tyApiBand) (.pr (.sl tyApiRate) (.sl tyApiDiscount)))))))
abbrev ApiTariff:Type:=Str×Int×Bool×(List ApiZone)×(List ApiBand)×(List ApiRate)×(List ApiDiscount)
abbrev ApiTariff.Name (x:ApiTariff):Str:=x.1
abbrev ApiTariff.From (x:ApiTariff):Int:=x.2.1
abbrev ApiTariff.Split (x:ApiTariff):Bool:=x.2.2.1
abbrev ApiTariff.Zones (x:ApiTariff):(List ApiZone):=x.2.2.2.1
abbrev ApiTariff.Bands (x:ApiTariff):(List ApiBand):=x.2.2.2.2.1
abbrev ApiTariff.Rates (x:ApiTariff):(List ApiRate):=x.2.2.2.2.2.1
abbrev ApiTariff.Discounts (x:ApiTariff):(List ApiDiscount):=x.2.2.2.2.2.2
abbrev tyApiBundle:Ty:=.st (.pr (.int .i64) (.pr (.sl .str) (.pr (.int .i64) (.pr (.int .i64) (.pr (.int .i64) .bool)))))
abbrev ApiBundle:Type:=Int×(List Str)×Int×Int×Int×Bool
abbrev ApiBundle.Kind (x:ApiBundle):Int:=x.1
abbrev ApiBundle.Zones (x:ApiBundle):(List Str):=x.2.1
abbrev ApiBundle.Units (x:ApiBundle):Int:=x.2.2.1
abbrev ApiBundle.Rollover (x:ApiBundle):Int:=x.2.2.2.1
abbrev ApiBundle.Priority (x:ApiBundle):Int:=x.2.2.2.2.1
abbrev ApiBundle.Shared (x:ApiBundle):Bool:=x.2.2.2.2.2
abbrev tyApiProduct:Ty:=.st (.pr .str (.pr (.int .i64) (.pr (.int .i64) (.pr .str (.pr .bool (.sl tyApiBundle))))))
abbrev ApiProduct:Type:=Str×Int×Int×Str×Bool×(List ApiBundle)
abbrev ApiProduct.Name (x:ApiProduct):Str:=x.1
abbrev ApiProduct.From (x:ApiProduct):Int:=x.2.1
abbrev ApiProduct.Fee (x:ApiProduct):Int:=x.2.2.1
abbrev ApiProduct.Category (x:ApiProduct):Str:=x.2.2.2.1
abbrev ApiProduct.Prorate (x:ApiProduct):Bool:=x.2.2.2.2.1
abbrev ApiProduct.Bundles (x:ApiProduct):(List ApiBundle):=x.2.2.2.2.2
abbrev tyApiTax:Ty:=.st (.pr .str (.pr (.int .i64) (.int .i64)))
abbrev ApiTax:Type:=Str×Int×Int
abbrev ApiTax.Category (x:ApiTax):Str:=x.1
abbrev ApiTax.From (x:ApiTax):Int:=x.2.1
abbrev ApiTax.Points (x:ApiTax):Int:=x.2.2
abbrev tyApiAgreement:Ty:=.st (.pr (.int .i64) (.pr (.int .i64) (.pr .bool (.pr tyApiPeriod (.pr (.sl tyApiStep) (.int .i64))))))
abbrev ApiAgreement:Type:=Int×Int×Bool×ApiPeriod×(List ApiStep)×Int
abbrev ApiAgreement.Partner (x:ApiAgreement):Int:=x.1
abbrev ApiAgreement.Kind (x:ApiAgreement):Int:=x.2.1
abbrev ApiAgreement.Inbound (x:ApiAgreement):Bool:=x.2.2.1
abbrev ApiAgreement.Valid (x:ApiAgreement):ApiPeriod:=x.2.2.2.1
abbrev ApiAgreement.Steps (x:ApiAgreement):(List ApiStep):=x.2.2.2.2.1
abbrev ApiAgreement.Cap (x:ApiAgreement):Int:=x.2.2.2.2.2
abbrev tyApiBook:Ty:=.st (.pr (.sl tyApiEvent) (.pr (.sl tyApiTariff) (.pr (.sl tyApiProduct) (.pr (.sl tyApiTax) (.pr (.sl (.int .i64)) (.sl tyApiAgreement))))))
abbrev ApiBook:Type:=(List ApiEvent)×(List ApiTariff)×(List ApiProduct)×(List ApiTax)×(List Int)×(List ApiAgreement)
abbrev ApiBook.Events (x:ApiBook):(List ApiEvent):=x.1
abbrev ApiBook.Tariffs (x:ApiBook):(List ApiTariff):=x.2.1
abbrev ApiBook.Products (x:ApiBook):(List ApiProduct):=x.2.2.1
abbrev ApiBook.Taxes (x:ApiBook):(List ApiTax):=x.2.2.2.1
abbrev ApiBook.Holidays (x:ApiBook):(List Int):=x.2.2.2.2.1
abbrev ApiBook.Agreements (x:ApiBook):(List ApiAgreement):=x.2.2.2.2.2
abbrev tyApiLine:Ty:=.st (.pr (.int .i64) (.pr (.int .i64) (.pr .str (.pr .str (.pr (.int .i64) (.pr (.int .i64) (.pr (.int .i64) (.int .i64))))))))
abbrev ApiLine:Type:=Int×Int×Str×Str×Int×Int×Int×Int
abbrev ApiLine.Kind (x:ApiLine):Int:=x.1
abbrev ApiLine.Sub (x:ApiLine):Int:=x.2.1
abbrev ApiLine.Name (x:ApiLine):Str:=x.2.2.1
abbrev ApiLine.Category (x:ApiLine):Str:=x.2.2.2.1
abbrev ApiLine.Count (x:ApiLine):Int:=x.2.2.2.2.1
abbrev ApiLine.Units (x:ApiLine):Int:=x.2.2.2.2.2.1
abbrev ApiLine.Amount (x:ApiLine):Int:=x.2.2.2.2.2.2.1
abbrev ApiLine.Rounded (x:ApiLine):Int:=x.2.2.2.2.2.2.2
abbrev tyApiSpell:Ty:=.st (.pr tyApiPeriod (.pr .str (.pr (.sl .str) (.pr .bool .bool))))
abbrev ApiSpell:Type:=ApiPeriod×Str×(List Str)×Bool×Bool
abbrev ApiSpell.Period (x:ApiSpell):ApiPeriod:=x.1
abbrev ApiSpell.Plan (x:ApiSpell):Str:=x.2.1
abbrev ApiSpell.Products (x:ApiSpell):(List Str):=x.2.2.1
abbrev ApiSpell.Suspended (x:ApiSpell):Bool:=x.2.2.2.1
abbrev ApiSpell.Family (x:ApiSpell):Bool:=x.2.2.2.2
abbrev tyApiAccount:Ty:=.st (.pr (.int .i64) (.pr (.int .i64) (.pr (.int .i64) (.pr .bool (.pr .bool (.sl (.int .i64)))))))
abbrev ApiAccount:Type:=Int×Int×Int×Bool×Bool×(List Int)
abbrev ApiAccount.Id (x:ApiAccount):Int:=x.1
abbrev ApiAccount.Since (x:ApiAccount):Int:=x.2.1
abbrev ApiAccount.Anchor (x:ApiAccount):Int:=x.2.2.1
abbrev ApiAccount.Prepaid (x:ApiAccount):Bool:=x.2.2.2.1
abbrev ApiAccount.Closed (x:ApiAccount):Bool:=x.2.2.2.2.1
abbrev ApiAccount.Subs (x:ApiAccount):(List Int):=x.2.2.2.2.2
abbrev tyRateJob:Ty:=.st (.pr tyApiBook (.pr tyApiState (.pr tyApiUsage (.pr tyApiSpell (.pr tyApiAccount (.pr tyApiTariff (.pr (.int .i64) tyApiRated)))))))
abbrev RateJob:Type:=ApiBook×ApiState×ApiUsage×ApiSpell×ApiAccount×ApiTariff×Int×ApiRated
abbrev RateJob.book (x:RateJob):ApiBook:=x.1
abbrev RateJob.state (x:RateJob):ApiState:=x.2.1
abbrev RateJob.u (x:RateJob):ApiUsage:=x.2.2.1
abbrev RateJob.spell (x:RateJob):ApiSpell:=x.2.2.2.1
abbrev RateJob.account (x:RateJob):ApiAccount:=x.2.2.2.2.1
abbrev RateJob.tariff (x:RateJob):ApiTariff:=x.2.2.2.2.2.1
abbrev RateJob.free (x:RateJob):Int:=x.2.2.2.2.2.2.1
abbrev RateJob.r (x:RateJob):ApiRated:=x.2.2.2.2.2.2.2
abbrev tyApiSub:Ty:=.st (.pr (.int .i64) (.pr (.int .i64) (.pr (.int .i64) (.pr .str (.pr (.sl .str) (.pr (.sl .str) (.pr .bool .bool)))))))
abbrev ApiSub:Type:=Int×Int×Int×Str×(List Str)×(List Str)×Bool×Bool
abbrev ApiSub.Id (x:ApiSub):Int:=x.1
abbrev ApiSub.Account (x:ApiSub):Int:=x.2.1
abbrev ApiSub.Since (x:ApiSub):Int:=x.2.2.1
abbrev ApiSub.Plan (x:ApiSub):Str:=x.2.2.2.1
abbrev ApiSub.Numbers (x:ApiSub):(List Str):=x.2.2.2.2.1
abbrev ApiSub.Products (x:ApiSub):(List Str):=x.2.2.2.2.2.1
abbrev ApiSub.Suspended (x:ApiSub):Bool:=x.2.2.2.2.2.2.1
abbrev ApiSub.Family (x:ApiSub):Bool:=x.2.2.2.2.2.2.2
abbrev tyApiEnv:Ty:=.st (.pr (.int .i64) (.pr (.int .i64) (.pr (.int .i64) (.pr (.int .i64) (.pr (.int .i64) (.pr (.int .i64) (.pr .str (.pr .str .bool))))))))
abbrev ApiEnv:Type:=Int×Int×Int×Int×Int×Int×Str×Str×Bool
abbrev ApiEnv.Kind (x:ApiEnv):Int:=x.1
abbrev ApiEnv.Units (x:ApiEnv):Int:=x.2.1
abbrev ApiEnv.Weekday (x:ApiEnv):Int:=x.2.2.1
abbrev ApiEnv.Minute (x:ApiEnv):Int:=x.2.2.2.1
abbrev ApiEnv.Total (x:ApiEnv):Int:=x.2.2.2.2.1
abbrev ApiEnv.Spent (x:ApiEnv):Int:=x.2.2.2.2.2.1
abbrev ApiEnv.Zone (x:ApiEnv):Str:=x.2.2.2.2.2.2.1
abbrev ApiEnv.Band (x:ApiEnv):Str:=x.2.2.2.2.2.2.2.1
abbrev ApiEnv.Family (x:ApiEnv):Bool:=x.2.2.2.2.2.2.2.2
abbrev tyApiCustomers:Ty:=.st (.pr (.sl tyApiAccount) (.sl tyApiSub))
abbrev ApiCustomers:Type:=(List ApiAccount)×(List ApiSub)
abbrev ApiCustomers.Accounts (x:ApiCustomers):(List ApiAccount):=x.1
abbrev ApiCustomers.Subs (x:ApiCustomers):(List ApiSub):=x.2
abbrev tyBundleStore:Ty:=.st (.pr (.sl tyApiBucket) .ref)
abbrev BundleStore:Type:=(List ApiBucket)×Unit
abbrev BundleStore.list (x:BundleStore):(List ApiBucket):=x.1
abbrev BundleStore.has (x:BundleStore):Unit:=x.2
abbrev tyBundleIdentity:Ty:=.st (.pr (.int .i64) (.pr .str (.pr (.int .i64) (.int .i64))))
abbrev BundleIdentity:Type:=Int×Str×Int×Int
abbrev BundleIdentity.sub (x:BundleIdentity):Int:=x.1
abbrev BundleIdentity.product (x:BundleIdentity):Str:=x.2.1
abbrev BundleIdentity.index (x:BundleIdentity):Int:=x.2.2.1
abbrev BundleIdentity.from_ (x:BundleIdentity):Int:=x.2.2.2
abbrev tyBundleHolding:Ty:=.st (.pr (.int .i64) (.pr (.int .i64) (.pr .str (.sl tyApiPeriod))))
abbrev BundleHolding:Type:=Int×Int×Str×(List ApiPeriod)
abbrev BundleHolding.account (x:BundleHolding):Int:=x.1
abbrev BundleHolding.sub (x:BundleHolding):Int:=x.2.1
abbrev BundleHolding.product (x:BundleHolding):Str:=x.2.2.1
abbrev BundleHolding.active (x:BundleHolding):(List ApiPeriod):=x.2.2.2
abbrev tyBundleGranted:Ty:=.st (.pr tyApiBucket (.int .i64))
abbrev BundleGranted:Type:=ApiBucket×Int
abbrev BundleGranted.bucket (x:BundleGranted):ApiBucket:=x.1
abbrev BundleGranted.rollover (x:BundleGranted):Int:=x.2
abbrev tyHistoryKey:Ty:=.st (.pr (.int .i64) (.pr (.int .i64) (.pr (.int .i64) (.int .i64))))
abbrev HistoryKey:Type:=Int×Int×Int×Int
abbrev HistoryKey.start (x:HistoryKey):Int:=x.1
abbrev HistoryKey.source (x:HistoryKey):Int:=x.2.1
abbrev HistoryKey.serial (x:HistoryKey):Int:=x.2.2.1
abbrev HistoryKey.id (x:HistoryKey):Int:=x.2.2.2
abbrev tySubscribeMoment:Ty:=.st (.pr (.int .i64) tyApiSub)
abbrev SubscribeMoment:Type:=Int×ApiSub
abbrev SubscribeMoment.at_ (x:SubscribeMoment):Int:=x.1
abbrev SubscribeMoment.s (x:SubscribeMoment):ApiSub:=x.2
abbrev tyBucketIdentity:Ty:=.st (.pr (.int .i64) (.pr .str (.pr (.int .i64) (.int .i64))))
abbrev BucketIdentity:Type:=Int×Str×Int×Int
abbrev BucketIdentity.sub (x:BucketIdentity):Int:=x.1
abbrev BucketIdentity.product (x:BucketIdentity):Str:=x.2.1
abbrev BucketIdentity.index (x:BucketIdentity):Int:=x.2.2.1
abbrev BucketIdentity.from_ (x:BucketIdentity):Int:=x.2.2.2
abbrev tyApiPiece:Ty:=.st (.pr .str tyApiPeriod)
abbrev ApiPiece:Type:=Str×ApiPeriod
abbrev ApiPiece.Band (x:ApiPiece):Str:=x.1
abbrev ApiPiece.Period (x:ApiPiece):ApiPeriod:=x.2
abbrev tyCustomerWorld:Ty:=.st (.pr .ref (.pr .ref (.pr .ref (.pr .ref (.pr .ref (.pr (.sl (.int .i64)) (.sl (.int .i64))))))))
abbrev CustomerWorld:Type:=Unit×Unit×Unit×Unit×Unit×(List Int)×(List Int)
abbrev CustomerWorld.accounts (x:CustomerWorld):Unit:=x.1
abbrev CustomerWorld.subs (x:CustomerWorld):Unit:=x.2.1
abbrev CustomerWorld.ever (x:CustomerWorld):Unit:=x.2.2.1
abbrev CustomerWorld.owners (x:CustomerWorld):Unit:=x.2.2.2.1
abbrev CustomerWorld.live (x:CustomerWorld):Unit:=x.2.2.2.2.1
abbrev CustomerWorld.opened (x:CustomerWorld):(List Int):=x.2.2.2.2.2.1
abbrev CustomerWorld.added (x:CustomerWorld):(List Int):=x.2.2.2.2.2.2
abbrev tyApiDate:Ty:=.st (.pr (.int .i64) (.pr (.int .i64) (.int .i64)))
abbrev ApiDate:Type:=Int×Int×Int
abbrev ApiDate.Year (x:ApiDate):Int:=x.1
abbrev ApiDate.Month (x:ApiDate):Int:=x.2.1
abbrev ApiDate.Day (x:ApiDate):Int:=x.2.2
abbrev tyIntervalChange:Ty:=.st (.pr (.int .i64) (.pr (.int .i64) (.int .i64)))
abbrev IntervalChange:Type:=Int×Int×Int
abbrev IntervalChange.at_ (x:IntervalChange):Int:=x.1
abbrev IntervalChange.list (x:IntervalChange):Int:=x.2.1
abbrev IntervalChange.by_ (x:IntervalChange):Int:=x.2.2
def Z27 (N:Nat):Option (ApiBook) :=
  some (([(0,1,1,0,([]:Str),([112,114,101,112,97,105,100]:Str),1),(0,3,1,1,([]:Str),([98,97,115,105,99]:Str),0),(0,8,0,1,([]:Str),([112,97,99,107]:Str),0),(0,14,1,0,([]:Str),([]:Str),700)]:(List ApiEvent)),([(([98,97,115,105,99]:Str),0,false,([(([104,111,109,101]:Str),([([52,57]:Str)]:(List Str)))]:(List ApiZone)),([(([97,108,108]:Str),([]:(List ApiSlot)))]:(List ApiBand)),([(1,([]:Str),([]:Str),500,([(0,1,20)]:(List ApiStep)))]:(List ApiRate)),([]:(List ApiDiscount)))]:(List ApiTariff)),([(([112,97,99,107]:Str),0,0,([102,101,101]:Str),false,([(1,([]:(List Str)),30,0,0,false)]:(List ApiBundle)))]:(List ApiProduct)),([]:(List ApiTax)),([]:(List Int)),([]:(List ApiAgreement)))
def Z205_l1 (N:Nat) (x0:(List Str)):(Unit)→Option ((Unit)⊕((Unit))):=fun _ =>
  (if (decide (0<(List.length x0:Int))) then
    none
  else
    some false:Option (Bool)).bind fun v1 =>
  if v1 then
    none
  else
    some (.inr ())
def Z205 (N:Nat) (x0:(List Str)) (x1:Str):Option ((List Str)) :=
  (loopN (Z205_l1 N x0) N ()).bind fun _ =>
  (slc x0 0 0).bind fun s2 =>
  (app 16 ([]:(List Str)) s2).bind fun q3 =>
  (app 16 q3 ([x1]:(List Str))).bind fun q4 =>
  (slc x0 0 (List.length x0:Int)).bind fun s5 =>
  (app 16 q4 s5).bind fun q6 =>
  some q6
def Z179 (N:Nat) (x0:ApiSub) (x1:ApiEvent):Option (Int×Int×Int×Str×(List Str)×Bool×Bool×(List Str)) :=
  if (x1.Kind==3) then
    some (x1.Sub,x1.Account,x1.At,x1.Name,([]:(List Str)),false,false,([]:(List Str)))
  else
    if (x1.Kind==4) then
      none
    else
      if (x1.Kind==7) then
        none
      else
        if (x1.Kind==8) then
          (Z205 N x0.Products x1.Name).bind fun r1 =>
          some (x0.Id,x0.Account,x0.Since,x0.Plan,x0.Numbers,x0.Suspended,x0.Family,r1)
        else
          none
def Z125_l1 (N:Nat) (x0:(List ApiEvent)) (x1:Int):(Int×(List SubscribeMoment)×Int×Int×Int×Str×(List Str)×Bool×Bool×(List Str))→Option ((Int×(List SubscribeMoment)×Int×Int×Int×Str×(List Str)×Bool×Bool×(List Str))⊕(((List SubscribeMoment)))):=fun (v9,v10,v11,v12,v13,v14,v15,v16,v17,v18) =>
  if (decide (v9<(List.length x0:Int))) then
    ((idx x0 v9).bind fun x22 =>
    if ((x1==0)||(x22.Sub != x1)) then
      some (v10,v11,v12,v13,v14,v15,v16,v17,v18)
    else
      (Z179 N (v11,v12,v13,v14,v15,v18,v16,v17) x22).bind fun (r51,r52,r53,r54,r55,r56,r57,r58) =>
      (if (decide ((List.length v10:Int)>0)) then
        (idx v10 (IntKind.wrap .i64 ((List.length v10:Int) - 1))).bind fun _ =>
        (idx v10 (IntKind.wrap .i64 ((List.length v10:Int) - 1))).bind fun x60 =>
        some (x60.at_==x22.At)
      else
        some false:Option (Bool)).bind fun v61 =>
      if v61 then
        (idx v10 (IntKind.wrap .i64 ((List.length v10:Int) - 1))).bind fun _ =>
        (idx v10 (IntKind.wrap .i64 ((List.length v10:Int) - 1))).bind fun y62 =>
        some ((List.set v10 (Int.toNat (IntKind.wrap .i64 ((List.length v10:Int) - 1))) (y62.at_,(r51,r52,r53,r54,r55,r58,r56,r57))),r51,r52,r53,r54,r55,r56,r57,r58)
      else
        (app 104 v10 ([(x22.At,(r51,r52,r53,r54,r55,r58,r56,r57))]:(List SubscribeMoment))).bind fun q63 =>
        some (q63,r51,r52,r53,r54,r55,r56,r57,r58):Option (((List SubscribeMoment)×Int×Int×Int×Str×(List Str)×Bool×Bool×(List Str)))).bind fun (v64,v65,v66,v67,v68,v69,v70,v71,v72) =>
    some (.inl ((IntKind.wrap .i64 (v9+1)),v64,v65,v66,v67,v68,v69,v70,v71,v72))
  else
    some (.inr v10)
def Z125 (N:Nat) (x0:(List ApiEvent)) (x1:Int):Option ((List SubscribeMoment)) :=
  (loopN (Z125_l1 N x0 x1) N (0,([]:(List SubscribeMoment)),0,0,0,([]:Str),([]:(List Str)),false,false,([]:(List Str)))).bind fun v73 =>
  some v73
def Z124_l1 (N:Nat) (x0:(List SubscribeMoment)):(Int×(List SubscribeMoment))→Option ((Int×(List SubscribeMoment))⊕(((List SubscribeMoment)))):=fun (v2,v3) =>
  if (decide (v2<(List.length x0:Int))) then
    (idx x0 v2).bind fun x4 =>
    if (decide ((List.length v3:Int)>0)) then
      none
    else
      (app 104 v3 ([x4]:(List SubscribeMoment))).bind fun q5 =>
      some (.inl ((IntKind.wrap .i64 (v2+1)),q5))
  else
    some (.inr v3)
def Z124 (N:Nat) (x0:(List SubscribeMoment)):Option ((List SubscribeMoment)) :=
  (loopN (Z124_l1 N x0) N (0,([]:(List SubscribeMoment)))).bind fun v6 =>
  some v6
def Z82_l1 (N:Nat) (r2:(List SubscribeMoment)):(Int×(List ApiSpell))→Option ((Int×(List ApiSpell))⊕(((List ApiSpell)))):=fun (v4,v5) =>
  if (decide (v4<(List.length r2:Int))) then
    (idx r2 v4).bind fun _ =>
    (idx r2 v4).bind fun x6 =>
    if (x6.s.Id==0) then
      none
    else
      if (decide ((IntKind.wrap .i64 (v4+1))<(List.length r2:Int))) then
        none
      else
        (app 16 ([]:(List Str)) x6.s.Products).bind fun q9 =>
        (app 64 v5 ([((x6.at_,12622780800),x6.s.Plan,q9,x6.s.Suspended,x6.s.Family)]:(List ApiSpell))).bind fun q10 =>
        some (.inl ((IntKind.wrap .i64 (v4+1)),q10))
  else
    some (.inr v5)
def Z82 (N:Nat) (x0:(List ApiEvent)) (x1:Int):Option ((List ApiSpell)) :=
  (Z125 N x0 x1).bind fun r1 =>
  (Z124 N r1).bind fun r2 =>
  (loopN (Z82_l1 N r2) N (0,([]:(List ApiSpell)))).bind fun v11 =>
  some v11
def Z129 (N:Nat) (x0:ApiPeriod):Option (Bool) :=
  some (((decide (x0.From≥0))&&(decide (x0.From<x0.To)))&&(decide (x0.To≤12622780800)))
def Z83 (N:Nat) (x0:ApiPeriod) (x1:Int):Option (Bool) :=
  (Z129 N x0).bind fun r1 =>
  some ((r1&&(decide (x1≥x0.From)))&&(decide (x1<x0.To)))
def Z63_l1 (N:Nat) (r1:(List ApiSpell)) (x2:Int):(ApiPeriod×Str×Bool×Bool)→Option ((ApiPeriod×Str×Bool×Bool)⊕((ApiPeriod×Str×Bool×Bool)⊕(Bool×ApiSpell))):=fun (v2,v3,v4,v5) =>
  if (decide (0<(List.length r1:Int))) then
    (idx r1 0).bind fun _ =>
    (idx r1 0).bind fun x6 =>
    (Z83 N x6.Period x2).bind fun r7 =>
    if r7 then
      some (.inr (.inr (true,x6)))
    else
      none
  else
    some (.inr (.inl (v2,v3,v4,v5)))
def Z63 (N:Nat) (x0:(List ApiEvent)) (x1:Int) (x2:Int):Option (ApiSpell×Bool) :=
  (Z82 N x0 x1).bind fun r1 =>
  (loopN (Z63_l1 N r1 x2) N ((0,0),([]:Str),false,false)).bind fun
    | .inl (v8,v9,v10,v11) =>
      some (((0,0),([]:Str),([]:(List Str)),false,false),false)
    | .inr (v12,v13) =>
      some (v13,v12)
def Z130 (N:Nat):Option ((List (Int×ApiAccount))×(List (Int×ApiSub))×(List (Int×Bool))×(List (Str×Int))×(List (Int×Int))) :=
  some (([]:List (Int×ApiAccount)),([]:List (Int×ApiSub)),([]:List (Int×Bool)),([]:List (Str×Int)),([]:List (Int×Int)))
def Z131 (N:Nat) (x0:(List ApiEvent)) (x1:Int):Option ((List ApiEvent)×Int) :=
  some (x0,x1)
def Z180_l1 (N:Nat) (x1:(List ApiEvent)) (x2:Int):((Int)×(List ApiEvent))→Option (((Int)×(List ApiEvent))⊕(((Unit))×(List ApiEvent))):=fun (v1,acc2) =>
  if (decide (v1<(List.length x1:Int))) then
    (idx x1 v1).bind fun x3 =>
    if (decide (x3.At≤x2)) then
      if (!true) then
        none
      else
        some (.inl ((IntKind.wrap .i64 (v1+1)),(acc2++[x3])))
    else
      some (.inl ((IntKind.wrap .i64 (v1+1)),acc2))
  else
    some (.inr ((),acc2))
def Z180 (N:Nat) (x1:(List ApiEvent)) (x2:Int):Option (List ApiEvent) :=
  (loopN (Z180_l1 N x1 x2) N (0,([]:(List ApiEvent)))).bind fun (_,acc4) =>
  some acc4
def Z181_l1 (N:Nat) (x0:(List Int)):(Unit)→Option ((Unit)⊕((Unit))):=fun _ =>
  (if (decide (0<(List.length x0:Int))) then
    none
  else
    some false:Option (Bool)).bind fun v1 =>
  if v1 then
    none
  else
    some (.inr ())
def Z181 (N:Nat) (x0:(List Int)) (x1:Int):Option ((List Int)) :=
  (loopN (Z181_l1 N x0) N ()).bind fun _ =>
  (slc x0 0 0).bind fun s2 =>
  (app 8 ([]:(List Int)) s2).bind fun q3 =>
  (app 8 q3 ([x1]:(List Int))).bind fun q4 =>
  (slc x0 0 (List.length x0:Int)).bind fun s5 =>
  (app 8 q4 s5).bind fun q6 =>
  some q6
def Z207_l1 (N:Nat) (x0:(List Str)):(Unit)→Option ((Unit)⊕((Unit))):=fun _ =>
  (if (decide (0<(List.length x0:Int))) then
    none
  else
    some false:Option (Bool)).bind fun v1 =>
  if v1 then
    none
  else
    some (.inr ())
def Z207 (N:Nat) (x0:(List Str)) (x1:Str):Option ((List Str)) :=
  (loopN (Z207_l1 N x0) N ()).bind fun _ =>
  (slc x0 0 0).bind fun s2 =>
  (app 16 ([]:(List Str)) s2).bind fun q3 =>
  (app 16 q3 ([x1]:(List Str))).bind fun q4 =>
  (slc x0 0 (List.length x0:Int)).bind fun s5 =>
  (app 16 q4 s5).bind fun q6 =>
  some q6
def Z182_k2 (N:Nat) (x1:ApiSub) (x2:ApiEvent) (m5000_5:(List Int)) (m5000_6:(List Int)) (m5001:(List (Int×ApiAccount))) (m5002:(List (Int×ApiSub))) (m5003:(List (Int×Bool))) (m5004:(List (Str×Int))) (m5005:(List (Int×Int))):Option (Int×Int×Int×Str×(List Str)×Bool×Bool×(List Str)) :=
  if (x2.Kind==5) then
    none
  else
    if (x2.Kind==6) then
      none
    else
      if (x2.Kind==7) then
        none
      else
        if (x2.Kind==8) then
          (Z207 N x1.Products x2.Name).bind fun r1 =>
          some (x1.Id,x1.Account,x1.Since,x1.Plan,x1.Numbers,x1.Suspended,x1.Family,r1)
        else
          none
def Z132_k2 (N:Nat) (x1:ApiEvent) (m5000_5:(List Int)) (m5000_6:(List Int)) (m5001:(List (Int×ApiAccount))) (m5002:(List (Int×ApiSub))) (m5003:(List (Int×Bool))) (m5004:(List (Str×Int))) (m5005:(List (Int×Int))):Option ((List Int)×(List Int)×(List (Int×ApiAccount))×(List (Int×ApiSub))×(List (Int×Bool))×(List (Str×Int))×(List (Int×Int))) :=
  if (x1.Kind==1) then
    if (!(findL (k:=(.int .i64)) x1.Account m5001).isSome) then
      (Z181 N m5000_5 x1.Account).bind fun r1 =>
      some (r1,m5000_6,(putL (k:=(.int .i64)) x1.Account (x1.Account,x1.At,x1.Value,(x1.Name==([112,114,101,112,97,105,100]:Str)),false,([]:(List Int))) m5001),m5002,m5003,m5004,m5005)
    else
      none
  else
    if (x1.Kind==2) then
      none
    else
      if (x1.Kind==3) then
        if (!((findL (k:=(.int .i64)) x1.Sub m5003).getD false)) then
          (Z181 N m5000_6 x1.Sub).bind fun r2 =>
          some (m5000_5,r2,m5001,(putL (k:=(.int .i64)) x1.Sub (x1.Sub,x1.Account,x1.At,x1.Name,([]:(List Str)),([]:(List Str)),false,false) m5002),(putL (k:=(.int .i64)) x1.Sub true m5003),m5004,(putL (k:=(.int .i64)) x1.Account (IntKind.wrap .i64 (((findL (k:=(.int .i64)) x1.Account m5005).getD 0)+1)) m5005))
        else
          none
      else
        if (x1.Kind==4) then
          none
        else
          (if (x1.Kind==14) then
            some (x1.Kind==14)
          else
            some (x1.Kind==15):Option ((Bool))).bind fun v3 =>
          if v3 then
            some (m5000_5,m5000_6,m5001,m5002,m5003,m5004,m5005)
          else
            if (findL (k:=(.int .i64)) x1.Sub m5002).isSome then
              (Z182_k2 N ((findL (k:=(.int .i64)) x1.Sub m5002).getD (0,0,0,([]:Str),([]:(List Str)),([]:(List Str)),false,false)) x1 m5000_5 m5000_6 m5001 m5002 m5003 m5004 m5005).bind fun (r4,r5,r6,r7,r8,r9,r10,r11) =>
              some (m5000_5,m5000_6,m5001,(putL (k:=(.int .i64)) x1.Sub (r4,r5,r6,r7,r8,r11,r9,r10) m5002),m5003,m5004,m5005)
            else
              none
def Z133_l1 (N:Nat) (m5000_6:(List Int)) (m5002:(List (Int×ApiSub))):(Int×(List (Int×(List Int)))×(List ApiSub))→Option ((Int×(List (Int×(List Int)))×(List ApiSub))⊕(((List (Int×(List Int)))×(List ApiSub)))):=fun (v4,v5,v6) =>
  if (decide (v4<(List.length m5000_6:Int))) then
    (idx m5000_6 v4).bind fun x7 =>
    if (!(findL (k:=(.int .i64)) x7 m5002).isSome) then
      none
    else
      (chk (eqK (.int .i64) (((findL (k:=(.int .i64)) x7 m5002).getD (0,0,0,([]:Str),([]:(List Str)),([]:(List Str)),false,false)).Account) (((findL (k:=(.int .i64)) x7 m5002).getD (0,0,0,([]:Str),([]:(List Str)),([]:(List Str)),false,false)).Account))).bind fun _ =>
      (app 8 (optL (fun (y:(List Int))=>(y:(List Int))) (findL (k:=(.int .i64)) (((findL (k:=(.int .i64)) x7 m5002).getD (0,0,0,([]:Str),([]:(List Str)),([]:(List Str)),false,false)).Account) v5)) ([x7]:(List Int))).bind fun q8 =>
      (chk (eqK (.int .i64) (((findL (k:=(.int .i64)) x7 m5002).getD (0,0,0,([]:Str),([]:(List Str)),([]:(List Str)),false,false)).Account) (((findL (k:=(.int .i64)) x7 m5002).getD (0,0,0,([]:Str),([]:(List Str)),([]:(List Str)),false,false)).Account))).bind fun _ =>
      (app 96 v6 ([((findL (k:=(.int .i64)) x7 m5002).getD (0,0,0,([]:Str),([]:(List Str)),([]:(List Str)),false,false))]:(List ApiSub))).bind fun q9 =>
      some (.inl ((IntKind.wrap .i64 (v4+1)),(putL (k:=(.int .i64)) (((findL (k:=(.int .i64)) x7 m5002).getD (0,0,0,([]:Str),([]:(List Str)),([]:(List Str)),false,false)).Account) q8 v5),q9))
  else
    some (.inr (v5,v6))
def Z133_l2 (N:Nat) (m5000_5:(List Int)) (m5001:(List (Int×ApiAccount))) (v10:(List (Int×(List Int)))):(Int×(List ApiAccount)×(List ApiSub))→Option ((Int×(List ApiAccount)×(List ApiSub))⊕(((List ApiAccount)×(List ApiSub)))):=fun (v15,v16,v17) =>
  if (decide (v15<(List.length m5000_5:Int))) then
    (idx m5000_5 v15).bind fun x18 =>
    (app 56 v16 ([(((findL (k:=(.int .i64)) x18 m5001).getD (0,0,0,false,false,([]:(List Int)))).Id,((findL (k:=(.int .i64)) x18 m5001).getD (0,0,0,false,false,([]:(List Int)))).Since,((findL (k:=(.int .i64)) x18 m5001).getD (0,0,0,false,false,([]:(List Int)))).Anchor,((findL (k:=(.int .i64)) x18 m5001).getD (0,0,0,false,false,([]:(List Int)))).Prepaid,((findL (k:=(.int .i64)) x18 m5001).getD (0,0,0,false,false,([]:(List Int)))).Closed,((findL (k:=(.int .i64)) x18 v10).getD ([]:(List Int))))]:(List ApiAccount))).bind fun q19 =>
    some (.inl ((IntKind.wrap .i64 (v15+1)),q19,v17))
  else
    some (.inr (v16,v17))
def Z133 (N:Nat) (m5000_5:(List Int)) (m5000_6:(List Int)) (m5001:(List (Int×ApiAccount))) (m5002:(List (Int×ApiSub))) (m5003:(List (Int×Bool))) (m5004:(List (Str×Int))) (m5005:(List (Int×Int))):Option ((List ApiAccount)×(List ApiSub)) :=
  (loopN (Z133_l1 N m5000_6 m5002) N (0,([]:List (Int×(List Int))),([]:(List ApiSub)))).bind fun (v10,v11) =>
  (loopN (Z133_l2 N m5000_5 m5001 v10) N (0,([]:(List ApiAccount)),v11)).bind fun (v20,v21) =>
  some (v20,v21)
def Z84_l1 (N:Nat):((List Int)×(List Int)×(List (Int×ApiAccount))×(List (Int×ApiSub))×(List (Int×Bool))×(List (Str×Int))×(List (Int×Int)))→ApiEvent→Option ((List Int)×(List Int)×(List (Int×ApiAccount))×(List (Int×ApiSub))×(List (Int×Bool))×(List (Str×Int))×(List (Int×Int))):=fun (v13,v14,v15,v16,v17,v18,v19) e20 =>
  (Z132_k2 N e20 v13 v14 v15 v16 v17 v18 v19).bind fun (r21,r22,r23,r24,r25,r26,r27) =>
  some (r21,r22,r23,r24,r25,r26,r27)
def Z84 (N:Nat) (x0:(List ApiEvent)) (x1:Int):Option ((List ApiAccount)×(List ApiSub)) :=
  (Z130 N).bind fun (r1,r2,r3,r4,r5) =>
  (Z131 N x0 x1).bind fun (r6,r7) =>
  (Z180 N r6 r7).bind fun es35 =>
  (foldO (Z84_l1 N) es35 (([]:(List Int)),([]:(List Int)),r1,r2,r3,r4,r5)).bind fun (v28,v29,v30,v31,v32,v33,v34) =>
  (Z133 N v28 v29 v30 v31 v32 v33 v34).bind fun (r36,r37) =>
  some (r36,r37)
def Z64_l1 (N:Nat) (r2:(List ApiSub)) (x1:Int):(Int×Int×Int×Str×Bool×Bool)→Option ((Int×Int×Int×Str×Bool×Bool)⊕((Bool×ApiSub))):=fun (v3,v4,v5,v6,v7,v8) =>
  if (decide (0<(List.length r2:Int))) then
    (idx r2 0).bind fun _ =>
    (idx r2 0).bind fun x9 =>
    if (x9.Id==x1) then
      some (.inr (true,x9))
    else
      none
  else
    none
def Z64 (N:Nat) (x0:(List ApiEvent)) (x1:Int) (x2:Int):Option (ApiSub×Bool) :=
  (Z84 N x0 x2).bind fun (r1,r2) =>
  (loopN (Z64_l1 N r2 x1) N (0,0,0,([]:Str),false,false)).bind fun (v10,v11) =>
  some (v11,v10)
def Z65_l1 (N:Nat) (r1:(List ApiAccount)) (x1:Int):(Int×Int×Int×Bool×Bool)→Option ((Int×Int×Int×Bool×Bool)⊕((Bool×ApiAccount))):=fun (v3,v4,v5,v6,v7) =>
  if (decide (0<(List.length r1:Int))) then
    (idx r1 0).bind fun _ =>
    (idx r1 0).bind fun x8 =>
    if (x8.Id==x1) then
      some (.inr (true,x8))
    else
      none
  else
    none
def Z65 (N:Nat) (x0:(List ApiEvent)) (x1:Int) (x2:Int):Option (ApiAccount×Bool) :=
  (Z84 N x0 x2).bind fun (r1,r2) =>
  (loopN (Z65_l1 N r1 x1) N (0,0,0,false,false)).bind fun (v9,v10) =>
  some (v10,v9)
def Z49 (N:Nat) (m5000_0:ApiBook) (m5000_1:ApiState) (m5000_2:ApiUsage) (m5000_3_0:ApiPeriod) (m5000_3_1:Str) (m5000_3_3:Bool) (m5000_3_4:Bool) (m5000_4_0:Int) (m5000_4_1:Int) (m5000_4_2:Int) (m5000_4_3:Bool) (m5000_4_4:Bool) (m5000_5_0:Str) (m5000_5_1:Int) (m5000_5_2:Bool) (m5000_6:Int) (m5000_7_0:ApiUsage) (m5000_7_1:Int) (m5000_7_2:Str) (m5000_7_3:Int) (m5000_7_4:Str) (m5000_7_7:Int) (m5000_7_8:Int) (m5000_7_9:Int) (m5000_7_11:Int) (m5000_7_12:Int) (m5001:(List Str)) (m5002:(List Int)) (m5003:(List ApiZone)) (m5004:(List ApiBand)) (m5005:(List ApiRate)) (m5006:(List ApiDiscount)) (m5007:(List ApiTake)) (m5008:(List ApiSegment)) (m5009:(List ApiGiven)):Option (Int×ApiBook×ApiState×ApiUsage×ApiPeriod×Str×(List Str)×Bool×Bool×Int×Int×Int×Bool×Bool×(List Int)×Str×Int×Bool×Int×ApiUsage×Int×Str×Int×Str×Int×Int×Int×Int×Int×(List ApiZone)×(List ApiBand)×(List ApiRate)×(List ApiDiscount)×(List ApiTake)×(List ApiSegment)×(List ApiGiven)) :=
  (Z63 N m5000_0.Events m5000_2.Sub m5000_2.Start).bind fun (r1,r2) =>
  if (!r2) then
    some (11,m5000_0,m5000_1,m5000_2,m5000_3_0,m5000_3_1,m5001,m5000_3_3,m5000_3_4,m5000_4_0,m5000_4_1,m5000_4_2,m5000_4_3,m5000_4_4,m5002,m5000_5_0,m5000_5_1,m5000_5_2,m5000_6,m5000_7_0,m5000_7_1,m5000_7_2,m5000_7_3,m5000_7_4,m5000_7_7,m5000_7_8,m5000_7_9,m5000_7_11,m5000_7_12,m5003,m5004,m5005,m5006,m5007,m5008,m5009)
  else
    (Z64 N m5000_0.Events m5000_2.Sub m5000_2.Start).bind fun (r3,r4) =>
    if (r3.Account != m5000_2.Account) then
      none
    else
      if r1.Suspended then
        none
      else
        (Z65 N m5000_0.Events r3.Account m5000_2.Start).bind fun (r7,r8) =>
        some (0,m5000_0,m5000_1,m5000_2,r1.Period,r1.Plan,r1.Products,r1.Suspended,r1.Family,r7.Id,r7.Since,r7.Anchor,r7.Prepaid,r7.Closed,r7.Subs,m5000_5_0,m5000_5_1,m5000_5_2,m5000_6,m5000_7_0,m5000_7_1,m5000_7_2,m5000_7_3,m5000_7_4,m5000_7_7,m5000_7_8,m5000_7_9,m5000_7_11,m5000_7_12,m5003,m5004,m5005,m5006,m5007,m5008,m5009)
def Z48 (N:Nat) (m5001_0:ApiBook) (m5001_1:ApiState) (m5001_2:ApiUsage) (m5001_3_0:ApiPeriod) (m5001_3_1:Str) (m5001_3_3:Bool) (m5001_3_4:Bool) (m5001_4_0:Int) (m5001_4_1:Int) (m5001_4_2:Int) (m5001_4_3:Bool) (m5001_4_4:Bool) (m5001_5_0:Str) (m5001_5_1:Int) (m5001_5_2:Bool) (m5001_6:Int) (m5001_7_0:ApiUsage) (m5001_7_1:Int) (m5001_7_2:Str) (m5001_7_3:Int) (m5001_7_4:Str) (m5001_7_7:Int) (m5001_7_8:Int) (m5001_7_9:Int) (m5001_7_11:Int) (m5001_7_12:Int) (m5002:(List Str)) (m5003:(List Int)) (m5004:(List ApiZone)) (m5005:(List ApiBand)) (m5006:(List ApiRate)) (m5007:(List ApiDiscount)) (m5008:(List ApiTake)) (m5009:(List ApiSegment)) (m5010:(List ApiGiven)):Option (Int×ApiBook×ApiState×ApiUsage×ApiSpell×ApiAccount×Str×Int×Bool×Int×ApiUsage×Int×Str×Int×Str×Int×Int×Int×Int×Int×(List ApiZone)×(List ApiBand)×(List ApiRate)×(List ApiDiscount)×(List ApiTake)×(List ApiSegment)×(List ApiGiven)) :=
  (Z49 N m5001_0 m5001_1 m5001_2 m5001_3_0 m5001_3_1 m5001_3_3 m5001_3_4 m5001_4_0 m5001_4_1 m5001_4_2 m5001_4_3 m5001_4_4 m5001_5_0 m5001_5_1 m5001_5_2 m5001_6 m5001_7_0 m5001_7_1 m5001_7_2 m5001_7_3 m5001_7_4 m5001_7_7 m5001_7_8 m5001_7_9 m5001_7_11 m5001_7_12 m5002 m5003 m5004 m5005 m5006 m5007 m5008 m5009 m5010).bind fun (r1,r2,r3,r4,r5,r6,r7,r8,r9,r10,r11,r12,r13,r14,r15,r16,r17,r18,r19,r20,r21,r22,r23,r24,r25,r26,r27,r28,r29,r30,r31,r32,r33,r34,r35,r36) =>
  some (r1,r2,r3,r4,(r5,r6,r7,r8,r9),(r10,r11,r12,r13,r14,r15),r16,r17,r18,r19,r20,r21,r22,r23,r24,r25,r26,r27,r28,r29,r30,r31,r32,r33,r34,r35,r36)
def Z47 (N:Nat) (m5001_0:ApiBook) (m5001_1:ApiState) (m5001_2:ApiUsage) (m5001_3_0:ApiPeriod) (m5001_3_1:Str) (m5001_3_3:Bool) (m5001_3_4:Bool) (m5001_4_0:Int) (m5001_4_1:Int) (m5001_4_2:Int) (m5001_4_3:Bool) (m5001_4_4:Bool) (m5001_5_0:Str) (m5001_5_1:Int) (m5001_5_2:Bool) (m5001_6:Int) (m5001_7_0:ApiUsage) (m5001_7_1:Int) (m5001_7_2:Str) (m5001_7_3:Int) (m5001_7_4:Str) (m5001_7_7:Int) (m5001_7_8:Int) (m5001_7_9:Int) (m5001_7_11:Int) (m5001_7_12:Int) (m5002:(List Str)) (m5003:(List Int)) (m5004:(List ApiZone)) (m5005:(List ApiBand)) (m5006:(List ApiRate)) (m5007:(List ApiDiscount)) (m5008:(List ApiTake)) (m5009:(List ApiSegment)) (m5010:(List ApiGiven)) (m5011:Int):Option (ApiBook×ApiState×ApiUsage×ApiPeriod×Str×(List Str)×Bool×Bool×Int×Int×Int×Bool×Bool×(List Int)×Str×Int×Bool×Int×ApiUsage×Int×Str×Int×Str×Int×Int×Int×Int×Int×Int×(List ApiZone)×(List ApiBand)×(List ApiRate)×(List ApiDiscount)×(List ApiTake)×(List ApiSegment)×(List ApiGiven)) :=
  if (m5011==0) then
    (Z48 N m5001_0 m5001_1 m5001_2 m5001_3_0 m5001_3_1 m5001_3_3 m5001_3_4 m5001_4_0 m5001_4_1 m5001_4_2 m5001_4_3 m5001_4_4 m5001_5_0 m5001_5_1 m5001_5_2 m5001_6 m5001_7_0 m5001_7_1 m5001_7_2 m5001_7_3 m5001_7_4 m5001_7_7 m5001_7_8 m5001_7_9 m5001_7_11 m5001_7_12 m5002 m5003 m5004 m5005 m5006 m5007 m5008 m5009 m5010).bind fun (r1,r2,r3,r4,r5,r6,r7,r8,r9,r10,r11,r12,r13,r14,r15,r16,r17,r18,r19,r20,r21,r22,r23,r24,r25,r26,r27) =>
    some (r2,r3,r4,r5.Period,r5.Plan,r5.Products,r5.Suspended,r5.Family,r6.Id,r6.Since,r6.Anchor,r6.Prepaid,r6.Closed,r6.Subs,r7,r8,r9,r10,r11,r12,r13,r14,r15,r16,r17,r18,r19,r20,r1,r21,r22,r23,r24,r25,r26,r27)
  else
    some (m5001_0,m5001_1,m5001_2,m5001_3_0,m5001_3_1,m5002,m5001_3_3,m5001_3_4,m5001_4_0,m5001_4_1,m5001_4_2,m5001_4_3,m5001_4_4,m5003,m5001_5_0,m5001_5_1,m5001_5_2,m5001_6,m5001_7_0,m5001_7_1,m5001_7_2,m5001_7_3,m5001_7_4,m5001_7_7,m5001_7_8,m5001_7_9,m5001_7_11,m5001_7_12,m5011,m5004,m5005,m5006,m5007,m5008,m5009,m5010)
def Z134 (N:Nat) (x0:(List Str)):Option ((List Str)) :=
  (app 16 ([]:(List Str)) x0).bind fun q1 =>
  some q1
def Z135 (N:Nat) (x0:(List ApiSlot)):Option ((List ApiSlot)) :=
  (app 24 ([]:(List ApiSlot)) x0).bind fun q1 =>
  some q1
def Z136 (N:Nat) (x0:(List ApiStep)):Option ((List ApiStep)) :=
  (app 24 ([]:(List ApiStep)) x0).bind fun q1 =>
  some q1
def Z85_l1 (N:Nat) (x0:ApiTariff):(Int×Str×Int×Bool×(List ApiZone))→Option ((Int×Str×Int×Bool×(List ApiZone))⊕((Str×Int×Bool×(List ApiZone)))):=fun (v6,v7,v8,v9,v10) =>
  if (decide (v6<(List.length x0.Zones:Int))) then
    (idx x0.Zones v6).bind fun x11 =>
    (Z134 N x11.Prefixes).bind fun r12 =>
    (app 40 v10 ([(x11.Name,r12)]:(List ApiZone))).bind fun q13 =>
    some (.inl ((IntKind.wrap .i64 (v6+1)),v7,v8,v9,q13))
  else
    some (.inr (v7,v8,v9,v10))
def Z85_l2 (N:Nat) (x0:ApiTariff):(Int×Str×Int×Bool×(List ApiZone)×(List ApiBand))→Option ((Int×Str×Int×Bool×(List ApiZone)×(List ApiBand))⊕((Str×Int×Bool×(List ApiZone)×(List ApiBand)))):=fun (v24,v25,v26,v27,v28,v29) =>
  if (decide (v24<(List.length x0.Bands:Int))) then
    (idx x0.Bands v24).bind fun x30 =>
    (Z135 N x30.Slots).bind fun r31 =>
    (app 40 v29 ([(x30.Name,r31)]:(List ApiBand))).bind fun q32 =>
    some (.inl ((IntKind.wrap .i64 (v24+1)),v25,v26,v27,v28,q32))
  else
    some (.inr (v25,v26,v27,v28,v29))
def Z85_l3 (N:Nat) (x0:ApiTariff):(Int×Str×Int×Bool×(List ApiZone)×(List ApiBand)×(List ApiRate))→Option ((Int×Str×Int×Bool×(List ApiZone)×(List ApiBand)×(List ApiRate))⊕((Str×Int×Bool×(List ApiZone)×(List ApiBand)×(List ApiRate)))):=fun (v45,v46,v47,v48,v49,v50,v51) =>
  if (decide (v45<(List.length x0.Rates:Int))) then
    (idx x0.Rates v45).bind fun x52 =>
    (Z136 N x52.Steps).bind fun r53 =>
    (app 72 v51 ([(x52.Kind,x52.Zone,x52.Band,x52.Setup,r53)]:(List ApiRate))).bind fun q54 =>
    some (.inl ((IntKind.wrap .i64 (v45+1)),v46,v47,v48,v49,v50,q54))
  else
    some (.inr (v46,v47,v48,v49,v50,v51))
def Z85_l4 (N:Nat) (x0:ApiTariff):(Unit)→Option ((Unit)⊕((Unit))):=fun _ =>
  if (decide (0<(List.length x0.Discounts:Int))) then
    none
  else
    some (.inr ())
def Z85 (N:Nat) (x0:ApiTariff):Option (Str×Int×Bool×(List ApiZone)×(List ApiBand)×(List ApiRate)) :=
  (loopN (Z85_l1 N x0) N (0,x0.Name,x0.From,x0.Split,([]:(List ApiZone)))).bind fun (v14,v15,v16,v17) =>
  (loopN (Z85_l2 N x0) N (0,v14,v15,v16,v17,([]:(List ApiBand)))).bind fun (v33,v34,v35,v36,v37) =>
  (loopN (Z85_l3 N x0) N (0,v33,v34,v35,v36,v37,([]:(List ApiRate)))).bind fun (v55,v56,v57,v58,v59,v60) =>
  (loopN (Z85_l4 N x0) N ()).bind fun _ =>
  some (v55,v56,v57,v58,v59,v60)
def Z66_l1 (N:Nat) (x0:(List ApiTariff)) (x1:Str) (x2:Int):(Int×Int)→Option ((Int×Int)⊕((Int))):=fun (v1,v2) =>
  if (decide (v2<(List.length x0:Int))) then
    (idx x0 v2).bind fun x3 =>
    if ((x3.Name==x1)&&(decide (x3.From≤x2))) then
      some (.inl (v2,(IntKind.wrap .i64 (v2+1))))
    else
      none
  else
    some (.inr v1)
def Z66 (N:Nat) (x0:(List ApiTariff)) (x1:Str) (x2:Int):Option (ApiTariff×Bool) :=
  (loopN (Z66_l1 N x0 x1 x2) N ((-1),0)).bind fun v4 =>
  if (decide (v4<0)) then
    none
  else
    (idx x0 v4).bind fun x5 =>
    (Z85 N x5).bind fun (r6,r7,r8,r9,r10,r11) =>
    some ((r6,r7,r8,r9,r10,r11,([]:(List ApiDiscount))),true)
def Z138_l1 (N:Nat) (x0:Str):(Int)→Option ((Int)⊕((Unit))):=fun v1 =>
  if (decide (v1<(List.length x0:Int))) then
    (sidx x0 v1).bind fun c2 =>
    if (((decide (c2<97))||(decide (c2>122)))&&((v1==0)||((c2 != 45)&&((decide (c2<48))||(decide (c2>57)))))) then
      none
    else
      some (.inl (IntKind.wrap .i64 (v1+1)))
  else
    some (.inr ())
def Z138 (N:Nat) (x0:Str):Option (Bool) :=
  (loopN (Z138_l1 N x0) N 0).bind fun _ =>
  some ((decide ((List.length x0:Int)≥1))&&(decide ((List.length x0:Int)≤24)))
def Z183_l1 (N:Nat) (x0:(List ApiZone)):(Unit)→Option ((Unit)⊕((Unit))):=fun _ =>
  if (decide (0<(List.length x0:Int))) then
    none
  else
    some (.inr ())
def Z183 (N:Nat) (x0:(List ApiZone)) (m5000:ApiZone):Option (Int) :=
  (loopN (Z183_l1 N x0) N ()).bind fun _ =>
  some (-1)
def Z139 (N:Nat) (x0:(List ApiZone)) (m5000:ApiZone):Option (Bool) :=
  (Z183 N x0 m5000).bind fun r1 =>
  some (decide (r1≥0))
def Z141 (N:Nat) (x0:Int):Option (Bool) :=
  some ((decide (x0≥48))&&(decide (x0≤57)))
def Z87_l1 (N:Nat) (x0:Str):(Int)→Option ((Int)⊕((Unit))):=fun v1 =>
  if (decide (v1<(List.length x0:Int))) then
    (sidx x0 v1).bind fun c2 =>
    (Z141 N c2).bind fun r3 =>
    if (!r3) then
      none
    else
      some (.inl (IntKind.wrap .i64 (v1+1)))
  else
    some (.inr ())
def Z87 (N:Nat) (x0:Str):Option (Bool) :=
  (loopN (Z87_l1 N x0) N 0).bind fun _ =>
  some ((decide ((List.length x0:Int)≥1))&&(decide ((List.length x0:Int)≤15)))
def Z86_l1 (N:Nat) (x4:ApiZone):(Int×(List (Str×Str)))→Option ((Int×(List (Str×Str)))⊕(((List (Str×Str))))):=fun (v11,v12) =>
  if (decide (v11<(List.length x4.Prefixes:Int))) then
    (idx x4.Prefixes v11).bind fun x13 =>
    (Z87 N x13).bind fun r14 =>
    if (!r14) then
      none
    else
      if (findL (k:=.str) x13 v12).isSome then
        none
      else
        some (.inl ((IntKind.wrap .i64 (v11+1)),(putL (k:=.str) x13 x4.Name v12)))
  else
    some (.inr v12)
def Z86_l2 (N:Nat) (x0:(List ApiZone)):(Int×(List (Str×Str)))→Option ((Int×(List (Str×Str)))⊕(((List (Str×Str))))):=fun (v2,v3) =>
  if (decide (v2<(List.length x0:Int))) then
    (idx x0 v2).bind fun x4 =>
    (Z138 N x4.Name).bind fun r6 =>
    if (!r6) then
      none
    else
      (slc x0 0 v2).bind fun s7 =>
      (Z139 N s7 x4).bind fun r9 =>
      if r9 then
        none
      else
        if ((List.length x4.Prefixes:Int)==0) then
          none
        else
          if (decide ((List.length x4.Prefixes:Int)>64)) then
            none
          else
            (loopN (Z86_l1 N x4) N (0,v3)).bind fun v15 =>
            some (.inl ((IntKind.wrap .i64 (v2+1)),v15))
  else
    some (.inr v3)
def Z86 (N:Nat) (x0:(List ApiZone)):Option (Int×(List (Str×Str))) :=
  if (decide ((List.length x0:Int)>64)) then
    none
  else
    (loopN (Z86_l2 N x0) N (0,([]:List (Str×Str)))).bind fun v16 =>
    some (0,v16)
def Z88_l1 (N:Nat) (x1:Str) (m5000:(List (Str×Str))):(Int)→Option ((Int)⊕((Str×Bool))):=fun v1 =>
  if (decide (v1>0)) then
    (slc x1 0 v1).bind fun s2 =>
    if (findL (k:=.str) s2 m5000).isSome then
      some (.inr (((findL (k:=.str) s2 m5000).getD ([]:Str)),true))
    else
      some (.inl (IntKind.wrap .i64 (v1 - 1)))
  else
    none
def Z88 (N:Nat) (x1:Str) (x2:Int) (m5000:(List (Str×Str))):Option (Str×Bool) :=
  (loopN (Z88_l1 N x1 m5000) N x2).bind fun (v3,v4) =>
  some (v3,v4)
def Z67 (N:Nat) (x0:(List ApiZone)) (x1:Str):Option (Str×Bool) :=
  (Z86 N x0).bind fun (r1,r2) =>
  (if (r1 != 0) then
    some true
  else
    (Z87 N x1).bind fun r4 =>
    some (!r4):Option (Bool)).bind fun v5 =>
  if v5 then
    none
  else
    (Z88 N x1 (List.length x1:Int) r2).bind fun (r6,r7) =>
    some (r6,r7)
def Z51 (N:Nat) (m5000_0:ApiBook) (m5000_1:ApiState) (m5000_2:ApiUsage) (m5000_3:ApiSpell) (m5000_4:ApiAccount) (m5000_5_0:Str) (m5000_5_1:Int) (m5000_5_2:Bool) (m5000_6:Int) (m5000_7_0:ApiUsage) (m5000_7_1:Int) (m5000_7_2:Str) (m5000_7_3:Int) (m5000_7_4:Str) (m5000_7_7:Int) (m5000_7_8:Int) (m5000_7_9:Int) (m5000_7_11:Int) (m5000_7_12:Int) (m5001:(List ApiZone)) (m5002:(List ApiBand)) (m5003:(List ApiRate)) (m5004:(List ApiDiscount)) (m5005:(List ApiTake)) (m5006:(List ApiSegment)) (m5007:(List ApiGiven)):Option (Int×ApiBook×ApiState×ApiUsage×ApiSpell×ApiAccount×ApiTariff×Int×ApiUsage×Int×Str×Int×Str×Int×Int×Int×Int×Int×(List ApiTake)×(List ApiSegment)×(List ApiGiven)) :=
  (Z66 N m5000_0.Tariffs m5000_3.Plan m5000_2.Start).bind fun (r1,r2) =>
  if (!r2) then
    none
  else
    (Z67 N r1.Zones m5000_2.B).bind fun (r5,r6) =>
    some (0,m5000_0,m5000_1,m5000_2,m5000_3,m5000_4,r1,m5000_6,m5000_7_0,m5000_7_1,r1.Name,r1.From,r5,m5000_7_7,m5000_7_8,m5000_7_9,m5000_7_11,m5000_7_12,m5005,m5006,m5007)
def Z50 (N:Nat) (m5001_0:ApiBook) (m5001_1:ApiState) (m5001_2:ApiUsage) (m5001_3:ApiSpell) (m5001_4:ApiAccount) (m5001_5_0:Str) (m5001_5_1:Int) (m5001_5_2:Bool) (m5001_6:Int) (m5001_7_0:ApiUsage) (m5001_7_1:Int) (m5001_7_2:Str) (m5001_7_3:Int) (m5001_7_4:Str) (m5001_7_7:Int) (m5001_7_8:Int) (m5001_7_9:Int) (m5001_7_11:Int) (m5001_7_12:Int) (m5002:(List ApiZone)) (m5003:(List ApiBand)) (m5004:(List ApiRate)) (m5005:(List ApiDiscount)) (m5006:(List ApiTake)) (m5007:(List ApiSegment)) (m5008:(List ApiGiven)):Option (Int×ApiBook×ApiState×ApiUsage×ApiSpell×ApiAccount×ApiTariff×Int×ApiUsage×Int×Str×Int×Str×Int×Int×Int×Int×Int×(List ApiTake)×(List ApiSegment)×(List ApiGiven)) :=
  (Z51 N m5001_0 m5001_1 m5001_2 m5001_3 m5001_4 m5001_5_0 m5001_5_1 m5001_5_2 m5001_6 m5001_7_0 m5001_7_1 m5001_7_2 m5001_7_3 m5001_7_4 m5001_7_7 m5001_7_8 m5001_7_9 m5001_7_11 m5001_7_12 m5002 m5003 m5004 m5005 m5006 m5007 m5008).bind fun (r1,r2,r3,r4,r5,r6,r7,r8,r9,r10,r11,r12,r13,r14,r15,r16,r17,r18,r19,r20,r21) =>
  some (r1,r2,r3,r4,r5,r6,r7,r8,r9,r10,r11,r12,r13,r14,r15,r16,r17,r18,r19,r20,r21)
def Z47_k2 (N:Nat) (m5001_0:ApiBook) (m5001_1:ApiState) (m5001_2:ApiUsage) (m5001_3:ApiSpell) (m5001_4:ApiAccount) (m5001_5_0:Str) (m5001_5_1:Int) (m5001_5_2:Bool) (m5001_6:Int) (m5001_7_0:ApiUsage) (m5001_7_1:Int) (m5001_7_2:Str) (m5001_7_3:Int) (m5001_7_4:Str) (m5001_7_7:Int) (m5001_7_8:Int) (m5001_7_9:Int) (m5001_7_11:Int) (m5001_7_12:Int) (m5002:(List ApiZone)) (m5003:(List ApiBand)) (m5004:(List ApiRate)) (m5005:(List ApiDiscount)) (m5006:(List ApiTake)) (m5007:(List ApiSegment)) (m5008:(List ApiGiven)) (m5009:Int):Option (ApiBook×ApiState×ApiUsage×ApiSpell×ApiAccount×Str×Int×Bool×(List ApiZone)×(List ApiBand)×(List ApiRate)×(List ApiDiscount)×Int×ApiUsage×Int×Str×Int×Str×Int×Int×Int×Int×Int×Int×(List ApiTake)×(List ApiSegment)×(List ApiGiven)) :=
  if (m5009==0) then
    (Z50 N m5001_0 m5001_1 m5001_2 m5001_3 m5001_4 m5001_5_0 m5001_5_1 m5001_5_2 m5001_6 m5001_7_0 m5001_7_1 m5001_7_2 m5001_7_3 m5001_7_4 m5001_7_7 m5001_7_8 m5001_7_9 m5001_7_11 m5001_7_12 m5002 m5003 m5004 m5005 m5006 m5007 m5008).bind fun (r1,r2,r3,r4,r5,r6,r7,r8,r9,r10,r11,r12,r13,r14,r15,r16,r17,r18,r19,r20,r21) =>
    some (r2,r3,r4,r5,r6,r7.Name,r7.From,r7.Split,r7.Zones,r7.Bands,r7.Rates,r7.Discounts,r8,r9,r10,r11,r12,r13,r14,r15,r16,r17,r18,r1,r19,r20,r21)
  else
    some (m5001_0,m5001_1,m5001_2,m5001_3,m5001_4,m5001_5_0,m5001_5_1,m5001_5_2,m5002,m5003,m5004,m5005,m5001_6,m5001_7_0,m5001_7_1,m5001_7_2,m5001_7_3,m5001_7_4,m5001_7_7,m5001_7_8,m5001_7_9,m5001_7_11,m5001_7_12,m5009,m5006,m5007,m5008)
def Z142_l1 (N:Nat) (x0:(List ApiBucket)):(Int×(List ApiBucket))→Option ((Int×(List ApiBucket))⊕(((List ApiBucket)))):=fun (v2,v3) =>
  if (decide (v2<(List.length x0:Int))) then
    (idx x0 v2).bind fun x4 =>
    (app 16 ([]:(List Str)) x4.Zones).bind fun q5 =>
    (app 120 v3 ([(x4.Account,x4.Sub,x4.Product,x4.Index,x4.Kind,q5,x4.Valid,x4.Units,x4.Left,x4.Priority,x4.Shared)]:(List ApiBucket))).bind fun q6 =>
    some (.inl ((IntKind.wrap .i64 (v2+1)),q6))
  else
    some (.inr v3)
def Z142 (N:Nat) (x0:(List ApiBucket)):Option ((List ApiBucket)) :=
  (loopN (Z142_l1 N x0) N (0,([]:(List ApiBucket)))).bind fun v7 =>
  some v7
def Z89 (N:Nat) (x0:ApiState):Option ((List ApiBucket)×(List ApiWallet)×(List ApiCounter)) :=
  (Z142 N x0.Buckets).bind fun r1 =>
  (app 40 ([]:(List ApiWallet)) x0.Wallets).bind fun q2 =>
  (app 40 ([]:(List ApiCounter)) x0.Counters).bind fun q3 =>
  some (r1,q2,q3)
def Z90_l1 (N:Nat) (x0:(List ApiEvent)) (x1:Int) (x2:Int):(Unit)→Option ((Unit)⊕((Bool))):=fun _ =>
  if (decide (0<(List.length x0:Int))) then
    (idx x0 0).bind fun x3 =>
    if (((x3.Kind==1)&&(x3.Account==x1))&&(decide (x3.At≤x2))) then
      some (.inr (x3.Name==([112,114,101,112,97,105,100]:Str)))
    else
      none
  else
    none
def Z90 (N:Nat) (x0:(List ApiEvent)) (x1:Int) (x2:Int):Option (Bool) :=
  (loopN (Z90_l1 N x0 x1 x2) N ()).bind fun v4 =>
  some v4
def Z115_l1 (N:Nat) (x0:(List ApiWallet)):(Int×(List (Int×Int)))→Option ((Int×(List (Int×Int)))⊕(((List (Int×Int))))):=fun (v2,v3) =>
  if (decide (v2<(List.length x0:Int))) then
    (idx x0 v2).bind fun x4 =>
    if (!(findL (k:=(.int .i64)) x4.Account v3).isSome) then
      some (.inl ((IntKind.wrap .i64 (v2+1)),(putL (k:=(.int .i64)) x4.Account v2 v3)))
    else
      none
  else
    some (.inr v3)
def Z115 (N:Nat) (x0:(List ApiWallet)):Option ((List (Int×Int))) :=
  (loopN (Z115_l1 N x0) N (0,([]:List (Int×Int)))).bind fun v5 =>
  some v5
def Z91_l1 (N:Nat) (x0:(List ApiWallet)):(Unit)→Option ((Unit)⊕((Unit))):=fun _ =>
  (if (decide (0<(List.length x0:Int))) then
    none
  else
    some false:Option (Bool)).bind fun v3 =>
  if v3 then
    none
  else
    some (.inr ())
def Z91 (N:Nat) (x0:(List ApiWallet)) (x1:Int):Option (Int×(List ApiWallet)) :=
  (Z115 N x0).bind fun r1 =>
  if (findL (k:=(.int .i64)) x1 r1).isSome then
    (app 40 ([]:(List ApiWallet)) x0).bind fun q2 =>
    some (((findL (k:=(.int .i64)) x1 r1).getD 0),q2)
  else
    (loopN (Z91_l1 N x0) N ()).bind fun _ =>
    (slc x0 0 0).bind fun s4 =>
    (app 40 ([]:(List ApiWallet)) s4).bind fun q5 =>
    (app 40 q5 ([(x1,0,0,0,(-1))]:(List ApiWallet))).bind fun q6 =>
    (slc x0 0 (List.length x0:Int)).bind fun s7 =>
    (app 40 q6 s7).bind fun q8 =>
    some (0,q8)
def Z145 (N:Nat) (x0:Int) (x1:Int) (x2:Int):Option (Bool) :=
  some ((decide (x0≥x1))&&(decide (x0≤x2)))
def Z146 (N:Nat) (x0:Int):Option (Bool) :=
  some ((decide (x0≥(-1125899906842624)))&&(decide (x0≤1125899906842624)))
def Z143 (N:Nat) (x0:ApiWallet):Option (Int) :=
  (Z145 N x0.Account 1 9999).bind fun r1 =>
  (if (!r1) then
    some true
  else
    (Z146 N x0.Balance).bind fun r3 =>
    some (!r3):Option (Bool)).bind fun v4 =>
  (if v4 then
    some true
  else
    (Z145 N x0.Floor (-1125899906842624) 0).bind fun r6 =>
    some (!r6):Option (Bool)).bind fun v7 =>
  if v7 then
    none
  else
    (Z145 N x0.Held 0 1125899906842624).bind fun r8 =>
    (if (!r8) then
      some true
    else
      (Z145 N x0.Until (-1) 12622780799).bind fun r10 =>
      some (!r10):Option (Bool)).bind fun v11 =>
    if v11 then
      none
    else
      if (decide ((IntKind.wrap .i64 (x0.Balance - x0.Held))<x0.Floor)) then
        none
      else
        some 0
def Z93 (N:Nat) (x0:ApiWallet) (x1:Int):Option (ApiWallet×Int) :=
  (Z143 N x0).bind fun r1 =>
  if (r1 != 0) then
    none
  else
    (Z145 N x1 0 1125899906842624).bind fun r2 =>
    (if (!r2) then
      some true
    else
      (Z146 N (IntKind.wrap .i64 (x0.Balance+x1))).bind fun r4 =>
      some (!r4):Option (Bool)).bind fun v5 =>
    if v5 then
      none
    else
      some ((x0.Account,(IntKind.wrap .i64 (x0.Balance+x1)),x0.Floor,x0.Held,x0.Until),0)
def Z92 (N:Nat) (x0:ApiWallet) (x1:Int) (m5000:ApiWallet):Option (ApiWallet) :=
  if (x1==0) then
    some x0
  else
    none
def Z68_l1 (N:Nat) (x0:(List ApiEvent)) (x2:Int) (r8:(List ApiWallet)) (r7:Int) (x3:Int):(Int×ApiWallet)→Option ((Int×ApiWallet)⊕((ApiWallet))):=fun (v11,v12) =>
  if (decide (v11<(List.length x0:Int))) then
    ((idx x0 v11).bind fun x17 =>
    (if (x17.Account != x2) then
      some true
    else
      (idx r8 r7).bind fun _ =>
      (idx r8 r7).bind fun x19 =>
      some (decide (x17.At≤x19.Until)):Option (Bool)).bind fun v20 =>
    if (v20||(decide (x17.At>x3))) then
      some v12
    else
      if (x17.Kind==14) then
        (Z93 N v12 x17.Value).bind fun (r21,r22) =>
        (Z92 N r21 r22 v12).bind fun r23 =>
        some r23
      else
        if (x17.Kind==15) then
          none
        else
          some v12:Option ((ApiWallet))).bind fun v24 =>
    some (.inl ((IntKind.wrap .i64 (v11+1)),v24))
  else
    some (.inr v12)
def Z68 (N:Nat) (x0:(List ApiEvent)) (x1:ApiState) (x2:Int) (x3:Int):Option (ApiState) :=
  (Z89 N x1).bind fun (r1,r2,r3) =>
  (if ((decide (x3<0))||(decide (x3≥12622780800))) then
    some true
  else
    (Z90 N x0 x2 x3).bind fun r5 =>
    some (!r5):Option (Bool)).bind fun v6 =>
  if v6 then
    none
  else
    (Z91 N r2 x2).bind fun (r7,r8) =>
    (idx r8 r7).bind fun _ =>
    (idx r8 r7).bind fun x9 =>
    (loopN (Z68_l1 N x0 x2 r8 r7 x3) N (0,x9)).bind fun v25 =>
    (idx r8 r7).bind fun _ =>
    (idx r8 r7).bind fun y26 =>
    some (r1,(List.set r8 (Int.toNat r7) (v25.Account,v25.Balance,v25.Floor,v25.Held,(if x3>v25.Until then x3 else v25.Until))),r3)
def Z95 (N:Nat) (x0:ApiBucket):Option (ApiBucket) :=
  (app 16 ([]:(List Str)) x0.Zones).bind fun q1 =>
  some (x0.Account,x0.Sub,x0.Product,x0.Index,x0.Kind,q1,x0.Valid,x0.Units,x0.Left,x0.Priority,x0.Shared)
def Z95_k2 (N:Nat) (x0:ApiBucket):Option (Int×Int×Str×Int×Int×ApiPeriod×Int×Int×Int×Bool×(List Str)) :=
  (app 16 ([]:(List Str)) x0.Zones).bind fun q1 =>
  some (x0.Account,x0.Sub,x0.Product,x0.Index,x0.Kind,x0.Valid,x0.Units,x0.Left,x0.Priority,x0.Shared,q1)
def Z96 (N:Nat) (x0:ApiBucket):Option (BundleIdentity) :=
  some (x0.Sub,x0.Product,x0.Index,x0.Valid.From)
def Z97_l1 (N:Nat) (x0:(List ApiEvent)) (x1:Int):(Unit)→Option ((Unit)⊕((Int))):=fun _ =>
  if (decide (0<(List.length x0:Int))) then
    (idx x0 0).bind fun x2 =>
    if ((x2.Kind==1)&&(x2.Account==x1)) then
      some (.inr x2.Value)
    else
      none
  else
    none
def Z97 (N:Nat) (x0:(List ApiEvent)) (x1:Int):Option (Int) :=
  (loopN (Z97_l1 N x0 x1) N ()).bind fun v3 =>
  some v3
def Z185_l1 (N:Nat) (x0:ApiSpell) (m5000:Str):(Unit)→Option ((Unit)⊕((Bool))):=fun _ =>
  if (decide (0<(List.length x0.Products:Int))) then
    (idx x0.Products 0).bind fun x1 =>
    if (x1==m5000) then
      some (.inr true)
    else
      none
  else
    none
def Z185 (N:Nat) (x0:ApiSpell) (m5000:Str):Option (Bool) :=
  (loopN (Z185_l1 N x0 m5000) N ()).bind fun v2 =>
  some v2
def Z209_l1 (N:Nat) (x0:(List ApiPeriod)):(Int×(List ApiPeriod))→Option ((Int×(List ApiPeriod))⊕(((List ApiPeriod)))):=fun (v2,v3) =>
  if (decide (v2<(List.length x0:Int))) then
    (idx x0 v2).bind fun x4 =>
    if (decide ((List.length v3:Int)>0)) then
      none
    else
      (app 16 v3 ([x4]:(List ApiPeriod))).bind fun q5 =>
      some (.inl ((IntKind.wrap .i64 (v2+1)),q5))
  else
    some (.inr v3)
def Z209 (N:Nat) (x0:(List ApiPeriod)):Option ((List ApiPeriod)) :=
  (loopN (Z209_l1 N x0) N (0,([]:(List ApiPeriod)))).bind fun v6 =>
  some v6
def Z184_l1 (N:Nat) (r1:(List ApiSpell)) (m5000:Str):(Int×(List ApiPeriod))→Option ((Int×(List ApiPeriod))⊕(((List ApiPeriod)))):=fun (v3,v4) =>
  if (decide (v3<(List.length r1:Int))) then
    (idx r1 v3).bind fun _ =>
    (idx r1 v3).bind fun x5 =>
    (Z185 N x5 m5000).bind fun r6 =>
    if r6 then
      (app 16 v4 ([x5.Period]:(List ApiPeriod))).bind fun q7 =>
      some (.inl ((IntKind.wrap .i64 (v3+1)),q7))
    else
      none
  else
    some (.inr v4)
def Z184 (N:Nat) (x0:(List ApiEvent)) (x1:Int) (m5000:Str):Option ((List ApiPeriod)) :=
  (Z82 N x0 x1).bind fun r1 =>
  (loopN (Z184_l1 N r1 m5000) N (0,([]:(List ApiPeriod)))).bind fun v8 =>
  (Z209 N v8).bind fun r9 =>
  some r9
def Z147 (N:Nat) (x0:(List ApiEvent)) (x1:Int) (x2:Str):Option ((List ApiPeriod)) :=
  (Z184 N x0 x1 x2).bind fun r1 =>
  some r1
def Z98_l3 (N:Nat) (v17:(List BundleHolding)):(Unit)→Option ((Unit)⊕((Unit))):=fun _ =>
  (if (decide (0<(List.length v17:Int))) then
    none
  else
    some false:Option ((Bool))).bind fun v31 =>
  if v31 then
    none
  else
    some (.inr ())
def Z98_l4 (N:Nat) (x0:(List ApiEvent)) (x1:Int):(Int×(List (Int×Bool))×(List (Str×Unit))×(List BundleHolding))→Option ((Int×(List (Int×Bool))×(List (Str×Unit))×(List BundleHolding))⊕(((List BundleHolding)))):=fun (v9,v10,v15,v17) =>
  if (decide (v9<(List.length x0:Int))) then
    ((idx x0 v9).bind fun x21 =>
    (if ((x21.Kind==3)&&(x21.Account==x1)) then
      some (putL (k:=(.int .i64)) x21.Sub true v10)
    else
      some v10:Option (((List (Int×Bool))))).bind fun v27 =>
    (if ((x21.Kind != 8)||(!((findL (k:=(.int .i64)) x21.Sub v27).getD false))) then
      some true
    else
      (chk (isNone (findL (k:=.str) x21.Name v15))).bind fun _ =>
      some false:Option (Bool)).bind fun v29 =>
    if v29 then
      some (v27,v15,v17)
    else
      (chk (isNone (findL (k:=.str) x21.Name v15))).bind fun _ =>
      (chk (eqK .str x21.Name x21.Name)).bind fun _ =>
      (Z147 N x0 x21.Sub x21.Name).bind fun r30 =>
      (loopN (Z98_l3 N v17) N ()).bind fun _ =>
      (slc v17 0 0).bind fun s32 =>
      (app 56 ([]:(List BundleHolding)) s32).bind fun q33 =>
      (app 56 q33 ([(x1,x21.Sub,x21.Name,r30)]:(List BundleHolding))).bind fun q34 =>
      (slc v17 0 (List.length v17:Int)).bind fun s35 =>
      (app 56 q34 s35).bind fun q36 =>
      some (v27,(putL (k:=.str) x21.Name () v15),q36):Option (((List (Int×Bool))×(List (Str×Unit))×(List BundleHolding)))).bind fun (v37,v38,v39) =>
    some (.inl ((IntKind.wrap .i64 (v9+1)),v37,v38,v39))
  else
    some (.inr v17)
def Z98 (N:Nat) (x0:(List ApiEvent)) (x1:Int):Option ((List BundleHolding)) :=
  (loopN (Z98_l4 N x0 x1) N (0,([]:List (Int×Bool)),([]:List (Str×Unit)),([]:(List BundleHolding)))).bind fun v40 =>
  some v40
def Z150 (N:Nat) (x0:ApiPeriod) (x1:ApiPeriod):Option (ApiPeriod×Bool) :=
  (Z129 N x0).bind fun r1 =>
  (if (!r1) then
    some true
  else
    (Z129 N x1).bind fun r3 =>
    some (!r3):Option (Bool)).bind fun v4 =>
  if (v4||(decide ((if x1.From>x0.From then x1.From else x0.From)≥(if x1.To<x0.To then x1.To else x0.To)))) then
    none
  else
    some (((if x1.From>x0.From then x1.From else x0.From),(if x1.To<x0.To then x1.To else x0.To)),true)
def Z221 (N:Nat) (x0:Int):Option (Int) :=
  (if (decide ((IntKind.wrap .i64 (x0 - 2000))>0)) then
    some (IntKind.wrap .i64 ((IntKind.wrap .i64 (365*(IntKind.wrap .i64 (x0 - 2000))))+(IntKind.wrap .i64 ((IntKind.wrap .i64 ((IntKind.wrap .i64 ((IntKind.wrap .i64 (Int.tdiv (IntKind.wrap .i64 ((IntKind.wrap .i64 (x0 - 2000)) - 1)) 4)) - (IntKind.wrap .i64 (Int.tdiv (IntKind.wrap .i64 ((IntKind.wrap .i64 (x0 - 2000)) - 1)) 100))))+(IntKind.wrap .i64 (Int.tdiv (IntKind.wrap .i64 ((IntKind.wrap .i64 (x0 - 2000)) - 1)) 400))))+1))))
  else
    some (IntKind.wrap .i64 (365*(IntKind.wrap .i64 (x0 - 2000)))):Option ((Int))).bind fun v1 =>
  some v1
def Z233 (N:Nat) (x0:Int):Option (Bool) :=
  some ((((Int.tmod x0 4)==0)&&((Int.tmod x0 100) != 0))||((Int.tmod x0 400)==0))
def Z222 (N:Nat) (x0:Int) (x1:Int):Option (Int) :=
  (if (x1==2) then
    (Z233 N x0).bind fun r2 =>
    some r2
  else
    some false:Option (Bool)).bind fun v3 =>
  if v3 then
    some 29
  else
    (idx ([31,28,31,30,31,30,31,31,30,31,30,31]:(List Int)) (IntKind.wrap .i64 (x1 - 1))).bind fun _ =>
    (idx ([31,28,31,30,31,30,31,31,30,31,30,31]:(List Int)) (IntKind.wrap .i64 (x1 - 1))).bind fun x4 =>
    some x4
def Z196_l1 (N:Nat) (x0:Int):(Unit)→Option ((Unit)⊕((Unit))):=fun _ =>
  (Z221 N (IntKind.wrap .i64 ((IntKind.wrap .i64 (2000+(IntKind.wrap .i64 (Int.tdiv x0 366))))+1))).bind fun r1 =>
  if (decide (r1≤x0)) then
    none
  else
    some (.inr ())
def Z196_l2 (N:Nat) (x0:Int) (r2:Int):(Unit)→Option ((Unit)⊕((Unit))):=fun _ =>
  (Z222 N (IntKind.wrap .i64 (2000+(IntKind.wrap .i64 (Int.tdiv x0 366)))) 1).bind fun r3 =>
  if (decide ((IntKind.wrap .i64 (x0 - r2))≥r3)) then
    none
  else
    some (.inr ())
def Z196 (N:Nat) (x0:Int):Option (ApiDate) :=
  if ((decide (x0<0))||(decide (x0≥146097))) then
    none
  else
    (loopN (Z196_l1 N x0) N ()).bind fun _ =>
    (Z221 N (IntKind.wrap .i64 (2000+(IntKind.wrap .i64 (Int.tdiv x0 366))))).bind fun r2 =>
    (loopN (Z196_l2 N x0 r2) N ()).bind fun _ =>
    some ((IntKind.wrap .i64 (2000+(IntKind.wrap .i64 (Int.tdiv x0 366)))),1,(IntKind.wrap .i64 ((IntKind.wrap .i64 (x0 - r2))+1)))
def Z167 (N:Nat) (x0:Int) (x1:Int):Option (Int) :=
  (Z196 N (IntKind.wrap .i64 (Int.tdiv x1 86400))).bind fun r1 =>
  if (decide (r1.Day<x0)) then
    none
  else
    some (IntKind.wrap .i64 ((IntKind.wrap .i64 ((IntKind.wrap .i64 (12*(IntKind.wrap .i64 (r1.Year - 2000))))+r1.Month)) - 1))
def Z232 (N:Nat) (x0:Int) (x1:Int):Option (Int) :=
  if ((((decide (x0<2000))||(decide (x0>2399)))||(decide (x1<1)))||(decide (x1>12))) then
    none
  else
    (Z222 N x0 x1).bind fun r1 =>
    some r1
def Z220_l1 (N:Nat) (x0:ApiDate):(Int×Int)→Option ((Int×Int)⊕((Int))):=fun (v4,v5) =>
  if (decide (v5<x0.Month)) then
    (Z222 N x0.Year v5).bind fun r6 =>
    some (.inl ((IntKind.wrap .i64 (v4+r6)),(IntKind.wrap .i64 (v5+1))))
  else
    some (.inr v4)
def Z220 (N:Nat) (x0:ApiDate):Option (Int×Int) :=
  (if (decide (x0.Day<1)) then
    some true
  else
    (Z232 N x0.Year x0.Month).bind fun r1 =>
    some (decide (x0.Day>r1)):Option ((Bool))).bind fun v2 =>
  if v2 then
    none
  else
    (Z221 N x0.Year).bind fun r3 =>
    (loopN (Z220_l1 N x0) N ((IntKind.wrap .i64 ((IntKind.wrap .i64 (r3+x0.Day)) - 1)),1)).bind fun v7 =>
    some (v7,0)
def Z195 (N:Nat) (x0:Int) (x1:Int):Option (Int) :=
  (Z220 N ((IntKind.wrap .i64 (2000+(IntKind.wrap .i64 (Int.tdiv x1 12)))),(IntKind.wrap .i64 ((Int.tmod x1 12)+1)),x0)).bind fun (r1,r2) =>
  if (r2 != 0) then
    none
  else
    some (IntKind.wrap .i64 (r1*86400))
def Z166 (N:Nat) (x0:Int) (x1:Int):Option (ApiPeriod) :=
  (Z195 N x0 (IntKind.wrap .i64 (x1+1))).bind fun r1 =>
  if (decide (x1≥0)) then
    (Z195 N x0 x1).bind fun r2 =>
    some (r2,r1)
  else
    none
def Z151_l1 (N:Nat) (x0:Int) (x1:ApiPeriod):(Int×(List ApiPeriod))→Option ((Int×(List ApiPeriod))⊕(((List ApiPeriod)))):=fun (v3,v4) =>
  (Z167 N x0 (IntKind.wrap .i64 (x1.To - 1))).bind fun r5 =>
  if (decide (v3≤r5)) then
    (Z166 N x0 v3).bind fun r6 =>
    (app 16 v4 ([r6]:(List ApiPeriod))).bind fun q7 =>
    some (.inl ((IntKind.wrap .i64 (v3+1)),q7))
  else
    some (.inr v4)
def Z151 (N:Nat) (x0:Int) (x1:ApiPeriod):Option ((List ApiPeriod)) :=
  if (((((decide (x0<1))||(decide (x0>28)))||(decide (x1.From<0)))||(decide (x1.From≥x1.To)))||(decide (x1.To>12622780800))) then
    none
  else
    (Z167 N x0 x1.From).bind fun r1 =>
    (loopN (Z151_l1 N x0 x1) N (r1,([]:(List ApiPeriod)))).bind fun v8 =>
    some v8
def Z151_k2_l1 (N:Nat) (x0:Int) (x1:ApiPeriod):(Int×(List ApiPeriod))→Option ((Int×(List ApiPeriod))⊕(((List ApiPeriod)))):=fun (v3,v4) =>
  (Z167 N x0 (IntKind.wrap .i64 (x1.To - 1))).bind fun r5 =>
  if (decide (v3≤r5)) then
    (Z166 N x0 v3).bind fun r6 =>
    (app 16 v4 ([r6]:(List ApiPeriod))).bind fun q7 =>
    some (.inl ((IntKind.wrap .i64 (v3+1)),q7))
  else
    some (.inr v4)
def Z151_k2 (N:Nat) (x0:Int) (x1:ApiPeriod):Option ((List ApiPeriod)) :=
  if (((((decide (x0<1))||(decide (x0>28)))||(decide (x1.From<0)))||(decide (x1.From≥x1.To)))||(decide (x1.To>12622780800))) then
    none
  else
    (Z167 N x0 x1.From).bind fun r1 =>
    (loopN (Z151_k2_l1 N x0 x1) N (r1,([]:(List ApiPeriod)))).bind fun v8 =>
    some v8
def Z149_k2 (N:Nat) (x0:ApiPeriod) (m5000:Int) (m5002:(List ApiPeriod)) (m5003:Int):Option ((List ApiPeriod)) :=
  (Z150 N x0 (0,(IntKind.wrap .i64 (m5000+1)))).bind fun (r1,r2) =>
  if r2 then
    (Z151 N m5003 r1).bind fun r3 =>
    (app 16 m5002 r3).bind fun q4 =>
    some q4
  else
    none
def Z212_l1 (N:Nat) (x0:(List ApiPeriod)) (x1:Int):(Int×(List IntervalChange))→Option ((Int×(List IntervalChange))⊕(((List IntervalChange)))):=fun (v4,v5) =>
  if (decide (v4<(List.length x0:Int))) then
    (idx x0 v4).bind fun x6 =>
    (Z129 N x6).bind fun r7 =>
    if r7 then
      (app 24 v5 ([(x6.From,x1,1),(x6.To,x1,(-1))]:(List IntervalChange))).bind fun q8 =>
      some (.inl ((IntKind.wrap .i64 (v4+1)),q8))
    else
      none
  else
    some (.inr v5)
def Z212 (N:Nat) (x0:(List ApiPeriod)) (x1:Int) (m5001:(List IntervalChange)):Option ((List IntervalChange)) :=
  (loopN (Z212_l1 N x0 x1) N (0,m5001)).bind fun v9 =>
  some v9
def Z212_k2_l1 (N:Nat) (x0:(List ApiPeriod)) (x1:Int):(Int×(List IntervalChange))→Option ((Int×(List IntervalChange))⊕(((List IntervalChange)))):=fun (v4,v5) =>
  if (decide (v4<(List.length x0:Int))) then
    (idx x0 v4).bind fun x6 =>
    (Z129 N x6).bind fun r7 =>
    if r7 then
      (app 24 v5 ([(x6.From,x1,1),(x6.To,x1,(-1))]:(List IntervalChange))).bind fun q8 =>
      some (.inl ((IntKind.wrap .i64 (v4+1)),q8))
    else
      none
  else
    some (.inr v5)
def Z212_k2 (N:Nat) (x0:(List ApiPeriod)) (x1:Int) (m5001:(List IntervalChange)):Option ((List IntervalChange)) :=
  (loopN (Z212_k2_l1 N x0 x1) N (0,m5001)).bind fun v9 =>
  some v9
def Z248 (N:Nat) (x0:Int):Option (Int) :=
  if (decide (x0≥4294967296)) then
    none
  else
    if (decide (x0≥65536)) then
      none
    else
      if (decide (x0≥256)) then
        none
      else
        (sidx ([0,1,2,2,3,3,3,3,4,4,4,4,4,4,4,4,5,5,5,5,5,5,5,5,5,5,5,5,5,5,5,5,6,6,6,6,6,6,6,6,6,6,6,6,6,6,6,6,6,6,6,6,6,6,6,6,6,6,6,6,6,6,6,6,7,7,7,7,7,7,7,7,7,7,7,7,7,7,7,7,7,7,7,7,7,7,7,7,7,7,7,7,7,7,7,7,7,7,7,7,7,7,7,7,7,7,7,7,7,7,7,7,7,7,7,7,7,7,7,7,7,7,7,7,7,7,7,7,8,8,8,8,8,8,8,8,8,8,8,8,8,8,8,8,8,8,8,8,8,8,8,8,8,8,8,8,8,8,8,8,8,8,8,8,8,8,8,8,8,8,8,8,8,8,8,8,8,8,8,8,8,8,8,8,8,8,8,8,8,8,8,8,8,8,8,8,8,8,8,8,8,8,8,8,8,8,8,8,8,8,8,8,8,8,8,8,8,8,8,8,8,8,8,8,8,8,8,8,8,8,8,8,8,8,8,8,8,8,8,8,8,8,8,8,8,8,8,8,8,8,8,8,8,8,8,8]:Str) (IntKind.wrap .u8 x0)).bind fun c1 =>
        some (IntKind.wrap .i64 (0+(IntKind.wrap .i64 c1)))
def Z229 (N:Nat) (x0:Int):Option (Int) :=
  (Z248 N x0).bind fun r1 =>
  some r1
def Z214 (N:Nat) (x0:IntervalChange) (x1:IntervalChange):Option (Int) :=
  some (IntKind.wrap .i64 (x0.at_ - x1.at_))
def Z239_l1 (N:Nat) (v1:Int) (x1:Int) (x0:(List IntervalChange)):(Unit)→Option ((Unit)⊕((Unit))):=fun _ =>
  if (decide (v1>x1)) then
    (idx x0 v1).bind fun x3 =>
    (idx x0 (IntKind.wrap .i64 (v1 - 1))).bind fun x4 =>
    (Z214 N x3 x4).bind fun r5 =>
    if (decide (r5<0)) then
      none
    else
      some (.inr ())
  else
    some (.inr ())
def Z239_l2 (N:Nat) (x2:Int) (x1:Int) (x0:(List IntervalChange)):(Int)→Option ((Int)⊕((Unit))):=fun v1 =>
  if (decide (v1<x2)) then
    (loopN (Z239_l1 N v1 x1 x0) N ()).bind fun _ =>
    some (.inl (IntKind.wrap .i64 (v1+1)))
  else
    some (.inr ())
def Z239 (N:Nat) (x0:(List IntervalChange)) (x1:Int) (x2:Int):Option (Unit) :=
  (loopN (Z239_l2 N x2 x1 x0) N (IntKind.wrap .i64 (x1+1))).bind fun _ =>
  some ()
def Z228_l1 (N:Nat) (x2:Int) (x1:Int) (x0:(List IntervalChange)):(Unit)→Option ((Unit)⊕((Unit))):=fun _ =>
  if (decide ((IntKind.wrap .i64 (x2 - x1))≤12)) then
    (Z239 N x0 x1 x2).bind fun _ =>
    some (.inr ())
  else
    none
def Z228 (N:Nat) (x0:(List IntervalChange)) (x1:Int) (x2:Int) (x3:Int):Option (Unit) :=
  (loopN (Z228_l1 N x2 x1 x0) N ()).bind fun _ =>
  some ()
def Z213 (N:Nat) (x0:(List IntervalChange)):Option (Unit) :=
  (Z229 N (IntKind.wrap .u64 (List.length x0:Int))).bind fun r1 =>
  (Z228 N x0 0 (List.length x0:Int) r1).bind fun _ =>
  some ()
def Z187 (N:Nat) (x0:Bool) (x1:Bool):Option (Bool) :=
  some x0
def Z186_l1 (N:Nat) (r2:(List IntervalChange)):(Bool×Int×(List ApiPeriod)×(List Int))→Option ((Bool×Int×(List ApiPeriod)×(List Int))⊕(((List ApiPeriod)))):=fun (v8,v9,v10,v11) =>
  if (decide (v9<(List.length r2:Int))) then
    (idx r2 v9).bind fun x13 =>
    (idx v11 x13.list).bind fun _ =>
    (idx v11 x13.list).bind fun x16 =>
    (idx v11 x13.list).bind fun _ =>
    (idx v11 x13.list).bind fun x17 =>
    (if (decide ((IntKind.wrap .i64 (v9+1))<(List.length r2:Int))) then
      (idx r2 (IntKind.wrap .i64 (v9+1))).bind fun x20 =>
      some (x20.at_==x13.at_)
    else
      some false:Option (Bool)).bind fun v21 =>
    if v21 then
      none
    else
      (idx (List.set v11 (Int.toNat x13.list) (IntKind.wrap .i64 (x16+x13.by_))) 0).bind fun _ =>
      (idx (List.set v11 (Int.toNat x13.list) (IntKind.wrap .i64 (x16+x13.by_))) 0).bind fun x22 =>
      (idx (List.set v11 (Int.toNat x13.list) (IntKind.wrap .i64 (x16+x13.by_))) 1).bind fun _ =>
      (idx (List.set v11 (Int.toNat x13.list) (IntKind.wrap .i64 (x16+x13.by_))) 1).bind fun x23 =>
      (Z187 N (decide (x22>0)) (decide (x23>0))).bind fun r24 =>
      (if (r24&&(!v8)) then
        (app 16 v10 ([(x13.at_,0)]:(List ApiPeriod))).bind fun q26 =>
        some q26
      else
        if ((!r24)&&v8) then
          (idx v10 (IntKind.wrap .i64 ((List.length v10:Int) - 1))).bind fun _ =>
          (idx v10 (IntKind.wrap .i64 ((List.length v10:Int) - 1))).bind fun y27 =>
          some (List.set v10 (Int.toNat (IntKind.wrap .i64 ((List.length v10:Int) - 1))) (y27.From,x13.at_))
        else
          none:Option (((List ApiPeriod)))).bind fun v28 =>
      some (.inl (r24,(IntKind.wrap .i64 (v9+1)),v28,(List.set v11 (Int.toNat x13.list) (IntKind.wrap .i64 (x16+x13.by_)))))
  else
    some (.inr v10)
def Z186 (N:Nat) (x0:(List ApiPeriod)) (x1:(List ApiPeriod)):Option ((List ApiPeriod)) :=
  (Z212 N x0 0 ([]:(List IntervalChange))).bind fun r1 =>
  (Z212_k2 N x1 1 r1).bind fun r2 =>
  (Z213 N r2).bind fun _ =>
  (loopN (Z186_l1 N r2) N (false,0,([]:(List ApiPeriod)),(List.replicate 2 0))).bind fun v29 =>
  some v29
def Z152 (N:Nat) (x0:(List ApiPeriod)):Option ((List ApiPeriod)) :=
  (Z186 N x0 ([]:(List ApiPeriod))).bind fun r1 =>
  some r1
def Z99_l2 (N:Nat) (x22:BundleHolding):(Int×Int×Int×(List ApiPeriod))→Option ((Int×Int×Int×(List ApiPeriod))⊕((Int×Int×(List ApiPeriod)))):=fun (v24,v25,v26,v27) =>
  if (decide (v24<(List.length x22.active:Int))) then
    (idx x22.active v24).bind fun x28 =>
    (Z149_k2 N x28 v26 v27 v25).bind fun r29 =>
    some (.inl ((IntKind.wrap .i64 (v24+1)),v25,v26,r29))
  else
    some (.inr (v25,v26,v27))
def Z99_l3 (N:Nat) (x0:(List BundleHolding)):(Int×Int×Int×(List ApiPeriod))→Option ((Int×Int×Int×(List ApiPeriod))⊕((Int×(List ApiPeriod)))):=fun (v7,v16,v17,v21) =>
  if (decide (v7<(List.length x0:Int))) then
    (idx x0 v7).bind fun x22 =>
    (loopN (Z99_l2 N x22) N (0,v16,v17,v21)).bind fun (v30,v31,v32) =>
    some (.inl ((IntKind.wrap .i64 (v7+1)),v30,v31,v32))
  else
    some (.inr (v16,v21))
def Z99_l4 (N:Nat) (r35:(List ApiPeriod)) (v33:Int):(Int×(List ApiPeriod))→Option ((Int×(List ApiPeriod))⊕(((List ApiPeriod)))):=fun (v37,v38) =>
  if (decide (v37<(List.length r35:Int))) then
    (idx r35 v37).bind fun _ =>
    (idx r35 v37).bind fun x39 =>
    (Z151_k2 N v33 x39).bind fun r40 =>
    (app 16 v38 r40).bind fun q41 =>
    some (.inl ((IntKind.wrap .i64 (v37+1)),q41))
  else
    some (.inr v38)
def Z99 (N:Nat) (x0:(List BundleHolding)) (x1:Int) (x2:Int):Option ((List ApiPeriod)) :=
  (loopN (Z99_l3 N x0) N (0,x1,x2,([]:(List ApiPeriod)))).bind fun (v33,v34) =>
  (Z152 N v34).bind fun r35 =>
  (loopN (Z99_l4 N r35 v33) N (0,([]:(List ApiPeriod)))).bind fun v42 =>
  some v42
def Z189 (N:Nat) (x0:ApiProduct) (m5000:Str) (m5001:Int):Option (Bool) :=
  some ((x0.Name==m5000)&&(decide (x0.From≤m5001)))
def Z188_l1 (N:Nat) (x0:(List ApiProduct)) (m5000:Str) (m5001:Int):(Int×(List ApiProduct))→Option ((Int×(List ApiProduct))⊕(((List ApiProduct)))):=fun (v2,v3) =>
  if (decide (v2<(List.length x0:Int))) then
    (idx x0 v2).bind fun x4 =>
    (Z189 N x4 m5000 m5001).bind fun r5 =>
    if r5 then
      (app 80 v3 ([x4]:(List ApiProduct))).bind fun q6 =>
      some (.inl ((IntKind.wrap .i64 (v2+1)),q6))
    else
      none
  else
    some (.inr v3)
def Z188 (N:Nat) (x0:(List ApiProduct)) (m5000:Str) (m5001:Int):Option ((List ApiProduct)) :=
  (loopN (Z188_l1 N x0 m5000 m5001) N (0,([]:(List ApiProduct)))).bind fun v7 =>
  some v7
def Z190_l1 (N:Nat) (x0:ApiProduct):(Int×(List ApiBundle))→Option ((Int×(List ApiBundle))⊕(((List ApiBundle)))):=fun (v2,v3) =>
  if (decide (v2<(List.length x0.Bundles:Int))) then
    (idx x0.Bundles v2).bind fun x4 =>
    (app 16 ([]:(List Str)) x4.Zones).bind fun q5 =>
    (app 64 v3 ([(x4.Kind,q5,x4.Units,x4.Rollover,x4.Priority,x4.Shared)]:(List ApiBundle))).bind fun q6 =>
    some (.inl ((IntKind.wrap .i64 (v2+1)),q6))
  else
    some (.inr v3)
def Z190 (N:Nat) (x0:ApiProduct):Option (Str×Int×Int×Str×Bool×(List ApiBundle)) :=
  (loopN (Z190_l1 N x0) N (0,([]:(List ApiBundle)))).bind fun v7 =>
  some (x0.Name,x0.From,x0.Fee,x0.Category,x0.Prorate,v7)
def Z153 (N:Nat) (x0:(List ApiProduct)) (x1:Str) (x2:Int):Option (Str×Int×Int×Str×Bool×Bool×(List ApiBundle)) :=
  (Z188 N x0 x1 x2).bind fun r1 =>
  if ((List.length r1:Int)==0) then
    none
  else
    (idx r1 (IntKind.wrap .i64 ((List.length r1:Int) - 1))).bind fun _ =>
    (idx r1 (IntKind.wrap .i64 ((List.length r1:Int) - 1))).bind fun x3 =>
    (Z190 N x3).bind fun (r4,r5,r6,r7,r8,r9) =>
    some (r4,r5,r6,r7,r8,true,r9)
def Z100_l1 (N:Nat) (r12:(List ApiBundle)) (x0:BundleHolding) (r4:ApiPeriod):(Int×(List BundleGranted))→Option ((Int×(List BundleGranted))⊕(((List BundleGranted)))):=fun (v14,v15) =>
  if (decide (v14<(List.length r12:Int))) then
    (idx r12 v14).bind fun _ =>
    (idx r12 v14).bind fun x16 =>
    (app 128 v15 ([((x0.account,x0.sub,x0.product,v14,x16.Kind,x16.Zones,r4,x16.Units,x16.Units,x16.Priority,x16.Shared),x16.Rollover)]:(List BundleGranted))).bind fun q17 =>
    some (.inl ((IntKind.wrap .i64 (v14+1)),q17))
  else
    some (.inr v15)
def Z100_l2 (N:Nat) (x0:BundleHolding) (x2:ApiPeriod) (x1:(List ApiProduct)):(Unit)→Option ((Unit)⊕(((List BundleGranted)))):=fun _ =>
  if (decide (0<(List.length x0.active:Int))) then
    (idx x0.active 0).bind fun x3 =>
    (Z150 N x3 x2).bind fun (r4,r5) =>
    if (!r5) then
      none
    else
      (Z153 N x1 x0.product r4.From).bind fun (r6,r7,r8,r9,r10,r11,r12) =>
      (loopN (Z100_l1 N r12 x0 r4) N (0,([]:(List BundleGranted)))).bind fun v18 =>
      some (.inr v18)
  else
    none
def Z100 (N:Nat) (x0:BundleHolding) (x1:(List ApiProduct)) (x2:ApiPeriod):Option ((List BundleGranted)) :=
  (loopN (Z100_l2 N x0 x2 x1) N ()).bind fun v19 =>
  some v19
def Z101_k2_l1 (N:Nat) (m5000_0:(List ApiBucket)):(Unit)→Option ((Unit)⊕((Unit))):=fun _ =>
  if (decide (0<(List.length m5000_0:Int))) then
    none
  else
    some (.inr ())
def Z101_k2_l2 (N:Nat) (m5000_0:(List ApiBucket)):(Unit)→Option ((Unit)⊕((Unit))):=fun _ =>
  (if (decide (0<(List.length m5000_0:Int))) then
    none
  else
    some false:Option ((Bool))).bind fun v13 =>
  if v13 then
    none
  else
    some (.inr ())
def Z101_k2 (N:Nat) (x1:BundleGranted) (m5000_0:(List ApiBucket)) (m5001:(List (BundleIdentity×Bool))):Option ((List ApiBucket)×(List (BundleIdentity×Bool))) :=
  (Z96 N x1.bucket).bind fun r1 =>
  if ((findL (k:=tyBundleIdentity) r1 m5001).getD false) then
    some (m5000_0,m5001)
  else
    (Z95_k2 N x1.bucket).bind fun (r2,r3,r4,r5,r6,r7,r8,r9,r10,r11,r12) =>
    (loopN (Z101_k2_l1 N m5000_0) N ()).bind fun _ =>
    (loopN (Z101_k2_l2 N m5000_0) N ()).bind fun _ =>
    (slc m5000_0 0 0).bind fun s14 =>
    (app 120 ([]:(List ApiBucket)) s14).bind fun q15 =>
    (app 120 q15 ([(r2,r3,r4,r5,r6,r12,r7,r8,r9,r10,r11)]:(List ApiBucket))).bind fun q16 =>
    (slc m5000_0 0 (List.length m5000_0:Int)).bind fun s17 =>
    (app 120 q16 s17).bind fun q18 =>
    (Z96 N (r2,r3,r4,r5,r6,r12,r7,r8,r9,r10,r11)).bind fun r19 =>
    some (q18,(putL (k:=tyBundleIdentity) r19 true m5001))
def Z69_l1 (N:Nat) (x2:ApiState):(Int×(List ApiBucket)×(List (BundleIdentity×Bool)))→Option ((Int×(List ApiBucket)×(List (BundleIdentity×Bool)))⊕(((List ApiBucket)×(List (BundleIdentity×Bool))))):=fun (v7,v8,v9) =>
  if (decide (v7<(List.length x2.Buckets:Int))) then
    (idx x2.Buckets v7).bind fun x10 =>
    (Z95 N x10).bind fun r25 =>
    (app 120 v8 ([r25]:(List ApiBucket))).bind fun q26 =>
    (Z96 N x10).bind fun r27 =>
    some (.inl ((IntKind.wrap .i64 (v7+1)),q26,(putL (k:=tyBundleIdentity) r27 true v9)))
  else
    some (.inr (v8,v9))
def Z69_l5 (N:Nat) (r87:(List BundleGranted)) (x4:Int):(Int×(List ApiBucket)×(List (BundleIdentity×Bool)))→Option ((Int×(List ApiBucket)×(List (BundleIdentity×Bool)))⊕(((List ApiBucket)×(List (BundleIdentity×Bool))))):=fun (v89,v90,v91) =>
  if (decide (v89<(List.length r87:Int))) then
    (idx r87 v89).bind fun _ =>
    (idx r87 v89).bind fun x92 =>
    if (decide (x92.bucket.Valid.From≤x4)) then
      (Z101_k2 N x92 v90 v91).bind fun (r93,r94) =>
      some (.inl ((IntKind.wrap .i64 (v89+1)),r93,r94))
    else
      none
  else
    some (.inr (v90,v91))
def Z69_l6 (N:Nat) (r33:(List BundleHolding)) (x1:(List ApiProduct)) (x69:ApiPeriod) (x4:Int):(Int×(List ApiBucket)×(List (BundleIdentity×Bool)))→Option ((Int×(List ApiBucket)×(List (BundleIdentity×Bool)))⊕(((List ApiBucket)×(List (BundleIdentity×Bool))))):=fun (v76,v77,v85) =>
  if (decide (v76<(List.length r33:Int))) then
    (idx r33 v76).bind fun x86 =>
    (Z100 N x86 x1 x69).bind fun r87 =>
    (loopN (Z69_l5 N r87 x4) N (0,v77,v85)).bind fun (v95,v96) =>
    some (.inl ((IntKind.wrap .i64 (v76+1)),v95,v96))
  else
    some (.inr (v77,v85))
def Z69_l7 (N:Nat) (r34:(List ApiPeriod)) (r33:(List BundleHolding)) (x1:(List ApiProduct)) (x4:Int):(Int×(List ApiBucket)×(List (BundleIdentity×Bool)))→Option ((Int×(List ApiBucket)×(List (BundleIdentity×Bool)))⊕(((List ApiBucket)×(List (BundleIdentity×Bool))))):=fun (v49,v67,v68) =>
  if (decide (v49<(List.length r34:Int))) then
    (idx r34 v49).bind fun _ =>
    (idx r34 v49).bind fun x69 =>
    (loopN (Z69_l6 N r33 x1 x69 x4) N (0,v67,v68)).bind fun (v97,v98) =>
    some (.inl ((IntKind.wrap .i64 (v49+1)),v97,v98))
  else
    some (.inr (v67,v68))
def Z69 (N:Nat) (x0:(List ApiEvent)) (x1:(List ApiProduct)) (x2:ApiState) (x3:Int) (x4:Int):Option ((List ApiBucket)×(List ApiWallet)×(List ApiCounter)) :=
  (loopN (Z69_l1 N x2) N (0,([]:(List ApiBucket)),([]:List (BundleIdentity×Bool)))).bind fun (v28,v29) =>
  (app 40 ([]:(List ApiWallet)) x2.Wallets).bind fun q30 =>
  (app 40 ([]:(List ApiCounter)) x2.Counters).bind fun q31 =>
  (Z97 N x0 x3).bind fun r32 =>
  if (((decide (x4≥0))&&(decide (x4<12622780800)))&&(decide (r32>0))) then
    (Z98 N x0 x3).bind fun r33 =>
    (Z99 N r33 r32 x4).bind fun r34 =>
    (loopN (Z69_l7 N r34 r33 x1 x4) N (0,v28,v29)).bind fun (v99,v100) =>
    some (v99,q30,q31)
  else
    none
def Z191 (N:Nat) (x0:ApiBucket):Option (Int×Int×Str×Int×Int×ApiPeriod×Int×Int×Int×Bool×(List Str)) :=
  (app 16 ([]:(List Str)) x0.Zones).bind fun q1 =>
  some (x0.Account,x0.Sub,x0.Product,x0.Index,x0.Kind,x0.Valid,x0.Units,x0.Left,x0.Priority,x0.Shared,q1)
def Z157_l1 (N:Nat) (x0:(List ApiBucket)):(Int×(List ApiBucket))→Option ((Int×(List ApiBucket))⊕(((List ApiBucket)))):=fun (v2,v3) =>
  if (decide (v2<(List.length x0:Int))) then
    (idx x0 v2).bind fun x4 =>
    (Z191 N x4).bind fun (r14,r15,r16,r17,r18,r19,r20,r21,r22,r23,r24) =>
    (app 120 v3 ([(r14,r15,r16,r17,r18,r24,r19,r20,r21,r22,r23)]:(List ApiBucket))).bind fun q25 =>
    some (.inl ((IntKind.wrap .i64 (v2+1)),q25))
  else
    some (.inr v3)
def Z157 (N:Nat) (x0:(List ApiBucket)):Option ((List ApiBucket)) :=
  (loopN (Z157_l1 N x0) N (0,([]:(List ApiBucket)))).bind fun v26 =>
  some v26
def Z158_l1 (N:Nat) (x2:Int):(Int×(List Int))→Option ((Int×(List Int))⊕(((List Int)))):=fun (v2,v3) =>
  if (decide (v2<x2)) then
    (app 8 v3 ([v2]:(List Int))).bind fun q4 =>
    some (.inl ((IntKind.wrap .i64 (v2+1)),q4))
  else
    some (.inr v3)
def Z158 (N:Nat) (x0:(List ApiBucket)) (x1:Int) (x2:Int):Option ((List Int)) :=
  if (decide ((IntKind.wrap .i64 (x2 - x1))<2)) then
    (loopN (Z158_l1 N x2) N (x1,([]:(List Int)))).bind fun v5 =>
    some v5
  else
    none
def Z159_l1 (N:Nat) (x0:ApiBucket):(Unit)→Option ((Unit)⊕((Unit))):=fun _ =>
  if (decide (0<(List.length x0.Zones:Int))) then
    none
  else
    some (.inr ())
def Z159 (N:Nat) (x0:ApiBucket) (x1:Int) (x2:Int) (x3:Int) (x4:Str) (x5:Bool) (x6:Int):Option (Bool) :=
  (if ((decide (x0.Left≤0))||(x0.Kind != x3)) then
    some true
  else
    (Z83 N x0.Valid x6).bind fun r2 =>
    some (!r2):Option (Bool)).bind fun v3 =>
  if v3 then
    none
  else
    if ((x0.Sub != x2)&&(((!x0.Shared)||(x0.Account != x1))||(!x5))) then
      none
    else
      (loopN (Z159_l1 N x0) N ()).bind fun _ =>
      some ((List.length x0.Zones:Int)==0)
def Z160 (N:Nat) (x0:ApiBucket):Option (BucketIdentity) :=
  some (x0.Sub,x0.Product,x0.Index,x0.Valid.From)
def Z102_l1 (N:Nat) (r2:(List Int)) (x0:(List ApiBucket)) (x1:Int) (x2:Int) (x3:Int) (x4:Str) (x5:Bool) (x6:Int):(Int×Int×(List ApiBucket)×(List ApiTake))→Option ((Int×Int×(List ApiBucket)×(List ApiTake))⊕((Int×(List ApiBucket)×(List ApiTake)))):=fun (v8,v9,v10,v11) =>
  if (decide (v9<(List.length r2:Int))) then
    (idx r2 v9).bind fun _ =>
    (idx r2 v9).bind fun x14 =>
    if (v8==0) then
      none
    else
      (idx x0 x14).bind fun x17 =>
      (Z159 N x17 x1 x2 x3 x4 x5 x6).bind fun r18 =>
      if (!r18) then
        none
      else
        (idx v10 x14).bind fun _ =>
        (idx v10 x14).bind fun x19 =>
        (idx v10 x14).bind fun _ =>
        (idx v10 x14).bind fun x20 =>
        (idx v10 x14).bind fun _ =>
        (idx v10 x14).bind fun y21 =>
        (idx x0 x14).bind fun x22 =>
        (Z160 N x22).bind fun r23 =>
        (app 48 v11 ([(r23.sub,r23.product,r23.index,r23.from_,(if x19.Left<v8 then x19.Left else v8))]:(List ApiTake))).bind fun q24 =>
        some (.inl ((IntKind.wrap .i64 (v8 - (if x19.Left<v8 then x19.Left else v8))),(IntKind.wrap .i64 (v9+1)),(List.set v10 (Int.toNat x14) (y21.Account,y21.Sub,y21.Product,y21.Index,y21.Kind,y21.Zones,y21.Valid,y21.Units,(IntKind.wrap .i64 (x20.Left - (if x19.Left<v8 then x19.Left else v8))),y21.Priority,y21.Shared)),q24))
  else
    some (.inr (v8,v10,v11))
def Z102 (N:Nat) (x0:(List ApiBucket)) (x1:Int) (x2:Int) (x3:Int) (x4:Str) (x5:Bool) (x6:Int) (x7:Int):Option (Int×(List ApiBucket)×(List ApiTake)) :=
  (Z157 N x0).bind fun r1 =>
  (Z158 N x0 0 (List.length x0:Int)).bind fun r2 =>
  (loopN (Z102_l1 N r2 x0 x1 x2 x3 x4 x5 x6) N ((if 0>x7 then 0 else x7),0,r1,([]:(List ApiTake)))).bind fun (v25,v26,v27) =>
  some (v25,v26,v27)
def Z70 (N:Nat) (x0:ApiState) (x1:ApiUsage) (x2:Str) (x3:Bool):Option (ApiState×(List ApiTake)×Int) :=
  (Z89 N x0).bind fun (r1,r2,r3) =>
  (Z102 N x0.Buckets x1.Account x1.Sub x1.Kind x2 x3 x1.Start x1.Units).bind fun (r4,r5,r6) =>
  some ((r5,r2,r3),r6,r4)
def Z53 (N:Nat) (m5000_0:ApiBook) (m5000_1:ApiState) (m5000_2:ApiUsage) (m5000_3:ApiSpell) (m5000_4:ApiAccount) (m5000_5:ApiTariff) (m5000_6:Int) (m5000_7_0:ApiUsage) (m5000_7_1:Int) (m5000_7_2:Str) (m5000_7_3:Int) (m5000_7_4:Str) (m5000_7_7:Int) (m5000_7_8:Int) (m5000_7_9:Int) (m5000_7_11:Int) (m5000_7_12:Int) (m5001:(List ApiTake)) (m5002:(List ApiSegment)) (m5003:(List ApiGiven)):Option (ApiBook×ApiState×ApiUsage×ApiSpell×ApiAccount×ApiTariff×Int×ApiUsage×Int×Str×Int×Str×(List ApiTake)×Int×Int×Int×Int×Int×(List ApiSegment)×(List ApiGiven)) :=
  (Z68 N m5000_0.Events m5000_1 m5000_2.Account m5000_2.Start).bind fun r1 =>
  (Z69 N m5000_0.Events m5000_0.Products r1 m5000_2.Account m5000_2.Start).bind fun (r2,r3,r4) =>
  (Z70 N (r2,r3,r4) m5000_2 m5000_7_4 m5000_3.Family).bind fun (r11,r12,r13) =>
  some (m5000_0,r11,m5000_2,m5000_3,m5000_4,m5000_5,(IntKind.wrap .i64 (m5000_2.Units - r13)),m5000_7_0,m5000_7_1,m5000_7_2,m5000_7_3,m5000_7_4,r12,m5000_7_7,m5000_7_8,m5000_7_9,m5000_7_11,m5000_7_12,m5002,m5003)
def Z161 (N:Nat) (x0:ApiUsage) (x1:Int):Option (Bool) :=
  if (((((decide (x1<0))||(decide (x0.Units>1099511627776)))||(decide (x0.Units≤x1)))||(decide (x0.Start<0)))||(decide (x0.Start≥12622780800))) then
    some false
  else
    some ((x0.Kind != 1)||((decide (x0.Units≤604800))&&(decide ((IntKind.wrap .i64 (x0.Start+x0.Units))≤12622780800))))
def Z168_l1 (N:Nat) (x0:Str):(Int)→Option ((Int)⊕((Unit))):=fun v1 =>
  if (decide (v1<(List.length x0:Int))) then
    (sidx x0 v1).bind fun c2 =>
    if (((decide (c2<97))||(decide (c2>122)))&&((v1==0)||((c2 != 45)&&((decide (c2<48))||(decide (c2>57)))))) then
      none
    else
      some (.inl (IntKind.wrap .i64 (v1+1)))
  else
    some (.inr ())
def Z168 (N:Nat) (x0:Str):Option (Bool) :=
  (loopN (Z168_l1 N x0) N 0).bind fun _ =>
  some ((decide ((List.length x0:Int)≥1))&&(decide ((List.length x0:Int)≤24)))
def Z197_l1 (N:Nat) (x0:(List ApiBand)):(Unit)→Option ((Unit)⊕((Unit))):=fun _ =>
  if (decide (0<(List.length x0:Int))) then
    none
  else
    some (.inr ())
def Z197 (N:Nat) (x0:(List ApiBand)) (m5000:ApiBand):Option (Int) :=
  (loopN (Z197_l1 N x0) N ()).bind fun _ =>
  some (-1)
def Z169 (N:Nat) (x0:(List ApiBand)) (m5000:ApiBand):Option (Bool) :=
  (Z197 N x0 m5000).bind fun r1 =>
  some (decide (r1≥0))
def Z108_l1 (N:Nat) (x0:(List ApiBand)):(Int)→Option ((Int)⊕((Unit))):=fun v1 =>
  if (decide (v1<(List.length x0:Int))) then
    (idx x0 v1).bind fun x2 =>
    (Z168 N x2.Name).bind fun r3 =>
    if (!r3) then
      none
    else
      (slc x0 0 v1).bind fun s4 =>
      (Z169 N s4 x2).bind fun r5 =>
      if r5 then
        none
      else
        if (v1==(IntKind.wrap .i64 ((List.length x0:Int) - 1))) then
          if (decide ((List.length x2.Slots:Int)>0)) then
            none
          else
            some (.inl (IntKind.wrap .i64 (v1+1)))
        else
          none
  else
    some (.inr ())
def Z108 (N:Nat) (x0:(List ApiBand)):Option (Int) :=
  if ((List.length x0:Int)==0) then
    none
  else
    if (decide ((List.length x0:Int)>64)) then
      none
    else
      (loopN (Z108_l1 N x0) N 0).bind fun _ =>
      some 0
def Z199_l1 (N:Nat) (x0:(List Int)):(Unit)→Option ((Unit)⊕((Unit))):=fun _ =>
  if (decide (0<(List.length x0:Int))) then
    none
  else
    some (.inr ())
def Z199 (N:Nat) (x0:(List Int)) (x1:Int):Option (Int) :=
  (loopN (Z199_l1 N x0) N ()).bind fun _ =>
  some (-1)
def Z174 (N:Nat) (x0:(List Int)) (x1:Int):Option (Bool) :=
  (Z199 N x0 x1).bind fun r1 =>
  some (decide (r1≥0))
def Z114 (N:Nat) (x0:Int):Option (Int) :=
  if ((decide (x0<0))||(decide (x0≥146097))) then
    none
  else
    some (Int.tmod (IntKind.wrap .i64 (x0+5)) 7)
def Z110 (N:Nat) (x0:(List Int)) (x1:Int):Option (Int) :=
  (Z174 N x0 x1).bind fun r1 =>
  if r1 then
    none
  else
    (Z114 N x1).bind fun r2 =>
    (shlW .i64 1 r2).bind fun n3 =>
    some n3
def Z198_l1 (N:Nat) (x0:(List ApiSlot)):(Unit)→Option ((Unit)⊕((Unit))):=fun _ =>
  if (decide (0<(List.length x0:Int))) then
    none
  else
    some (.inr ())
def Z198 (N:Nat) (x0:(List ApiSlot)) (m5000:Int) (m5001:Int):Option (Int) :=
  (loopN (Z198_l1 N x0) N ()).bind fun _ =>
  some (-1)
def Z173 (N:Nat) (x0:(List ApiSlot)) (m5000:Int) (m5001:Int):Option (Bool) :=
  (Z198 N x0 m5000 m5001).bind fun r1 =>
  some (decide (r1≥0))
def Z109_l1 (N:Nat) (x0:(List ApiBand)) (x1:Int) (x2:Int):(Int)→Option ((Int)⊕((Unit))):=fun v1 =>
  if (decide (v1<(List.length x0:Int))) then
    (idx x0 v1).bind fun x3 =>
    (Z173 N x3.Slots x1 x2).bind fun r4 =>
    if r4 then
      none
    else
      some (.inl (IntKind.wrap .i64 (v1+1)))
  else
    some (.inr ())
def Z109 (N:Nat) (x0:(List ApiBand)) (x1:Int) (x2:Int):Option (Str) :=
  (loopN (Z109_l1 N x0 x1 x2) N 0).bind fun _ =>
  (idx x0 (IntKind.wrap .i64 ((List.length x0:Int) - 1))).bind fun x5 =>
  some x5.Name
def Z74 (N:Nat) (x0:(List ApiBand)) (x1:(List Int)) (x2:Int):Option (Str) :=
  (Z108 N x0).bind fun r1 =>
  if (((r1 != 0)||(decide (x2<0)))||(decide (x2≥12622780800))) then
    none
  else
    (Z110 N x1 (IntKind.wrap .i64 (Int.tdiv x2 86400))).bind fun r2 =>
    (Z109 N x0 r2 (IntKind.wrap .i64 (Int.tdiv (Int.tmod x2 86400) 60))).bind fun r3 =>
    some r3
def Z163 (N:Nat) (x0:ApiRate) (m5000:Int) (m5001:Str) (m5002:Str):Option (Bool) :=
  some (((x0.Kind==m5000)&&((x0.Zone==m5001)||(x0.Zone==([]:Str))))&&((x0.Band==m5002)||(x0.Band==([]:Str))))
def Z104_l1 (N:Nat) (x0:ApiTariff) (x1:Int) (x2:Str) (x3:Str):(Int×Str×Str×Int)→Option ((Int×Str×Str×Int)⊕((Bool×Int×Str×Str×Int×(List ApiStep)))):=fun (v1,v2,v3,v4) =>
  if (decide (0<(List.length x0.Rates:Int))) then
    (idx x0.Rates 0).bind fun x5 =>
    (Z163 N x5 x1 x2 x3).bind fun r6 =>
    if r6 then
      (app 24 ([]:(List ApiStep)) x5.Steps).bind fun q7 =>
      some (.inr (true,x5.Kind,x5.Zone,x5.Band,x5.Setup,q7))
    else
      none
  else
    none
def Z104 (N:Nat) (x0:ApiTariff) (x1:Int) (x2:Str) (x3:Str):Option (ApiRate×Bool) :=
  (loopN (Z104_l1 N x0 x1 x2 x3) N (0,([]:Str),([]:Str),0)).bind fun (v8,v9,v10,v11,v12,v13) =>
  some ((v9,v10,v11,v12,v13),v8)
def Z194_l1 (N:Nat) (x1:(List Int)) (x0:Int):(Int)→Option ((Int)⊕((Unit))):=fun v1 =>
  if (decide (v1<(List.length x1:Int))) then
    (idx x1 v1).bind fun x2 =>
    if ((decide (x2<0))||(decide (x2>x0))) then
      none
    else
      some (.inl (IntKind.wrap .i64 (v1+1)))
  else
    some (.inr ())
def Z194 (N:Nat) (x0:Int) (x1:(List Int)):Option (Bool) :=
  (loopN (Z194_l1 N x1 x0) N 0).bind fun _ =>
  some true
def Z164_l1 (N:Nat) (x0:(List ApiStep)):(Int×Int)→Option ((Int×Int)⊕((Unit))):=fun (v1,v2) =>
  if (decide (v2<(List.length x0:Int))) then
    (idx x0 v2).bind fun x3 =>
    (Z194 N 1099511627776 ([x3.Upto,x3.Quantum]:(List Int))).bind fun r4 =>
    (if ((!r4)||(x3.Quantum==0)) then
      some true
    else
      (Z194 N 1125899906842624 ([x3.Price]:(List Int))).bind fun r6 =>
      some (!r6):Option (Bool)).bind fun v7 =>
    if v7 then
      none
    else
      if ((x3.Upto==0) != (v2==(IntKind.wrap .i64 ((List.length x0:Int) - 1)))) then
        none
      else
        if ((x3.Upto != 0)&&(decide (x3.Upto≤v1))) then
          none
        else
          some (.inl (x3.Upto,(IntKind.wrap .i64 (v2+1))))
  else
    some (.inr ())
def Z164 (N:Nat) (x0:(List ApiStep)):Option (Int) :=
  if ((List.length x0:Int)==0) then
    none
  else
    if (decide ((List.length x0:Int)>64)) then
      none
    else
      (loopN (Z164_l1 N x0) N (0,0)).bind fun _ =>
      some 0
def Z165_l1 (N:Nat) (x0:(List ApiStep)) (x1:Int):(Int×Int×Int)→Option ((Int×Int×Int)⊕((Int))):=fun (v1,v2,v3) =>
  if (decide (v3<(List.length x0:Int))) then
    (idx x0 v3).bind fun x4 =>
    if (x4.Upto != 0) then
      none
    else
      if (decide (x1≤v2)) then
        some (.inr v1)
      else
        (quoW .i64 (IntKind.wrap .i64 ((IntKind.wrap .i64 ((IntKind.wrap .i64 (x1 - v2))+x4.Quantum)) - 1)) x4.Quantum).bind fun n5 =>
        (quoW .i64 (IntKind.wrap .i64 (1125899906842624 - v1)) n5).bind fun n6 =>
        if (decide (x4.Price>n6)) then
          none
        else
          some (.inl ((IntKind.wrap .i64 (v1+(IntKind.wrap .i64 (n5*x4.Price)))),x1,(IntKind.wrap .i64 (v3+1))))
  else
    some (.inr v1)
def Z165 (N:Nat) (x0:(List ApiStep)) (x1:Int):Option (Int×Bool) :=
  (loopN (Z165_l1 N x0 x1) N (0,0,0)).bind fun v7 =>
  some (v7,true)
def Z105 (N:Nat) (x0:(List ApiStep)) (x1:Int) (x2:Int):Option (Int×Int) :=
  (Z164 N x0).bind fun r1 =>
  if (r1 != 0) then
    none
  else
    if ((((decide (x1<0))||(decide (x2<0)))||(decide (x1>1099511627776)))||(decide (x2>(IntKind.wrap .i64 (1099511627776 - x1))))) then
      none
    else
      (Z165 N x0 (IntKind.wrap .i64 (x1+x2))).bind fun (r2,r3) =>
      if (!r3) then
        none
      else
        (Z165 N x0 x1).bind fun (r4,r5) =>
        some ((IntKind.wrap .i64 (r2 - r4)),0)
def Z103_k2 (N:Nat) (x0:ApiTariff) (x1:(List Int)) (x2:ApiUsage) (x3:Int):Option ((List ApiSegment)) :=
  (Z161 N x2 x3).bind fun r1 =>
  (if (!r1) then
    some true
  else
    (Z108 N x0.Bands).bind fun r3 =>
    some (r3 != 0):Option (Bool)).bind fun v4 =>
  if v4 then
    some ([]:(List ApiSegment))
  else
    if (x2.Kind==1) then
      if ((x2.Kind != 1)||(!x0.Split)) then
        (Z74 N x0.Bands x1 (IntKind.wrap .i64 (x2.Start+x3))).bind fun r5 =>
        some ([(r5,(IntKind.wrap .i64 (x2.Start+x3)),(IntKind.wrap .i64 (x2.Units - x3)),0)]:(List ApiSegment))
      else
        none
    else
      none
def Z71_l1 (N:Nat) (r3:(List ApiSegment)) (x0:ApiTariff) (x2:ApiUsage) (r1:Str):(Int×Int×Int×Int×(List ApiSegment))→Option ((Int×Int×Int×Int×(List ApiSegment))⊕((Int×Int×(List ApiSegment)))):=fun (v8,v9,v10,v11,v12) =>
  if (decide (v11<(List.length r3:Int))) then
    (idx v12 v11).bind fun _ =>
    (idx v12 v11).bind fun x13 =>
    (Z104 N x0 x2.Kind r1 x13.Band).bind fun (r14,r15) =>
    if (!r15) then
      none
    else
      if (v11==0) then
        (idx v12 v11).bind fun _ =>
        (idx v12 v11).bind fun x16 =>
        (Z105 N r14.Steps v10 x16.Units).bind fun (r17,r18) =>
        if (r18 != 0) then
          none
        else
          (idx v12 v11).bind fun _ =>
          (idx v12 v11).bind fun y19 =>
          (idx (List.set v12 (Int.toNat v11) (y19.Band,y19.Start,y19.Units,r17)) v11).bind fun _ =>
          (idx (List.set v12 (Int.toNat v11) (y19.Band,y19.Start,y19.Units,r17)) v11).bind fun x20 =>
          some (.inl (r14.Setup,(if 1125899906842625<(IntKind.wrap .i64 (v9+r17)) then 1125899906842625 else (IntKind.wrap .i64 (v9+r17))),(IntKind.wrap .i64 (v10+x20.Units)),(IntKind.wrap .i64 (v11+1)),(List.set v12 (Int.toNat v11) (y19.Band,y19.Start,y19.Units,r17))))
      else
        none
  else
    some (.inr (v8,v9,v12))
def Z71 (N:Nat) (x0:ApiTariff) (x1:(List Int)) (x2:ApiUsage) (x3:Int):Option ((List ApiSegment)×Int×Int) :=
  (Z67 N x0.Zones x2.B).bind fun (r1,r2) =>
  (Z103_k2 N x0 x1 x2 x3).bind fun r3 =>
  (loopN (Z71_l1 N r3 x0 x2 r1) N (0,0,0,0,r3)).bind fun (v21,v22,v23) =>
  if ((0==0)&&(((decide (v21<0))||(decide (v21>1125899906842624)))||(decide ((IntKind.wrap .i64 (v21+v22))>1125899906842624)))) then
    none
  else
    if (0 != 0) then
      none
    else
      some (v23,v21,0)
def Z54_l1 (N:Nat) (r1:(List ApiSegment)):(Int×Int)→Option ((Int×Int)⊕((Int))):=fun (v4,v5) =>
  if (decide (v5<(List.length r1:Int))) then
    (idx r1 v5).bind fun x6 =>
    if (decide (v4≤1125899906842624)) then
      some (.inl ((IntKind.wrap .i64 (v4+x6.Amount)),(IntKind.wrap .i64 (v5+1))))
    else
      none
  else
    some (.inr v4)
def Z54 (N:Nat) (m5000_0:ApiBook) (m5000_1:ApiState) (m5000_2:ApiUsage) (m5000_3:ApiSpell) (m5000_4:ApiAccount) (m5000_5:ApiTariff) (m5000_6:Int) (m5000_7_0:ApiUsage) (m5000_7_1:Int) (m5000_7_2:Str) (m5000_7_3:Int) (m5000_7_4:Str) (m5000_7_5:(List ApiTake)) (m5000_7_7:Int) (m5000_7_8:Int) (m5000_7_9:Int) (m5000_7_11:Int) (m5000_7_12:Int) (m5001:(List ApiSegment)) (m5002:(List ApiGiven)):Option (Int×ApiBook×ApiState×ApiUsage×ApiSpell×ApiAccount×ApiTariff×Int×ApiUsage×Int×Str×Int×Str×(List ApiTake)×(List ApiSegment)×Int×Int×Int×Int×Int×(List ApiGiven)) :=
  (Z71 N m5000_5 m5000_0.Holidays m5000_2 m5000_6).bind fun (r1,r2,r3) =>
  if (r3 != 0) then
    none
  else
    (loopN (Z54_l1 N r1) N (r2,0)).bind fun v7 =>
    if (decide (v7>1125899906842624)) then
      none
    else
      some (0,m5000_0,m5000_1,m5000_2,m5000_3,m5000_4,m5000_5,m5000_6,m5000_7_0,m5000_7_1,m5000_7_2,m5000_7_3,m5000_7_4,m5000_7_5,r1,r2,v7,m5000_7_9,m5000_7_11,m5000_7_12,m5002)
def Z52 (N:Nat) (m5001_0:ApiBook) (m5001_1:ApiState) (m5001_2:ApiUsage) (m5001_3:ApiSpell) (m5001_4:ApiAccount) (m5001_5:ApiTariff) (m5001_6:Int) (m5001_7_0:ApiUsage) (m5001_7_1:Int) (m5001_7_2:Str) (m5001_7_3:Int) (m5001_7_4:Str) (m5001_7_7:Int) (m5001_7_8:Int) (m5001_7_9:Int) (m5001_7_11:Int) (m5001_7_12:Int) (m5002:(List ApiTake)) (m5003:(List ApiSegment)) (m5004:(List ApiGiven)):Option (Int×ApiBook×ApiState×ApiUsage×ApiSpell×ApiAccount×ApiTariff×Int×ApiUsage×Int×Str×Int×Str×(List ApiTake)×(List ApiSegment)×Int×Int×Int×Int×Int×(List ApiGiven)) :=
  (Z53 N m5001_0 m5001_1 m5001_2 m5001_3 m5001_4 m5001_5 m5001_6 m5001_7_0 m5001_7_1 m5001_7_2 m5001_7_3 m5001_7_4 m5001_7_7 m5001_7_8 m5001_7_9 m5001_7_11 m5001_7_12 m5002 m5003 m5004).bind fun (r1,r2,r3,r4,r5,r6,r7,r8,r9,r10,r11,r12,r13,r14,r15,r16,r17,r18,r19,r20) =>
  (Z54 N r1 r2 r3 r4 r5 r6 r7 r8 r9 r10 r11 r12 r13 r14 r15 r16 r17 r18 r19 r20).bind fun (r21,r22,r23,r24,r25,r26,r27,r28,r29,r30,r31,r32,r33,r34,r35,r36,r37,r38,r39,r40,r41) =>
  some (r21,r22,r23,r24,r25,r26,r27,r28,r29,r30,r31,r32,r33,r34,r35,r36,r37,r38,r39,r40,r41)
def Z47_k3 (N:Nat) (m5001_0:ApiBook) (m5001_1:ApiState) (m5001_2:ApiUsage) (m5001_3:ApiSpell) (m5001_4:ApiAccount) (m5001_5:ApiTariff) (m5001_6:Int) (m5001_7_0:ApiUsage) (m5001_7_1:Int) (m5001_7_2:Str) (m5001_7_3:Int) (m5001_7_4:Str) (m5001_7_7:Int) (m5001_7_8:Int) (m5001_7_9:Int) (m5001_7_11:Int) (m5001_7_12:Int) (m5002:(List ApiTake)) (m5003:(List ApiSegment)) (m5004:(List ApiGiven)) (m5005:Int):Option (ApiBook×ApiState×ApiUsage×ApiSpell×ApiAccount×ApiTariff×Int×ApiUsage×Int×Str×Int×Str×(List ApiTake)×(List ApiSegment)×Int×Int×Int×Int×Int×Int×(List ApiGiven)) :=
  if (m5005==0) then
    (Z52 N m5001_0 m5001_1 m5001_2 m5001_3 m5001_4 m5001_5 m5001_6 m5001_7_0 m5001_7_1 m5001_7_2 m5001_7_3 m5001_7_4 m5001_7_7 m5001_7_8 m5001_7_9 m5001_7_11 m5001_7_12 m5002 m5003 m5004).bind fun (r1,r2,r3,r4,r5,r6,r7,r8,r9,r10,r11,r12,r13,r14,r15,r16,r17,r18,r19,r20,r21) =>
    some (r2,r3,r4,r5,r6,r7,r8,r9,r10,r11,r12,r13,r14,r15,r16,r17,r18,r19,r20,r1,r21)
  else
    some (m5001_0,m5001_1,m5001_2,m5001_3,m5001_4,m5001_5,m5001_6,m5001_7_0,m5001_7_1,m5001_7_2,m5001_7_3,m5001_7_4,m5002,m5003,m5001_7_7,m5001_7_8,m5001_7_9,m5001_7_11,m5001_7_12,m5005,m5004)
def Z107 (N:Nat) (x0:Int) (x1:Int):Option (ApiPeriod) :=
  if ((((decide (x0<1))||(decide (x0>28)))||(decide (x1<0)))||(decide (x1≥12622780800))) then
    none
  else
    (Z167 N x0 x1).bind fun r1 =>
    (Z166 N x0 r1).bind fun r2 =>
    some r2
def Z73 (N:Nat) (m5000_0:ApiBook) (m5000_1:ApiState) (m5000_2:ApiUsage) (m5000_3:ApiSpell) (m5000_4:ApiAccount) (m5000_5:ApiTariff) (m5000_6:Int) (m5000_7_0:ApiUsage) (m5000_7_1:Int) (m5000_7_2:Str) (m5000_7_3:Int) (m5000_7_4:Str) (m5000_7_5:(List ApiTake)) (m5000_7_6:(List ApiSegment)) (m5000_7_7:Int) (m5000_7_8:Int) (m5000_7_9:Int) (m5000_7_11:Int) (m5000_7_12:Int) (m5001:(List ApiGiven)):Option (Int) :=
  (Z107 N m5000_4.Anchor m5000_2.Start).bind fun r1 =>
  some r1.From
def Z106_l1 (N:Nat) (x0:ApiCounter) (x1:ApiCounter):(Int)→Option ((Int)⊕((Unit))):=fun v1 =>
  if (decide (v1<3)) then
    (idx ([([x0.Sub,x1.Sub]:(List Int)),([x0.Kind,x1.Kind]:(List Int)),([x0.From,x1.From]:(List Int))]:(List (List Int))) v1).bind fun x2 =>
    (idx x2 0).bind fun _ =>
    (idx x2 0).bind fun x3 =>
    (idx x2 1).bind fun _ =>
    (idx x2 1).bind fun x4 =>
    if (decide (x3<x4)) then
      none
    else
      (idx x2 0).bind fun _ =>
      (idx x2 0).bind fun x5 =>
      (idx x2 1).bind fun _ =>
      (idx x2 1).bind fun x6 =>
      if (decide (x5>x6)) then
        none
      else
        some (.inl (IntKind.wrap .i64 (v1+1)))
  else
    some (.inr ())
def Z106 (N:Nat) (x0:ApiCounter) (x1:ApiCounter):Option (Int) :=
  (loopN (Z106_l1 N x0 x1) N 0).bind fun _ =>
  some 0
def Z72_l1 (N:Nat) (x0:(List ApiCounter)) (x1:Int) (x2:Int) (x3:Int):(ApiCounter)→Option ((ApiCounter)⊕((ApiCounter)⊕(ApiCounter))):=fun v1 =>
  if (decide (0<(List.length x0:Int))) then
    (idx x0 0).bind fun x5 =>
    (Z106 N x5 (x1,x2,x3,0,0)).bind fun r6 =>
    if (r6==0) then
      some (.inr (.inr x5))
    else
      none
  else
    some (.inr (.inl v1))
def Z72 (N:Nat) (x0:(List ApiCounter)) (x1:Int) (x2:Int) (x3:Int):Option (ApiCounter) :=
  (loopN (Z72_l1 N x0 x1 x2 x3) N (0,0,0,0,0)).bind fun
    | .inl v7 =>
      some (x1,x2,x3,0,0)
    | .inr v8 =>
      some v8
def Z76 (N:Nat) (x0:ApiUsage) (x1:Str) (x2:Str) (x3:ApiCounter) (x4:Bool):Option (ApiEnv) :=
  if ((decide (x0.Start<0))||(decide (x0.Start≥12622780800))) then
    none
  else
    (idx ([86400,60]:(List Int)) 0).bind fun _ =>
    (idx ([86400,60]:(List Int)) 0).bind fun x5 =>
    (quoW .i64 x0.Start x5).bind fun n6 =>
    (Z114 N n6).bind fun r7 =>
    (idx ([86400,60]:(List Int)) 0).bind fun _ =>
    (idx ([86400,60]:(List Int)) 0).bind fun x8 =>
    (remW x0.Start x8).bind fun n9 =>
    (idx ([86400,60]:(List Int)) 1).bind fun _ =>
    (idx ([86400,60]:(List Int)) 1).bind fun x10 =>
    (quoW .i64 n9 x10).bind fun n11 =>
    some (x0.Kind,x0.Units,r7,n11,x3.Units,x3.Spent,x1,x2,x4)
def Z75_l1 (N:Nat) (x0:(List ApiDiscount)):(Unit)→Option ((Unit)⊕((Unit))):=fun _ =>
  if (decide (0<(List.length x0:Int))) then
    none
  else
    some (.inr ())
def Z75 (N:Nat) (x0:(List ApiDiscount)) (x1:ApiEnv) (x2:Int):Option ((List ApiGiven)×Int×Int) :=
  if ((decide (x2<0))||(decide (x2>1125899906842624))) then
    none
  else
    (loopN (Z75_l1 N x0) N ()).bind fun _ =>
    some (([]:(List ApiGiven)),x2,0)
def Z56 (N:Nat) (m5000_0:ApiBook) (m5000_1:ApiState) (m5000_2:ApiUsage) (m5000_3:ApiSpell) (m5000_4:ApiAccount) (m5000_5:ApiTariff) (m5000_6:Int) (m5000_7_0:ApiUsage) (m5000_7_1:Int) (m5000_7_2:Str) (m5000_7_3:Int) (m5000_7_4:Str) (m5000_7_5:(List ApiTake)) (m5000_7_6:(List ApiSegment)) (m5000_7_7:Int) (m5000_7_8:Int) (m5000_7_9:Int) (m5000_7_11:Int) (m5000_7_12:Int) (m5001:(List ApiGiven)):Option (Int×RateJob) :=
  (Z73 N m5000_0 m5000_1 m5000_2 m5000_3 m5000_4 m5000_5 m5000_6 m5000_7_0 m5000_7_1 m5000_7_2 m5000_7_3 m5000_7_4 m5000_7_5 m5000_7_6 m5000_7_7 m5000_7_8 m5000_7_9 m5000_7_11 m5000_7_12 m5001).bind fun r1 =>
  (Z72 N m5000_1.Counters m5000_2.Sub m5000_2.Kind r1).bind fun r2 =>
  (Z74 N m5000_5.Bands m5000_0.Holidays m5000_2.Start).bind fun r3 =>
  (Z76 N m5000_2 m5000_7_4 r3 r2 m5000_3.Family).bind fun r4 =>
  (Z75 N m5000_5.Discounts r4 m5000_7_8).bind fun (r5,r6,r7) =>
  if (r7 != 0) then
    none
  else
    some (0,(m5000_0,m5000_1,m5000_2,m5000_3,m5000_4,m5000_5,m5000_6,(m5000_7_0,m5000_7_1,m5000_7_2,m5000_7_3,m5000_7_4,m5000_7_5,m5000_7_6,m5000_7_7,m5000_7_8,r6,r5,m5000_7_11,m5000_7_12)))
def Z55 (N:Nat) (m5001_0:ApiBook) (m5001_1:ApiState) (m5001_2:ApiUsage) (m5001_3:ApiSpell) (m5001_4:ApiAccount) (m5001_5:ApiTariff) (m5001_6:Int) (m5001_7_0:ApiUsage) (m5001_7_1:Int) (m5001_7_2:Str) (m5001_7_3:Int) (m5001_7_4:Str) (m5001_7_5:(List ApiTake)) (m5001_7_6:(List ApiSegment)) (m5001_7_7:Int) (m5001_7_8:Int) (m5001_7_9:Int) (m5001_7_11:Int) (m5001_7_12:Int) (m5002:(List ApiGiven)):Option (Int×RateJob) :=
  (Z56 N m5001_0 m5001_1 m5001_2 m5001_3 m5001_4 m5001_5 m5001_6 m5001_7_0 m5001_7_1 m5001_7_2 m5001_7_3 m5001_7_4 m5001_7_5 m5001_7_6 m5001_7_7 m5001_7_8 m5001_7_9 m5001_7_11 m5001_7_12 m5002).bind fun (r1,r2) =>
  some (r1,r2)
def Z47_k4 (N:Nat) (m5001_0:ApiBook) (m5001_1:ApiState) (m5001_2:ApiUsage) (m5001_3:ApiSpell) (m5001_4:ApiAccount) (m5001_5:ApiTariff) (m5001_6:Int) (m5001_7_0:ApiUsage) (m5001_7_1:Int) (m5001_7_2:Str) (m5001_7_3:Int) (m5001_7_4:Str) (m5001_7_5:(List ApiTake)) (m5001_7_6:(List ApiSegment)) (m5001_7_7:Int) (m5001_7_8:Int) (m5001_7_9:Int) (m5001_7_11:Int) (m5001_7_12:Int) (m5002:(List ApiGiven)) (m5003:Int):Option (ApiBook×ApiState×ApiUsage×ApiSpell×ApiAccount×ApiTariff×Int×ApiUsage×Int×Str×Int×Str×(List ApiTake)×(List ApiSegment)×Int×Int×Int×(List ApiGiven)×Int×Int×Int) :=
  if (m5003==0) then
    (Z55 N m5001_0 m5001_1 m5001_2 m5001_3 m5001_4 m5001_5 m5001_6 m5001_7_0 m5001_7_1 m5001_7_2 m5001_7_3 m5001_7_4 m5001_7_5 m5001_7_6 m5001_7_7 m5001_7_8 m5001_7_9 m5001_7_11 m5001_7_12 m5002).bind fun (r1,r2) =>
    some (r2.book,r2.state,r2.u,r2.spell,r2.account,r2.tariff,r2.free,r2.r.Usage,r2.r.Err,r2.r.Plan,r2.r.Version,r2.r.Zone,r2.r.Takes,r2.r.Segments,r2.r.Setup,r2.r.Gross,r2.r.Net,r2.r.Given,r2.r.Paid,r2.r.Owed,r1)
  else
    some (m5001_0,m5001_1,m5001_2,m5001_3,m5001_4,m5001_5,m5001_6,m5001_7_0,m5001_7_1,m5001_7_2,m5001_7_3,m5001_7_4,m5001_7_5,m5001_7_6,m5001_7_7,m5001_7_8,m5001_7_9,m5002,m5001_7_11,m5001_7_12,m5003)
def Z116 (N:Nat) (x0:ApiWallet):Option (Int) :=
  (Z143 N x0).bind fun r1 =>
  if (r1 != 0) then
    none
  else
    some (IntKind.wrap .i64 ((IntKind.wrap .i64 (x0.Balance - x0.Held)) - x0.Floor))
def Z117 (N:Nat) (x0:ApiWallet) (x1:Int):Option (ApiWallet×Int) :=
  (Z143 N x0).bind fun r1 =>
  if (r1 != 0) then
    none
  else
    (Z145 N x1 0 1125899906842624).bind fun r2 =>
    if (!r2) then
      none
    else
      (Z116 N x0).bind fun r3 =>
      if (decide (x1>r3)) then
        none
      else
        some ((x0.Account,(IntKind.wrap .i64 (x0.Balance - x1)),x0.Floor,x0.Held,x0.Until),0)
def Z115_k2_l1 (N:Nat) (m5000:(List ApiWallet)):(Int×(List (Int×Int)))→Option ((Int×(List (Int×Int)))⊕(((List (Int×Int))))):=fun (v2,v3) =>
  if (decide (v2<(List.length m5000:Int))) then
    (idx m5000 v2).bind fun _ =>
    (idx m5000 v2).bind fun x4 =>
    if (!(findL (k:=(.int .i64)) x4.Account v3).isSome) then
      some (.inl ((IntKind.wrap .i64 (v2+1)),(putL (k:=(.int .i64)) x4.Account v2 v3)))
    else
      none
  else
    some (.inr v3)
def Z115_k2 (N:Nat) (m5000:(List ApiWallet)):Option ((List (Int×Int))) :=
  (loopN (Z115_k2_l1 N m5000) N (0,([]:List (Int×Int)))).bind fun v5 =>
  some v5
def Z77 (N:Nat) (x0:ApiState) (x1:Int) (x2:Int) (x3:Bool):Option (ApiState×Int×Int) :=
  (Z89 N x0).bind fun (r1,r2,r3) =>
  (Z115_k2 N r2).bind fun r4 =>
  if (((!x3)||(decide (x2≤0)))||(!(findL (k:=(.int .i64)) x1 r4).isSome)) then
    some ((r1,r2,r3),0,x2)
  else
    (idx r2 ((findL (k:=(.int .i64)) x1 r4).getD 0)).bind fun _ =>
    (idx r2 ((findL (k:=(.int .i64)) x1 r4).getD 0)).bind fun x5 =>
    (Z116 N x5).bind fun r6 =>
    (idx r2 ((findL (k:=(.int .i64)) x1 r4).getD 0)).bind fun _ =>
    (idx r2 ((findL (k:=(.int .i64)) x1 r4).getD 0)).bind fun x7 =>
    (Z117 N x7 (if 1125899906842624<(if r6<x2 then r6 else x2) then 1125899906842624 else (if r6<x2 then r6 else x2))).bind fun (r8,r9) =>
    if (r9 != 0) then
      none
    else
      (idx r2 ((findL (k:=(.int .i64)) x1 r4).getD 0)).bind fun _ =>
      (idx r2 ((findL (k:=(.int .i64)) x1 r4).getD 0)).bind fun y10 =>
      some ((r1,(List.set r2 (Int.toNat ((findL (k:=(.int .i64)) x1 r4).getD 0)) r8),r3),(if 1125899906842624<(if r6<x2 then r6 else x2) then 1125899906842624 else (if r6<x2 then r6 else x2)),(IntKind.wrap .i64 (x2 - (if 1125899906842624<(if r6<x2 then r6 else x2) then 1125899906842624 else (if r6<x2 then r6 else x2)))))
def Z73_k2 (N:Nat) (m5000:RateJob):Option (Int) :=
  (Z107 N m5000.account.Anchor m5000.u.Start).bind fun r1 =>
  some r1.From
def Z178_l1 (N:Nat) (x0:Int):(Unit)→Option ((Unit)⊕((Bool))):=fun _ =>
  if (decide (0<4)) then
    (idx ([1,2,3,4]:(List Int)) 0).bind fun x1 =>
    if (x1==x0) then
      some (.inr true)
    else
      none
  else
    none
def Z178 (N:Nat) (x0:Int):Option (Bool) :=
  (loopN (Z178_l1 N x0) N ()).bind fun v2 =>
  some v2
def Z119 (N:Nat) (x0:ApiCounter):Option (Bool) :=
  (if ((decide (x0.Sub≥1))&&(decide (x0.Sub≤9999))) then
    (Z178 N x0.Kind).bind fun r2 =>
    some r2
  else
    some false:Option (Bool)).bind fun v3 =>
  some ((v3&&(decide (x0.From≥0)))&&(decide (x0.From<12622780800)))
def Z120 (N:Nat) (x0:ApiCounter):Option (Bool) :=
  some ((((decide (x0.Units≥0))&&(decide (x0.Units≤1125899906842624)))&&(decide (x0.Spent≥0)))&&(decide (x0.Spent≤1125899906842624)))
def Z118_l1 (N:Nat) (x0:(List ApiCounter)):(Int)→Option ((Int)⊕((Unit))):=fun v1 =>
  if (decide (v1<(List.length x0:Int))) then
    (idx x0 v1).bind fun x2 =>
    (Z119 N x2).bind fun r3 =>
    (if (!r3) then
      some true
    else
      (Z120 N x2).bind fun r5 =>
      some (!r5):Option (Bool)).bind fun v6 =>
    if (v6||((x2.Units==0)&&(x2.Spent==0))) then
      none
    else
      (if (decide (v1>0)) then
        none
      else
        some false:Option ((Bool))).bind fun v7 =>
      if v7 then
        none
      else
        some (.inl (IntKind.wrap .i64 (v1+1)))
  else
    some (.inr ())
def Z118 (N:Nat) (x0:(List ApiCounter)):Option (Bool) :=
  (loopN (Z118_l1 N x0) N 0).bind fun _ =>
  some true
def Z121_l1 (N:Nat) (m5000:(List ApiCounter)) (m5001:ApiCounter):(Unit)→Option ((Unit)⊕((Unit)⊕(Int×Int))):=fun _ =>
  if (decide (0<(List.length m5000:Int))) then
    (idx m5000 0).bind fun x1 =>
    (Z106 N x1 m5001).bind fun r2 =>
    if (r2==0) then
      some (.inr (.inr (0,(IntKind.wrap .i64 (0+1)))))
    else
      none
  else
    some (.inr (.inl ()))
def Z121 (N:Nat) (m5000:(List ApiCounter)) (m5001:ApiCounter):Option (Int×Int) :=
  (loopN (Z121_l1 N m5000 m5001) N ()).bind fun
    | .inl _ =>
      some ((List.length m5000:Int),(List.length m5000:Int))
    | .inr (v3,v4) =>
      some (v3,v4)
def Z78 (N:Nat) (x0:(List ApiCounter)) (x1:ApiCounter):Option (Int×(List ApiCounter)) :=
  (Z118 N x0).bind fun r1 =>
  (if (!r1) then
    some true
  else
    (Z119 N x1).bind fun r3 =>
    some (!r3):Option (Bool)).bind fun v4 =>
  if v4 then
    none
  else
    (Z120 N x1).bind fun r5 =>
    if (!r5) then
      none
    else
      (Z121 N x0 x1).bind fun (r6,r7) =>
      (if (decide (r7>r6)) then
        (idx x0 r6).bind fun x10 =>
        (idx x0 r6).bind fun x11 =>
        some (x1.Sub,x1.Kind,x1.From,(IntKind.wrap .i64 (x1.Units+x10.Units)),(IntKind.wrap .i64 (x1.Spent+x11.Spent)))
      else
        some x1:Option ((ApiCounter))).bind fun v12 =>
      (Z120 N v12).bind fun r13 =>
      if (!r13) then
        none
      else
        (slc x0 0 r6).bind fun s14 =>
        (app 40 ([]:(List ApiCounter)) s14).bind fun q15 =>
        if ((v12.Units != 0)||(v12.Spent != 0)) then
          (app 40 q15 ([v12]:(List ApiCounter))).bind fun q16 =>
          (slc x0 r7 (List.length x0:Int)).bind fun s17 =>
          (app 40 q16 s17).bind fun q18 =>
          some (0,q18)
        else
          none
def Z58 (N:Nat) (m5000:RateJob):Option (Int×ApiBook×(List ApiBucket)×(List ApiWallet)×ApiUsage×ApiSpell×ApiAccount×ApiTariff×Int×ApiRated×(List ApiCounter)) :=
  (Z77 N m5000.state m5000.u.Account m5000.r.Net m5000.account.Prepaid).bind fun (r1,r2,r3) =>
  (Z73_k2 N m5000).bind fun r4 =>
  (Z78 N r1.Counters (m5000.u.Sub,m5000.u.Kind,r4,m5000.u.Units,m5000.r.Net)).bind fun (r5,r6) =>
  if (r5 != 0) then
    none
  else
    some (0,m5000.book,r1.Buckets,r1.Wallets,m5000.u,m5000.spell,m5000.account,m5000.tariff,m5000.free,(m5000.r.Usage,m5000.r.Err,m5000.r.Plan,m5000.r.Version,m5000.r.Zone,m5000.r.Takes,m5000.r.Segments,m5000.r.Setup,m5000.r.Gross,m5000.r.Net,m5000.r.Given,r2,r3),r6)
def Z57 (N:Nat) (m5001:RateJob):Option (Int×ApiBook×(List ApiBucket)×(List ApiWallet)×ApiUsage×ApiSpell×ApiAccount×ApiTariff×Int×ApiRated×(List ApiCounter)) :=
  (Z58 N m5001).bind fun (r1,r2,r3,r4,r5,r6,r7,r8,r9,r10,r11) =>
  some (r1,r2,r3,r4,r5,r6,r7,r8,r9,r10,r11)
def Z47_k5 (N:Nat) (m5001:RateJob) (m5002:Int):Option (ApiBook×(List ApiBucket)×(List ApiWallet)×(List ApiCounter)×ApiUsage×ApiSpell×ApiAccount×ApiTariff×Int×ApiRated×Int) :=
  if (m5002==0) then
    (Z57 N m5001).bind fun (r1,r2,r3,r4,r5,r6,r7,r8,r9,r10,r11) =>
    some (r2,r3,r4,r11,r5,r6,r7,r8,r9,r10,r1)
  else
    some (m5001.book,m5001.state.Buckets,m5001.state.Wallets,m5001.state.Counters,m5001.u,m5001.spell,m5001.account,m5001.tariff,m5001.free,m5001.r,m5002)
def Z46_l1 (N:Nat) (x0:ApiState):(Int×(List ApiBucket)×(List ApiWallet)×(List ApiCounter))→Option ((Int×(List ApiBucket)×(List ApiWallet)×(List ApiCounter))⊕(((List ApiBucket)×(List ApiWallet)×(List ApiCounter)))):=fun (v7,v8,v9,v10) =>
  if (decide (v7<(List.length x0.Buckets:Int))) then
    (idx x0.Buckets v7).bind fun x11 =>
    (app 16 ([]:(List Str)) x11.Zones).bind fun q12 =>
    (app 120 v8 ([(x11.Account,x11.Sub,x11.Product,x11.Index,x11.Kind,q12,x11.Valid,x11.Units,x11.Left,x11.Priority,x11.Shared)]:(List ApiBucket))).bind fun q13 =>
    some (.inl ((IntKind.wrap .i64 (v7+1)),q13,v9,v10))
  else
    some (.inr (v8,v9,v10))
def Z46 (N:Nat) (x0:ApiState):Option (ApiState) :=
  (app 40 ([]:(List ApiWallet)) x0.Wallets).bind fun q1 =>
  (app 40 ([]:(List ApiCounter)) x0.Counters).bind fun q2 =>
  (loopN (Z46_l1 N x0) N (0,([]:(List ApiBucket)),q1,q2)).bind fun (v14,v15,v16) =>
  some (v14,v15,v16)
def Z26_k2 (N:Nat) (x0:ApiBook) (x1:ApiState) (x2:ApiUsage):Option (ApiState×ApiRated) :=
  if (x2.Inbound||(x2.Units==0)) then
    none
  else
    (Z47 N x0 x1 x2 (0,0) ([]:Str) false false 0 0 0 false false ([]:Str) 0 false 0 x2 0 ([]:Str) 0 ([]:Str) 0 0 0 0 0 ([]:(List Str)) ([]:(List Int)) ([]:(List ApiZone)) ([]:(List ApiBand)) ([]:(List ApiRate)) ([]:(List ApiDiscount)) ([]:(List ApiTake)) ([]:(List ApiSegment)) ([]:(List ApiGiven)) 0).bind fun (r1,r2,r3,r4,r5,r6,r7,r8,r9,r10,r11,r12,r13,r14,r15,r16,r17,r18,r19,r20,r21,r22,r23,r24,r25,r26,r27,r28,r29,r30,r31,r32,r33,r34,r35,r36) =>
    (Z47_k2 N r1 r2 r3 (r4,r5,r6,r7,r8) (r9,r10,r11,r12,r13,r14) r15 r16 r17 r18 r19 r20 r21 r22 r23 r24 r25 r26 r27 r28 r30 r31 r32 r33 r34 r35 r36 r29).bind fun (r37,r38,r39,r40,r41,r42,r43,r44,r45,r46,r47,r48,r49,r50,r51,r52,r53,r54,r55,r56,r57,r58,r59,r60,r61,r62,r63) =>
    (Z47_k3 N r37 r38 r39 r40 r41 (r42,r43,r44,r45,r46,r47,r48) r49 r50 r51 r52 r53 r54 r55 r56 r57 r58 r59 r61 r62 r63 r60).bind fun (r64,r65,r66,r67,r68,r69,r70,r71,r72,r73,r74,r75,r76,r77,r78,r79,r80,r81,r82,r83,r84) =>
    (Z47_k4 N r64 r65 r66 r67 r68 r69 r70 r71 r72 r73 r74 r75 r76 r77 r78 r79 r80 r81 r82 r84 r83).bind fun (r85,r86,r87,r88,r89,r90,r91,r92,r93,r94,r95,r96,r97,r98,r99,r100,r101,r102,r103,r104,r105) =>
    (Z47_k5 N (r85,r86,r87,r88,r89,r90,r91,(r92,r93,r94,r95,r96,r97,r98,r99,r100,r101,r102,r103,r104)) r105).bind fun (r106,r107,r108,r109,r110,r111,r112,r113,r114,r115,r116) =>
    if (r116 != 0) then
      (Z46 N x1).bind fun r118 =>
      some (r118,(x2,r116,([]:Str),0,([]:Str),([]:(List ApiTake)),([]:(List ApiSegment)),0,0,0,([]:(List ApiGiven)),0,0))
    else
      some ((r107,r108,r109),r115)
def Z79_l1 (N:Nat) (x0:ApiState):(Unit)→Option ((Unit)⊕((Unit))):=fun _ =>
  if (decide (0<(List.length x0.Buckets:Int))) then
    none
  else
    some (.inr ())
def Z79 (N:Nat) (x0:ApiState):Option ((List ApiWallet)×(List ApiCounter)) :=
  (app 40 ([]:(List ApiWallet)) x0.Wallets).bind fun q1 =>
  (app 40 ([]:(List ApiCounter)) x0.Counters).bind fun q2 =>
  (loopN (Z79_l1 N x0) N ()).bind fun _ =>
  some (q1,q2)
def Z123 (N:Nat) (x0:ApiUsage):Option (HistoryKey) :=
  some (x0.Start,x0.Source,x0.Serial,x0.Id)
def Z122 (N:Nat) (x0:HistoryKey) (x1:HistoryKey):Option (Bool) :=
  if ((x0.start==x1.start)&&((x0.source==x1.source)&&((x0.serial==x1.serial)&&((x0.id==x1.id)&&true)))) then
    none
  else
    if (x0.start != x1.start) then
      some (decide (x0.start<x1.start))
    else
      none
def Z80_l1 (N:Nat):((List ApiUsage)×(List ApiUsage)×(List ApiUsage))→Option (((List ApiUsage)×(List ApiUsage)×(List ApiUsage))⊕(((List ApiUsage)))):=fun (v7,v8,v9) =>
  if ((decide ((List.length v7:Int)>0))||(decide ((List.length v8:Int)>0))) then
    (if ((List.length v8:Int)==0) then
      some true
    else
      if (decide ((List.length v7:Int)>0)) then
        (idx v8 0).bind fun x10 =>
        (Z123 N x10).bind fun r11 =>
        (idx v7 0).bind fun x12 =>
        (Z123 N x12).bind fun r13 =>
        (Z122 N r11 r13).bind fun r14 =>
        some (!r14)
      else
        some false:Option ((Bool))).bind fun v15 =>
    if v15 then
      (idx v7 0).bind fun x16 =>
      (app 112 v9 ([x16]:(List ApiUsage))).bind fun q17 =>
      (slc v7 1 (List.length v7:Int)).bind fun s18 =>
      some (.inl (s18,v8,q17))
    else
      (idx v8 0).bind fun x19 =>
      (app 112 v9 ([x19]:(List ApiUsage))).bind fun q20 =>
      (slc v8 1 (List.length v8:Int)).bind fun s21 =>
      some (.inl (v7,s21,q20))
  else
    some (.inr v9)
def Z80_r (N:Nat):Nat→(List ApiUsage)→Option ((List ApiUsage))
  | 0,_=>none
  | n+1,x0 =>
    if (decide ((List.length x0:Int)<2)) then
      (app 112 ([]:(List ApiUsage)) x0).bind fun q1 =>
      some q1
    else
      (slc x0 0 (IntKind.wrap .i64 (Int.tdiv (List.length x0:Int) 2))).bind fun s2 =>
      (Z80_r N n s2).bind fun r3 =>
      (slc x0 (IntKind.wrap .i64 (Int.tdiv (List.length x0:Int) 2)) (List.length x0:Int)).bind fun s4 =>
      (Z80_r N n s4).bind fun r5 =>
      (mkL 112 0 (List.length x0:Int) (0,0,0,0,([]:Str),([]:Str),0,0,0,false,0,0)).bind fun m6 =>
      (loopN (Z80_l1 N) N (r3,r5,m6)).bind fun v22 =>
      some v22
def Z80 (N:Nat) (x0:(List ApiUsage)):Option ((List ApiUsage)):=Z80_r N N x0
def Z59_l1 (N:Nat) (r3:(List ApiUsage)) (x0:ApiBook):(Int×(List ApiBucket)×(List ApiWallet)×(List ApiCounter)×(List ApiRated))→Option ((Int×(List ApiBucket)×(List ApiWallet)×(List ApiCounter)×(List ApiRated))⊕((ApiState×(List ApiRated)))):=fun (v10,v11,v12,v13,v14) =>
  if (decide (v10<(List.length r3:Int))) then
    (idx r3 v10).bind fun x15 =>
    (Z26_k2 N x0 (v11,v12,v13) x15).bind fun (r16,r17) =>
    (app 272 v14 ([r17]:(List ApiRated))).bind fun q18 =>
    some (.inl ((IntKind.wrap .i64 (v10+1)),r16.Buckets,r16.Wallets,r16.Counters,q18))
  else
    some (.inr ((v11,v12,v13),v14))
def Z59 (N:Nat) (x0:ApiBook) (x1:ApiState) (x2:(List ApiUsage)):Option (ApiState×(List ApiRated)) :=
  (Z79 N x1).bind fun (r1,r2) =>
  (Z80 N x2).bind fun r3 =>
  (loopN (Z59_l1 N r3 x0) N (0,([]:(List ApiBucket)),r1,r2,([]:(List ApiRated)))).bind fun (v19,v20) =>
  some (v19,v20)
def Z32 (N:Nat) (x0:ApiBook) (x1:(List ApiUsage)):Option (ApiState×(List ApiRated)) :=
  (Z59 N x0 (([]:(List ApiBucket)),([]:(List ApiWallet)),([]:(List ApiCounter))) x1).bind fun (r1,r2) =>
  some (r1,r2)
def history_Totals_l1 (N:Nat) (x0:(List ApiRated)):(Int×Int×Int×Int)→Option ((Int×Int×Int×Int)⊕((Int×Int×Int))):=fun (v1,v2,v3,v4) =>
  if (decide (v4<(List.length x0:Int))) then
    (idx x0 v4).bind fun x5 =>
    some (.inl ((IntKind.wrap .i64 (v1+x5.Net)),(IntKind.wrap .i64 (v2+x5.Paid)),(IntKind.wrap .i64 (v3+x5.Owed)),(IntKind.wrap .i64 (v4+1))))
  else
    some (.inr (v1,v2,v3))
def history_Totals (N:Nat) (x0:(List ApiRated)):Option (Int×Int×Int) :=
  (loopN (history_Totals_l1 N x0) N (0,0,0,0)).bind fun (v6,v7,v8) =>
  some (v6,v7,v8)
def billinglaw38_awake (N:Nat):Option (Bool) :=
  (Z27 N).bind fun r1 =>
  (Z32 N r1 ([(1,1,1,1,([52,57,49,49]:Str),([52,57,49,50]:Str),1000,20,0,false,1,2),(2,1,1,1,([52,57,49,49]:Str),([52,57,49,50]:Str),500,20,0,false,1,1)]:(List ApiUsage))).bind fun (r2,r3) =>
  (if (((List.length r3:Int) != 2)||((List.length r2.Wallets:Int) != 1)) then
    some true
  else
    (idx r3 0).bind fun x5 =>
    some ((List.length x5.Takes:Int) != 1):Option (Bool)).bind fun v6 =>
  (if v6 then
    some true
  else
    (idx r3 1).bind fun x8 =>
    some ((List.length x8.Segments:Int) != 1):Option (Bool)).bind fun v9 =>
  if v9 then
    none
  else
    (history_Totals N r3).bind fun (r10,r11,r12) =>
    (idx r3 0).bind fun x13 =>
    (if (x13.Usage.Id==2) then
      (idx r3 0).bind fun x15 =>
      some (x15.Net==0)
    else
      some false:Option (Bool)).bind fun v16 =>
    (if v16 then
      (idx r3 0).bind fun x19 =>
      (idx x19.Takes 0).bind fun x20 =>
      some (x20.Units==20)
    else
      some false:Option (Bool)).bind fun v21 =>
    (if v21 then
      (idx r3 1).bind fun x23 =>
      some (x23.Net==700)
    else
      some false:Option (Bool)).bind fun v24 =>
    (if v24 then
      (idx r3 1).bind fun x27 =>
      (idx x27.Segments 0).bind fun x28 =>
      some (x28.Units==10)
    else
      some false:Option (Bool)).bind fun v29 =>
    (if (((v29&&(r10==700))&&(r11==700))&&(r12==0)) then
      (idx r2.Wallets 0).bind fun x31 =>
      some (x31.Balance==0)
    else
      some false:Option (Bool)).bind fun v32 =>
    some v32
def billingref38_Totals_l1 (N:Nat) (x0:(List ApiRated)):(Int×Int×Int×Int)→Option ((Int×Int×Int×Int)⊕((Int×Int×Int))):=fun (v1,v2,v3,v4) =>
  if (decide (v4<(List.length x0:Int))) then
    (idx x0 v4).bind fun x5 =>
    (idx x0 v4).bind fun x6 =>
    (idx x0 v4).bind fun x7 =>
    some (.inl ((IntKind.wrap .i64 (v1+x5.Net)),(IntKind.wrap .i64 (v2+x6.Paid)),(IntKind.wrap .i64 (v3+x7.Owed)),(IntKind.wrap .i64 (v4+1))))
  else
    some (.inr (v1,v2,v3))
def billingref38_Totals (N:Nat) (x0:(List ApiRated)):Option (Int×Int×Int) :=
  (loopN (billingref38_Totals_l1 N x0) N (0,0,0,0)).bind fun (v8,v9,v10) =>
  some (v8,v9,v10)
def billinglaw38_HistoryTotals_l1 (N:Nat) (x0:(List ApiRated)):(Int)→Option ((Int)⊕((Unit)⊕(Bool))):=fun v2 =>
  if (decide (v2<(List.length x0:Int))) then
    (idx x0 v2).bind fun x3 =>
    (if (decide (x3.Net<(-1125899906842624))) then
      some true
    else
      (idx x0 v2).bind fun x5 =>
      some (decide (x5.Net>1125899906842624)):Option (Bool)).bind fun v6 =>
    (if v6 then
      some true
    else
      (idx x0 v2).bind fun x8 =>
      some (decide (x8.Paid<(-1125899906842624))):Option (Bool)).bind fun v9 =>
    (if v9 then
      some true
    else
      (idx x0 v2).bind fun x11 =>
      some (decide (x11.Paid>1125899906842624)):Option (Bool)).bind fun v12 =>
    (if v12 then
      some true
    else
      (idx x0 v2).bind fun x14 =>
      some (decide (x14.Owed<(-1125899906842624))):Option (Bool)).bind fun v15 =>
    (if v15 then
      some true
    else
      (idx x0 v2).bind fun x17 =>
      some (decide (x17.Owed>1125899906842624)):Option (Bool)).bind fun v18 =>
    if v18 then
      (billinglaw38_awake N).bind fun r19 =>
      some (.inr (.inr r19))
    else
      some (.inl (IntKind.wrap .i64 (v2+1)))
  else
    some (.inr (.inl ()))
def billinglaw38_HistoryTotals (N:Nat) (x0:(List ApiRated)):Option (Bool) :=
  if (decide ((List.length x0:Int)>24)) then
    (billinglaw38_awake N).bind fun r1 =>
    some r1
  else
    (loopN (billinglaw38_HistoryTotals_l1 N x0) N 0).bind fun
      | .inl _ =>
        (history_Totals N x0).bind fun (r20,r21,r22) =>
        (billingref38_Totals N x0).bind fun (r23,r24,r25) =>
        (if (((r20==r23)&&(r21==r24))&&(r22==r25)) then
          (billinglaw38_awake N).bind fun r27 =>
          some r27
        else
          some false:Option (Bool)).bind fun v28 =>
        some v28
      | .inr v29 =>
        some v29
end Gx
