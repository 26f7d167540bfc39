/- The interpreter gives these functions. -/
import Derived.Test.YtknipijkpcbadaaGreatXFns
import Derived.Test.YtknipijkpcbadaaGreatProg
namespace Gx
open Go Gd Go.Proofs
set_option linter.unusedVariables false
def tab : Tab := [
  ⟨1, .func ⟨[]⟩ ⟨[]⟩ false, .nilFunc, 1, 8⟩,
  ⟨2, .int .i64, .int .i64 0, 1, 8⟩,
  ⟨3, .int .i64, .int .i64 0, 1, 8⟩,
  ⟨4, .bool, .bool false, 1, 1⟩,
  ⟨5, .int .u8, .int .u8 0, 1, 1⟩,
  ⟨6, .int .u8, .int .u8 0, 1, 1⟩,
  ⟨9, .string, strV [], 1, 16⟩,
  ⟨22, .slice 179, .slice none 0 0, 1, 24⟩,
  ⟨23, .slice 109, .slice none 0 0, 1, 24⟩,
  ⟨24, .slice 144, .slice none 0 0, 1, 24⟩,
  ⟨26, .struct ⟨[⟨"Buckets", 22, 0, false, "", "", 0⟩, ⟨"Wallets", 23, 1, false, "", "", 24⟩, ⟨"Counters", 24, 2, false, "", "", 48⟩]⟩, .agg ⟨[.slice none 0 0, .slice none 0 0, .slice none 0 0]⟩, 3, 72⟩,
  ⟨29, .slice 157, .slice none 0 0, 1, 24⟩,
  ⟨31, .struct ⟨[⟨"Kind", 3, 0, false, "", "", 0⟩, ⟨"Zone", 9, 1, false, "", "", 8⟩, ⟨"Band", 9, 2, false, "", "", 24⟩, ⟨"Setup", 3, 3, false, "", "", 40⟩, ⟨"Steps", 29, 4, false, "", "", 48⟩]⟩, .agg ⟨[.int .i64 0, strV [], strV [], .int .i64 0, .slice none 0 0]⟩, 5, 72⟩,
  ⟨33, .struct ⟨[⟨"Account", 3, 0, false, "", "", 0⟩, ⟨"Sub", 3, 1, false, "", "", 8⟩, ⟨"Kind", 3, 2, false, "", "", 16⟩, ⟨"Zone", 9, 3, false, "", "", 24⟩, ⟨"Plan", 9, 4, false, "", "", 40⟩, ⟨"Version", 3, 5, false, "", "", 56⟩, ⟨"Rate", 31, 6, false, "", "", 64⟩, ⟨"Free", 3, 11, false, "", "", 136⟩, ⟨"Paid", 3, 12, false, "", "", 144⟩]⟩, .agg ⟨[.int .i64 0, .int .i64 0, .int .i64 0, strV [], strV [], .int .i64 0, .int .i64 0, strV [], strV [], .int .i64 0, .slice none 0 0, .int .i64 0, .int .i64 0]⟩, 13, 152⟩,
  ⟨34, .slice 112, .slice none 0 0, 1, 24⟩,
  ⟨35, .int .i64, .int .i64 0, 1, 8⟩,
  ⟨37, .struct ⟨[⟨"Session", 3, 0, false, "", "", 0⟩, ⟨"Seq", 3, 1, false, "", "", 8⟩, ⟨"Granted", 3, 2, false, "", "", 16⟩, ⟨"Until", 3, 3, false, "", "", 24⟩, ⟨"Err", 35, 4, false, "", "", 32⟩]⟩, .agg ⟨[.int .i64 0, .int .i64 0, .int .i64 0, .int .i64 0, .int .i64 0]⟩, 5, 40⟩,
  ⟨39, .struct ⟨[⟨"Id", 3, 0, false, "", "", 0⟩, ⟨"Seq", 3, 1, false, "", "", 8⟩, ⟨"Start", 3, 2, false, "", "", 16⟩, ⟨"Until", 3, 3, false, "", "", 24⟩, ⟨"Meter", 33, 4, false, "", "", 32⟩, ⟨"Granted", 3, 17, false, "", "", 184⟩, ⟨"Takes", 34, 18, false, "", "", 192⟩, ⟨"Held", 3, 19, false, "", "", 216⟩, ⟨"Spent", 3, 20, false, "", "", 224⟩, ⟨"Closed", 4, 21, false, "", "", 232⟩, ⟨"Last", 37, 22, false, "", "", 240⟩]⟩, .agg ⟨[.int .i64 0, .int .i64 0, .int .i64 0, .int .i64 0, .int .i64 0, .int .i64 0, .int .i64 0, strV [], strV [], .int .i64 0, .int .i64 0, strV [], strV [], .int .i64 0, .slice none 0 0, .int .i64 0, .int .i64 0, .int .i64 0, .slice none 0 0, .int .i64 0, .int .i64 0, .bool false, .int .i64 0, .int .i64 0, .int .i64 0, .int .i64 0, .int .i64 0]⟩, 27, 280⟩,
  ⟨42, .struct ⟨[⟨"Session", 3, 0, false, "", "", 0⟩, ⟨"Seq", 3, 1, false, "", "", 8⟩, ⟨"Kind", 3, 2, false, "", "", 16⟩, ⟨"At", 3, 3, false, "", "", 24⟩, ⟨"Sub", 3, 4, false, "", "", 32⟩, ⟨"Usage", 3, 5, false, "", "", 40⟩, ⟨"B", 9, 6, false, "", "", 48⟩, ⟨"Used", 3, 7, false, "", "", 64⟩, ⟨"Ask", 3, 8, false, "", "", 72⟩]⟩, .agg ⟨[.int .i64 0, .int .i64 0, .int .i64 0, .int .i64 0, .int .i64 0, .int .i64 0, strV [], .int .i64 0, .int .i64 0]⟩, 9, 80⟩,
  ⟨43, .slice 5, .slice none 0 0, 1, 24⟩,
  ⟨49, .slice 55, .slice none 0 0, 1, 24⟩,
  ⟨50, .pointer 63, .pointer none, 1, 8⟩,
  ⟨52, .pointer 128, .pointer none, 1, 8⟩,
  ⟨55, .struct ⟨[⟨"Call", 3, 0, false, "", "", 0⟩, ⟨"Request", 42, 1, false, "", "", 8⟩, ⟨"Keep", 3, 10, false, "", "", 88⟩]⟩, .agg ⟨[.int .i64 0, .int .i64 0, .int .i64 0, .int .i64 0, .int .i64 0, .int .i64 0, .int .i64 0, strV [], .int .i64 0, .int .i64 0, .int .i64 0]⟩, 11, 96⟩,
  ⟨61, .map 3 3, .map none, 1, 8⟩,
  ⟨63, .struct ⟨[⟨"bytes", 43, 0, false, "", "billing/journal", 0⟩, ⟨"safe", 3, 1, false, "", "billing/journal", 24⟩, ⟨"ends", 61, 2, false, "", "billing/journal", 32⟩]⟩, .agg ⟨[.slice none 0 0, .int .i64 0, .map none]⟩, 3, 40⟩,
  ⟨66, .slice 151, .slice none 0 0, 1, 24⟩,
  ⟨67, .slice 162, .slice none 0 0, 1, 24⟩,
  ⟨68, .slice 208, .slice none 0 0, 1, 24⟩,
  ⟨69, .slice 212, .slice none 0 0, 1, 24⟩,
  ⟨70, .slice 3, .slice none 0 0, 1, 24⟩,
  ⟨71, .slice 218, .slice none 0 0, 1, 24⟩,
  ⟨73, .struct ⟨[⟨"Events", 66, 0, false, "", "", 0⟩, ⟨"Tariffs", 67, 1, false, "", "", 24⟩, ⟨"Products", 68, 2, false, "", "", 48⟩, ⟨"Taxes", 69, 3, false, "", "", 72⟩, ⟨"Holidays", 70, 4, false, "", "", 96⟩, ⟨"Agreements", 71, 5, false, "", "", 120⟩]⟩, .agg ⟨[.slice none 0 0, .slice none 0 0, .slice none 0 0, .slice none 0 0, .slice none 0 0, .slice none 0 0]⟩, 6, 144⟩,
  ⟨78, .pointer 94, .pointer none, 1, 8⟩,
  ⟨92, .map 3 39, .map none, 1, 8⟩,
  ⟨94, .struct ⟨[⟨"book", 73, 0, false, "", "billing/online", 0⟩, ⟨"state", 26, 6, false, "", "billing/online", 144⟩, ⟨"sessions", 92, 9, false, "", "billing/online", 216⟩]⟩, .agg ⟨[.slice none 0 0, .slice none 0 0, .slice none 0 0, .slice none 0 0, .slice none 0 0, .slice none 0 0, .slice none 0 0, .slice none 0 0, .slice none 0 0, .map none]⟩, 10, 224⟩,
  ⟨109, .struct ⟨[⟨"Account", 3, 0, false, "", "", 0⟩, ⟨"Balance", 3, 1, false, "", "", 8⟩, ⟨"Floor", 3, 2, false, "", "", 16⟩, ⟨"Held", 3, 3, false, "", "", 24⟩, ⟨"Until", 3, 4, false, "", "", 32⟩]⟩, .agg ⟨[.int .i64 0, .int .i64 0, .int .i64 0, .int .i64 0, .int .i64 0]⟩, 5, 40⟩,
  ⟨112, .struct ⟨[⟨"Sub", 3, 0, false, "", "", 0⟩, ⟨"Product", 9, 1, false, "", "", 8⟩, ⟨"Index", 3, 2, false, "", "", 24⟩, ⟨"From", 3, 3, false, "", "", 32⟩, ⟨"Units", 3, 4, false, "", "", 40⟩]⟩, .agg ⟨[.int .i64 0, strV [], .int .i64 0, .int .i64 0, .int .i64 0]⟩, 5, 48⟩,
  ⟨120, .struct ⟨[⟨"rest", 43, 0, false, "", "billing/journal", 0⟩, ⟨"bad", 35, 1, false, "", "billing/journal", 24⟩]⟩, .agg ⟨[.slice none 0 0, .int .i64 0]⟩, 2, 32⟩,
  ⟨122, .pointer 124, .pointer none, 1, 8⟩,
  ⟨124, .struct ⟨[⟨"b", 43, 0, false, "", "billing/billingref42", 0⟩, ⟨"e", 35, 1, false, "", "billing/billingref42", 24⟩]⟩, .agg ⟨[.slice none 0 0, .int .i64 0]⟩, 2, 32⟩,
  ⟨128, .struct ⟨[⟨"b", 43, 0, false, "", "billing/billingref42", 0⟩, ⟨"safe", 3, 1, false, "", "billing/billingref42", 24⟩]⟩, .agg ⟨[.slice none 0 0, .int .i64 0]⟩, 2, 32⟩,
  ⟨144, .struct ⟨[⟨"Sub", 3, 0, false, "", "", 0⟩, ⟨"Kind", 3, 1, false, "", "", 8⟩, ⟨"From", 3, 2, false, "", "", 16⟩, ⟨"Units", 3, 3, false, "", "", 24⟩, ⟨"Spent", 3, 4, false, "", "", 32⟩]⟩, .agg ⟨[.int .i64 0, .int .i64 0, .int .i64 0, .int .i64 0, .int .i64 0]⟩, 5, 40⟩,
  ⟨147, .slice 43, .slice none 0 0, 1, 24⟩,
  ⟨151, .struct ⟨[⟨"At", 3, 0, false, "", "", 0⟩, ⟨"Kind", 3, 1, false, "", "", 8⟩, ⟨"Account", 3, 2, false, "", "", 16⟩, ⟨"Sub", 3, 3, false, "", "", 24⟩, ⟨"Number", 9, 4, false, "", "", 32⟩, ⟨"Name", 9, 5, false, "", "", 48⟩, ⟨"Value", 3, 6, false, "", "", 64⟩]⟩, .agg ⟨[.int .i64 0, .int .i64 0, .int .i64 0, .int .i64 0, strV [], strV [], .int .i64 0]⟩, 7, 72⟩,
  ⟨152, .slice 295, .slice none 0 0, 1, 24⟩,
  ⟨154, .struct ⟨[⟨"Name", 9, 0, false, "", "", 0⟩, ⟨"Slots", 152, 1, false, "", "", 16⟩]⟩, .agg ⟨[strV [], .slice none 0 0]⟩, 2, 40⟩,
  ⟨155, .slice 154, .slice none 0 0, 1, 24⟩,
  ⟨157, .struct ⟨[⟨"Upto", 3, 0, false, "", "", 0⟩, ⟨"Quantum", 3, 1, false, "", "", 8⟩, ⟨"Price", 3, 2, false, "", "", 16⟩]⟩, .agg ⟨[.int .i64 0, .int .i64 0, .int .i64 0]⟩, 3, 24⟩,
  ⟨158, .slice 31, .slice none 0 0, 1, 24⟩,
  ⟨159, .slice 284, .slice none 0 0, 1, 24⟩,
  ⟨160, .slice 292, .slice none 0 0, 1, 24⟩,
  ⟨162, .struct ⟨[⟨"Name", 9, 0, false, "", "", 0⟩, ⟨"From", 3, 1, false, "", "", 16⟩, ⟨"Split", 4, 2, false, "", "", 24⟩, ⟨"Zones", 159, 3, false, "", "", 32⟩, ⟨"Bands", 155, 4, false, "", "", 56⟩, ⟨"Rates", 158, 5, false, "", "", 80⟩, ⟨"Discounts", 160, 6, false, "", "", 104⟩]⟩, .agg ⟨[strV [], .int .i64 0, .bool false, .slice none 0 0, .slice none 0 0, .slice none 0 0, .slice none 0 0]⟩, 7, 128⟩,
  ⟨175, .slice 9, .slice none 0 0, 1, 24⟩,
  ⟨177, .struct ⟨[⟨"From", 3, 0, false, "", "", 0⟩, ⟨"To", 3, 1, false, "", "", 8⟩]⟩, .agg ⟨[.int .i64 0, .int .i64 0]⟩, 2, 16⟩,
  ⟨179, .struct ⟨[⟨"Account", 3, 0, false, "", "", 0⟩, ⟨"Sub", 3, 1, false, "", "", 8⟩, ⟨"Product", 9, 2, false, "", "", 16⟩, ⟨"Index", 3, 3, false, "", "", 32⟩, ⟨"Kind", 3, 4, false, "", "", 40⟩, ⟨"Zones", 175, 5, false, "", "", 48⟩, ⟨"Valid", 177, 6, false, "", "", 72⟩, ⟨"Units", 3, 8, false, "", "", 88⟩, ⟨"Left", 3, 9, false, "", "", 96⟩, ⟨"Priority", 3, 10, false, "", "", 104⟩, ⟨"Shared", 4, 11, false, "", "", 112⟩]⟩, .agg ⟨[.int .i64 0, .int .i64 0, strV [], .int .i64 0, .int .i64 0, .slice none 0 0, .int .i64 0, .int .i64 0, .int .i64 0, .int .i64 0, .int .i64 0, .bool false]⟩, 12, 120⟩,
  ⟨195, .int .u32, .int .u32 0, 1, 4⟩,
  ⟨206, .slice 222, .slice none 0 0, 1, 24⟩,
  ⟨208, .struct ⟨[⟨"Name", 9, 0, false, "", "", 0⟩, ⟨"From", 3, 1, false, "", "", 16⟩, ⟨"Fee", 3, 2, false, "", "", 24⟩, ⟨"Category", 9, 3, false, "", "", 32⟩, ⟨"Prorate", 4, 4, false, "", "", 48⟩, ⟨"Bundles", 206, 5, false, "", "", 56⟩]⟩, .agg ⟨[strV [], .int .i64 0, .int .i64 0, strV [], .bool false, .slice none 0 0]⟩, 6, 80⟩,
  ⟨212, .struct ⟨[⟨"Category", 9, 0, false, "", "", 0⟩, ⟨"From", 3, 1, false, "", "", 16⟩, ⟨"Points", 3, 2, false, "", "", 24⟩]⟩, .agg ⟨[strV [], .int .i64 0, .int .i64 0]⟩, 3, 32⟩,
  ⟨218, .struct ⟨[⟨"Partner", 3, 0, false, "", "", 0⟩, ⟨"Kind", 3, 1, false, "", "", 8⟩, ⟨"Inbound", 4, 2, false, "", "", 16⟩, ⟨"Valid", 177, 3, false, "", "", 24⟩, ⟨"Steps", 29, 5, false, "", "", 40⟩, ⟨"Cap", 3, 6, false, "", "", 64⟩]⟩, .agg ⟨[.int .i64 0, .int .i64 0, .bool false, .int .i64 0, .int .i64 0, .slice none 0 0, .int .i64 0]⟩, 7, 72⟩,
  ⟨222, .struct ⟨[⟨"Kind", 3, 0, false, "", "", 0⟩, ⟨"Zones", 175, 1, false, "", "", 8⟩, ⟨"Units", 3, 2, false, "", "", 32⟩, ⟨"Rollover", 3, 3, false, "", "", 40⟩, ⟨"Priority", 3, 4, false, "", "", 48⟩, ⟨"Shared", 4, 5, false, "", "", 56⟩]⟩, .agg ⟨[.int .i64 0, .slice none 0 0, .int .i64 0, .int .i64 0, .int .i64 0, .bool false]⟩, 6, 64⟩,
  ⟨266, .int .u64, .int .u64 0, 1, 8⟩,
  ⟨284, .struct ⟨[⟨"Name", 9, 0, false, "", "", 0⟩, ⟨"Prefixes", 175, 1, false, "", "", 16⟩]⟩, .agg ⟨[strV [], .slice none 0 0]⟩, 2, 40⟩,
  ⟨288, .slice 290, .slice none 0 0, 1, 24⟩,
  ⟨290, .struct ⟨[⟨"Op", 3, 0, false, "", "", 0⟩, ⟨"Num", 3, 1, false, "", "", 8⟩, ⟨"Text", 9, 2, false, "", "", 16⟩, ⟨"Args", 288, 3, false, "", "", 32⟩]⟩, .agg ⟨[.int .i64 0, .int .i64 0, strV [], .slice none 0 0]⟩, 4, 56⟩,
  ⟨292, .struct ⟨[⟨"Name", 9, 0, false, "", "", 0⟩, ⟨"When", 290, 1, false, "", "", 16⟩, ⟨"Points", 3, 5, false, "", "", 72⟩]⟩, .agg ⟨[strV [], .int .i64 0, .int .i64 0, strV [], .slice none 0 0, .int .i64 0]⟩, 6, 80⟩,
  ⟨295, .struct ⟨[⟨"Days", 3, 0, false, "", "", 0⟩, ⟨"From", 3, 1, false, "", "", 8⟩, ⟨"To", 3, 2, false, "", "", 16⟩]⟩, .agg ⟨[.int .i64 0, .int .i64 0, .int .i64 0]⟩, 3, 24⟩]
def tx : TX := ⟨tab, [(1, .ref), (2, (.int .i64)), (3, (.int .i64)), (4, .bool), (5, (.int .u8)), (6, (.int .u8)), (9, .str), (22, (.sl tyApiBucket)), (23, (.sl tyApiWallet)), (24, (.sl tyApiCounter)), (26, tyApiState), (29, (.sl tyApiStep)), (31, tyApiRate), (33, tyApiMeter), (34, (.sl tyApiTake)), (35, (.int .i64)), (37, tyApiAnswer), (39, tyApiSession), (42, tyApiRequest), (43, (.sl (.int .u8))), (49, (.sl tyBillinglaw42Op)), (50, .ref), (52, .ref), (55, tyBillinglaw42Op), (61, .ref), (63, tyJournalLog), (66, (.sl tyApiEvent)), (67, (.sl tyApiTariff)), (68, (.sl tyApiProduct)), (69, (.sl tyApiTax)), (70, (.sl (.int .i64))), (71, (.sl tyApiAgreement)), (73, tyApiBook), (78, .ref), (92, .ref), (94, tyOnlineServer), (109, tyApiWallet), (112, tyApiTake), (120, tyJournalReader), (122, .ref), (124, tyBillingref42Reader), (128, tyBillingref42Log), (144, tyApiCounter), (147, (.sl (.sl (.int .u8)))), (151, tyApiEvent), (152, (.sl tyApiSlot)), (154, tyApiBand), (155, (.sl tyApiBand)), (157, tyApiStep), (158, (.sl tyApiRate)), (159, (.sl tyApiZone)), (160, (.sl tyApiDiscount)), (162, tyApiTariff), (175, (.sl .str)), (177, tyApiPeriod), (179, tyApiBucket), (195, (.int .u32)), (206, (.sl tyApiBundle)), (208, tyApiProduct), (212, tyApiTax), (218, tyApiAgreement), (222, tyApiBundle), (266, (.int .u64)), (284, tyApiZone), (288, (.sl tyApiExpr)), (290, tyApiExpr), (292, tyApiDiscount), (295, tyApiSlot)], []⟩
theorem mixOk : Tryz.prog.follows .mixedOrders = true := by kernel_rfl
theorem tabOk : TabOk Tryz.prog tab := ⟨⟨⟨by kernel_rfl, by kernel_rfl⟩, by kernel_rfl⟩, ⟨⟨by kernel_rfl, by kernel_rfl⟩, by kernel_rfl⟩, ⟨⟨by kernel_rfl, by kernel_rfl⟩, by kernel_rfl⟩, ⟨⟨by kernel_rfl, by kernel_rfl⟩, by kernel_rfl⟩, ⟨⟨by kernel_rfl, by kernel_rfl⟩, by kernel_rfl⟩, ⟨⟨by kernel_rfl, by kernel_rfl⟩, by kernel_rfl⟩, ⟨⟨by kernel_rfl, by kernel_rfl⟩, by kernel_rfl⟩, ⟨⟨by kernel_rfl, by kernel_rfl⟩, by kernel_rfl⟩, ⟨⟨by kernel_rfl, by kernel_rfl⟩, by kernel_rfl⟩, ⟨⟨by kernel_rfl, by kernel_rfl⟩, by kernel_rfl⟩, ⟨⟨by kernel_rfl, by kernel_rfl⟩, by kernel_rfl⟩, ⟨⟨by kernel_rfl, by kernel_rfl⟩, by kernel_rfl⟩, ⟨⟨by kernel_rfl, by kernel_rfl⟩, by kernel_rfl⟩, ⟨⟨by kernel_rfl, by kernel_rfl⟩, by kernel_rfl⟩, ⟨⟨by kernel_rfl, by kernel_rfl⟩, by kernel_rfl⟩, ⟨⟨by kernel_rfl, by kernel_rfl⟩, by kernel_rfl⟩, ⟨⟨by kernel_rfl, by kernel_rfl⟩, by kernel_rfl⟩, ⟨⟨by kernel_rfl, by kernel_rfl⟩, by kernel_rfl⟩, ⟨⟨by kernel_rfl, by kernel_rfl⟩, by kernel_rfl⟩, ⟨⟨by kernel_rfl, by kernel_rfl⟩, by kernel_rfl⟩, ⟨⟨by kernel_rfl, by kernel_rfl⟩, by kernel_rfl⟩, ⟨⟨by kernel_rfl, by kernel_rfl⟩, by kernel_rfl⟩, ⟨⟨by kernel_rfl, by kernel_rfl⟩, by kernel_rfl⟩, ⟨⟨by kernel_rfl, by kernel_rfl⟩, by kernel_rfl⟩, ⟨⟨by kernel_rfl, by kernel_rfl⟩, by kernel_rfl⟩, ⟨⟨by kernel_rfl, by kernel_rfl⟩, by kernel_rfl⟩, ⟨⟨by kernel_rfl, by kernel_rfl⟩, by kernel_rfl⟩, ⟨⟨by kernel_rfl, by kernel_rfl⟩, by kernel_rfl⟩, ⟨⟨by kernel_rfl, by kernel_rfl⟩, by kernel_rfl⟩, ⟨⟨by kernel_rfl, by kernel_rfl⟩, by kernel_rfl⟩, ⟨⟨by kernel_rfl, by kernel_rfl⟩, by kernel_rfl⟩, ⟨⟨by kernel_rfl, by kernel_rfl⟩, by kernel_rfl⟩, ⟨⟨by kernel_rfl, by kernel_rfl⟩, by kernel_rfl⟩, ⟨⟨by kernel_rfl, by kernel_rfl⟩, by kernel_rfl⟩, ⟨⟨by kernel_rfl, by kernel_rfl⟩, by kernel_rfl⟩, ⟨⟨by kernel_rfl, by kernel_rfl⟩, by kernel_rfl⟩, ⟨⟨by kernel_rfl, by kernel_rfl⟩, by kernel_rfl⟩, ⟨⟨by kernel_rfl, by kernel_rfl⟩, by kernel_rfl⟩, ⟨⟨by kernel_rfl, by kernel_rfl⟩, by kernel_rfl⟩, ⟨⟨by kernel_rfl, by kernel_rfl⟩, by kernel_rfl⟩, ⟨⟨by kernel_rfl, by kernel_rfl⟩, by kernel_rfl⟩, ⟨⟨by kernel_rfl, by kernel_rfl⟩, by kernel_rfl⟩, ⟨⟨by kernel_rfl, by kernel_rfl⟩, by kernel_rfl⟩, ⟨⟨by kernel_rfl, by kernel_rfl⟩, by kernel_rfl⟩, ⟨⟨by kernel_rfl, by kernel_rfl⟩, by kernel_rfl⟩, ⟨⟨by kernel_rfl, by kernel_rfl⟩, by kernel_rfl⟩, ⟨⟨by kernel_rfl, by kernel_rfl⟩, by kernel_rfl⟩, ⟨⟨by kernel_rfl, by kernel_rfl⟩, by kernel_rfl⟩, ⟨⟨by kernel_rfl, by kernel_rfl⟩, by kernel_rfl⟩, ⟨⟨by kernel_rfl, by kernel_rfl⟩, by kernel_rfl⟩, ⟨⟨by kernel_rfl, by kernel_rfl⟩, by kernel_rfl⟩, ⟨⟨by kernel_rfl, by kernel_rfl⟩, by kernel_rfl⟩, ⟨⟨by kernel_rfl, by kernel_rfl⟩, by kernel_rfl⟩, ⟨⟨by kernel_rfl, by kernel_rfl⟩, by kernel_rfl⟩, ⟨⟨by kernel_rfl, by kernel_rfl⟩, by kernel_rfl⟩, ⟨⟨by kernel_rfl, by kernel_rfl⟩, by kernel_rfl⟩, ⟨⟨by kernel_rfl, by kernel_rfl⟩, by kernel_rfl⟩, ⟨⟨by kernel_rfl, by kernel_rfl⟩, by kernel_rfl⟩, ⟨⟨by kernel_rfl, by kernel_rfl⟩, by kernel_rfl⟩, ⟨⟨by kernel_rfl, by kernel_rfl⟩, by kernel_rfl⟩, ⟨⟨by kernel_rfl, by kernel_rfl⟩, by kernel_rfl⟩, ⟨⟨by kernel_rfl, by kernel_rfl⟩, by kernel_rfl⟩, ⟨⟨by kernel_rfl, by kernel_rfl⟩, by kernel_rfl⟩, ⟨⟨by kernel_rfl, by kernel_rfl⟩, by kernel_rfl⟩, ⟨⟨by kernel_rfl, by kernel_rfl⟩, by kernel_rfl⟩, ⟨⟨by kernel_rfl, by kernel_rfl⟩, by kernel_rfl⟩, ⟨⟨by kernel_rfl, by kernel_rfl⟩, by kernel_rfl⟩, ⟨⟨by kernel_rfl, by kernel_rfl⟩, by kernel_rfl⟩, trivial⟩
def an_journal_New : An := .two (.reg (.n 1 .done)) (.two (.reg (.n 4 .done)) (.nil))
def in_journal_New : Shp := ⟨[], []⟩
def out_journal_New : Shp := ⟨[(0, .p 1 [])], [(1, .var 63 (.ag (.cons (.ns) (.cons (.d (.int .i64)) (.cons (.m 2) (.nil)))))), (2, .map (.int .i64) (.int .i64))]⟩
def an_journal_Log_made : An := .two (.reg (.n 1 .done)) (.two (.reg (.n 3 (.nl 5 (.n 2 .done)))) (.nil))
def in_journal_Log_made : Shp := ⟨[(0, .p 5000 [])], [(5000, .var 63 (.ag (.cons (.s 5001) (.cons (.d (.int .i64)) (.cons (.m 5002) (.nil)))))), (5001, .row 5 (.int .u8)), (5002, .map (.int .i64) (.int .i64))]⟩
def out_journal_Log_made : Shp := ⟨[(0, .d .bool)], [(5000, .var 63 (.ag (.cons (.s 1) (.cons (.d (.int .i64)) (.cons (.m 5002) (.nil)))))), (5002, .map (.int .i64) (.int .i64)), (1, .row 5 (.int .u8))]⟩
def an_codec_grown : An := .two (.reg (.n 1 .done)) (.two (.reg (.n 8 .done)) (.two (.reg (.n 3 .done)) (.two (.reg (.n 2 .done)) (.nil))))
def in_codec_grown : Shp := ⟨[(0, .d (.sl (.int .u8))), (1, .d (.int .i64))], []⟩
def out_codec_grown : Shp := ⟨[(0, .s 1)], [(1, .row 5 (.int .u8))]⟩
def an_codec_zigzag : An := .two (.reg (.n 1 .done)) (.two (.reg (.n 8 .done)) (.nil))
def in_codec_zigzag : Shp := ⟨[(0, .d (.int .i64))], []⟩
def out_codec_zigzag : Shp := ⟨[(0, .d (.int .u64))], []⟩
def an_codec_add : An := .two (.reg (.n 1 .done)) (.two (.reg (.n 1 (.call 0 (.n 1 .done)))) (.two (.un (.lp [] [] ⟨[(0, .s 100000), (5, .d (.int .u64))], [(100000, .row 5 (.int .u8))]⟩ [(.x 0, ⟨[(0, .s 100100), (5, .d (.int .u64))], [(100100, .row 5 (.int .u8))]⟩)] (.two (.two (.reg (.n 2 .done)) (.two (.nil) (.nil))) (.un (.two (.reg (.n 7 .done)) (.reg (.n 3 .done))))))) (.two (.reg (.n 6 .done)) (.nil))))
def in_codec_add : Shp := ⟨[(0, .s 5000), (1, .d (.int .i64))], [(5000, .row 5 (.int .u8))]⟩
def out_codec_add : Shp := ⟨[(0, .s 1)], [(1, .row 5 (.int .u8))]⟩
def an_codec_PutNumber : An := .two (.reg (.n 1 .done)) (.two (.reg (.n 1 (.call 0 (.n 1 (.call 1 (.n 1 .done)))))) (.nil))
def in_codec_PutNumber : Shp := ⟨[(0, .d (.sl (.int .u8))), (1, .d (.int .i64))], []⟩
def out_codec_PutNumber : Shp := ⟨[(0, .s 1)], [(1, .row 5 (.int .u8))]⟩
def an_codec_PutText : An := .two (.reg (.n 1 .done)) (.two (.reg (.n 4 (.call 0 (.n 2 (.call 1 (.n 3 .done)))))) (.nil))
def in_codec_PutText : Shp := ⟨[(0, .d (.sl (.int .u8))), (1, .d .str)], []⟩
def out_codec_PutText : Shp := ⟨[(0, .s 1)], [(1, .row 5 (.int .u8))]⟩
def an_codec_PutNumber_2 : An := .two (.reg (.n 1 .done)) (.two (.reg (.n 1 (.call 0 (.n 1 (.call 1 (.n 1 .done)))))) (.nil))
def in_codec_PutNumber_2 : Shp := ⟨[(0, .d (.sl (.int .u8))), (1, .d (.int .i64))], []⟩
def out_codec_PutNumber_2 : Shp := ⟨[(0, .d (.sl (.int .u8)))], []⟩
def an_journal_Encode : An := .two (.reg (.n 2 .done)) (.two (.reg (.n 2 .done)) (.two (.two (.reg (.n 15 .done)) (.un (.lp [1, 19, 20] [1] ⟨[(3, .s 100000), (21, .d (.int .i64))], [(100000, .row 5 (.int .u8))]⟩ [(.x 0, ⟨[(3, .s 100100)], [(100100, .row 5 (.int .u8))]⟩)] (.two (.reg (.n 1 .done)) (.two (.two (.nil) (.nil)) (.two (.un (.two (.reg (.n 3 .done)) (.reg (.n 2 (.call 0 (.n 1 .done)))))) (.reg (.n 2 .done)))))))) (.two (.reg (.n 3 (.call 1 (.n 1 .done)))) (.two (.gh (.fz 13201 (.done)) (.dm 6 [33, 34, 35, 36, 37, 38] [] (.n 3 (.call 2 (.n 2 (.tl (.call 0 (.n 1 .done)))))))) (.nil)))))
def in_journal_Encode : Shp := ⟨[(0, .d tyApiRequest)], []⟩
def out_journal_Encode : Shp := ⟨[(0, .s 1)], [(1, .row 5 (.int .u8))]⟩
def an_frame_Sum : An := .two (.reg (.n 1 .done)) (.two (.reg (.n 1 .done)) (.two (.two (.reg (.n 3 .done)) (.un (.lp [6, 7] [] ⟨[(3, .d (.int .u32)), (8, .d (.int .i64))], []⟩ [(.x 0, ⟨[(3, .d (.int .u32))], []⟩)] (.two (.reg (.n 1 .done)) (.two (.two (.nil) (.nil)) (.two (.un (.two (.reg (.n 3 .done)) (.two (.reg (.n 5 .done)) (.reg (.n 3 .done))))) (.reg (.n 2 .done)))))))) (.two (.reg (.n 2 .done)) (.nil))))
def in_frame_Sum : Shp := ⟨[(0, .d (.sl (.int .u8)))], []⟩
def out_frame_Sum : Shp := ⟨[(0, .d (.int .u32))], []⟩
def an_frame_wrap_v2 : An := .two (.reg (.n 1 .done)) (.two (.reg (.n 1 (.call 0 (.n 1 .done)))) (.two (.reg (.n 3 (.call 1 (.n 2 .done)))) (.two (.reg (.n 15 .done)) (.two (.reg (.n 4 .done)) (.nil)))))
def in_frame_wrap_v2 : Shp := ⟨[(0, .s 5000), (1, .d (.sl (.int .u8)))], [(5000, .row 5 (.int .u8))]⟩
def out_frame_wrap_v2 : Shp := ⟨[(0, .s 1)], [(1, .row 5 (.int .u8))]⟩
def an_frame_Wrap : An := .two (.reg (.n 2 .done)) (.two (.two (.reg (.n 3 .done)) (.two (.two (.reg (.n 2 .done)) (.nil)) (.nil))) (.two (.reg (.n 5 (.call 0 (.n 2 .done)))) (.nil)))
def in_frame_Wrap : Shp := ⟨[(0, .d (.sl (.int .u8)))], []⟩
def out_frame_Wrap : Shp := ⟨[(0, .s 1), (1, .d (.int .i64))], [(1, .row 5 (.int .u8))]⟩
def an_journal_Log_trim : An := .two (.dc 16 [2, 3, 4, 5, 6, 7, 8, 9, 10, 11, 12, 13, 14, 15, 16, 17] [5000, 5002, 5001] [] (.op ⟨.nl 1 .done, [], [], [], [5000]⟩ (.op ⟨.nl 1 .done, [], [], [], [5000]⟩ (.op ⟨.nl 1 .done, [], [5000], [], [5000]⟩ (.op ⟨.nl 1 .done, [], [], [], [5000]⟩ (.op ⟨.nl 1 .done, [], [5000], [], [5001]⟩ (.op ⟨.nl 1 .done, [], [], [], [5000]⟩ (.op ⟨.nl 1 .done, [], [5000], [], [5000]⟩ (.op ⟨.nl 1 .done, [], [], [], [5000]⟩ (.op ⟨.nl 1 .done, [], [5000], [], [5002]⟩ (.op ⟨.nl 1 .done, [], [], [], [5000]⟩ (.op ⟨.nl 1 .done, [], [5000], [], [5000]⟩ (.op ⟨.nl 1 .done, [], [], [], [5000]⟩ (.op ⟨.nl 1 .done, [], [5000], [], [5002]⟩ (.op ⟨.nl 1 .done, [], [5002], [], []⟩ (.op ⟨.nl 1 .done, [], [5002], [], []⟩ (.op ⟨.nl 1 .done, [5001], [], [17], [17]⟩ (.tl (.n 3 .done))))))))))))))))))) (.dr 13 (.n 13 .done) (.n 1 .done))
def in_journal_Log_trim : Shp := ⟨[(0, .p 5000 [])], [(5000, .var 63 (.ag (.cons (.s 5001) (.cons (.d (.int .i64)) (.cons (.m 5002) (.nil)))))), (5001, .row 5 (.int .u8)), (5002, .map (.int .i64) (.int .i64))]⟩
def out_journal_Log_trim : Shp := ⟨[], [(5000, .var 63 (.ag (.cons (.s 1) (.cons (.d (.int .i64)) (.cons (.m 5002) (.nil)))))), (5002, .map (.int .i64) (.int .i64)), (1, .row 5 (.int .u8))]⟩
def an_journal_Log_Append : An := .two (.reg (.n 2 .done)) (.two (.two (.reg (.n 1 (.call 0 (.n 1 .done)))) (.two (.two (.reg (.n 1 .done)) (.nil)) (.nil))) (.two (.reg (.n 1 (.call 1 (.call 2 (.n 5 .done))))) (.two (.two (.reg (.n 2 .done)) (.two (.two (.reg (.n 2 .done)) (.nil)) (.nil))) (.two (.reg (.n 1 (.call 3 (.done)))) (.two (.reg (.n 10 .done)) (.two (.dr 15 (.n 15 .done) (.n 1 .done)) (.two (.reg (.n 1 .done)) (.nil))))))))
def in_journal_Log_Append : Shp := ⟨[(0, .p 5000 []), (1, .d tyApiRequest)], [(5000, .var 63 (.ag (.cons (.s 5001) (.cons (.d (.int .i64)) (.cons (.m 5002) (.nil)))))), (5001, .row 5 (.int .u8)), (5002, .map (.int .i64) (.int .i64))]⟩
def out_journal_Log_Append : Shp := ⟨[(0, .d (.int .i64))], [(5000, .var 63 (.ag (.cons (.s 1) (.cons (.d (.int .i64)) (.cons (.m 5002) (.nil)))))), (5002, .map (.int .i64) (.int .i64)), (1, .row 5 (.int .u8))]⟩
def an_journal_Log_Sync : An := .two (.reg (.n 1 .done)) (.two (.two (.reg (.n 1 (.call 0 (.n 1 .done)))) (.two (.two (.reg (.n 1 .done)) (.nil)) (.nil))) (.two (.reg (.n 1 (.call 1 (.done)))) (.two (.reg (.n 9 .done)) (.two (.reg (.n 6 .done)) (.nil)))))
def in_journal_Log_Sync : Shp := ⟨[(0, .p 5000 [])], [(5000, .var 63 (.ag (.cons (.s 5001) (.cons (.d (.int .i64)) (.cons (.m 5002) (.nil)))))), (5001, .row 5 (.int .u8)), (5002, .map (.int .i64) (.int .i64))]⟩
def out_journal_Log_Sync : Shp := ⟨[(0, .d (.int .i64))], [(5000, .var 63 (.ag (.cons (.s 1) (.cons (.d (.int .i64)) (.cons (.m 5002) (.nil)))))), (5002, .map (.int .i64) (.int .i64)), (1, .row 5 (.int .u8))]⟩
def an_journal_Log_Crash : An := .two (.two (.reg (.n 1 (.call 0 (.n 1 .done)))) (.two (.nil) (.nil))) (.two (.dr 19 (.n 19 .done) (.done)) (.two (.reg (.n 15 .done)) (.two (.reg (.n 6 .done)) (.un (.lp [0, 4] [34, 5000] ⟨[(5, .d (.int .i64))], [(5002, .map (.int .i64) (.int .i64))]⟩ [(.x 0, ⟨[], [(5002, .map (.int .i64) (.int .i64))]⟩)] (.two (.two (.reg (.n 12 .done)) (.two (.nil) (.nil))) (.two (.un (.reg (.n 6 .done))) (.reg (.n 3 .done)))))))))
def in_journal_Log_Crash : Shp := ⟨[(0, .p 5000 []), (1, .d (.int .i64))], [(5000, .var 63 (.ag (.cons (.s 5001) (.cons (.d (.int .i64)) (.cons (.m 5002) (.nil)))))), (5001, .row 5 (.int .u8)), (5002, .map (.int .i64) (.int .i64))]⟩
def out_journal_Log_Crash : Shp := ⟨[], [(5000, .var 63 (.ag (.cons (.s 1) (.cons (.d (.int .i64)) (.cons (.m 5002) (.nil)))))), (5002, .map (.int .i64) (.int .i64)), (1, .row 5 (.int .u8))]⟩
def an_journal_Log_Bytes : An := .two (.reg (.n 1 .done)) (.two (.two (.reg (.n 1 (.call 0 (.n 1 .done)))) (.two (.two (.reg (.n 1 .done)) (.nil)) (.nil))) (.two (.reg (.n 4 (.call 1 (.n 1 .done)))) (.nil)))
def in_journal_Log_Bytes : Shp := ⟨[(0, .p 5000 [])], [(5000, .var 63 (.ag (.cons (.s 5001) (.cons (.d (.int .i64)) (.cons (.m 5002) (.nil)))))), (5001, .row 5 (.int .u8)), (5002, .map (.int .i64) (.int .i64))]⟩
def out_journal_Log_Bytes : Shp := ⟨[(0, .s 1)], [(5000, .var 63 (.ag (.cons (.s 2) (.cons (.d (.int .i64)) (.cons (.m 5002) (.nil)))))), (5002, .map (.int .i64) (.int .i64)), (1, .row 5 (.int .u8)), (2, .row 5 (.int .u8))]⟩
def an_online_copyBook : An := .two (.reg (.n 2 .done)) (.two (.dm 10 [8, 9, 10, 11, 12, 13, 14, 15, 16, 17] [] (.n 2 (.call 0 (.n 2 (.call 1 (.n 2 (.call 2 (.n 1 (.tl (.n 5 .done)))))))))) (.two (.dm 10 [20, 21, 22, 23, 24, 25, 26, 27, 28, 29] [] (.n 2 (.call 3 (.n 2 (.call 4 (.n 2 (.call 5 (.n 1 (.tl (.n 5 .done)))))))))) (.two (.two (.reg (.n 4 .done)) (.un (.lp [1, 2, 34, 35] [1, 2] ⟨[], []⟩ [(.x 0, ⟨[], []⟩)] (.two (.reg (.n 1 .done)) (.two (.two (.gh (.tl .done) .nil) (.nil)) (.nil)))))) (.two (.two (.reg (.n 4 .done)) (.un (.lp [1, 2, 51, 52] [1, 2] ⟨[], []⟩ [(.x 2, ⟨[], []⟩)] (.two (.reg (.n 1 .done)) (.two (.two (.gh (.tl .done) .nil) (.nil)) (.nil)))))) (.two (.two (.reg (.n 4 .done)) (.un (.lp [1, 2, 87, 88] [1, 2] ⟨[], []⟩ [(.x 6, ⟨[], []⟩)] (.two (.reg (.n 1 .done)) (.two (.two (.gh (.tl .done) .nil) (.nil)) (.nil)))))) (.two (.reg (.n 2 .done)) (.nil)))))))
def in_online_copyBook : Shp := ⟨[(0, .d tyApiBook)], []⟩
def out_online_copyBook : Shp := ⟨[(0, .d tyApiBook)], []⟩
def an_online_copyState : An := .two (.reg (.n 2 .done)) (.two (.dm 11 [5, 6, 7, 8, 9, 10, 11, 12, 13, 14, 3] [] (.n 2 (.call 0 (.n 2 (.call 1 (.n 2 (.call 2 (.n 2 (.tl (.n 1 .done)))))))))) (.two (.two (.reg (.n 4 .done)) (.un (.lp [2, 3, 17, 18] [1, 2, 3] ⟨[], []⟩ [(.x 0, ⟨[], []⟩)] (.two (.reg (.n 1 .done)) (.two (.two (.gh (.tl .done) .nil) (.nil)) (.nil)))))) (.two (.reg (.n 2 .done)) (.nil))))
def in_online_copyState : Shp := ⟨[(0, .d tyApiState)], []⟩
def out_online_copyState : Shp := ⟨[(0, .d tyApiState)], []⟩
def an_online_New : An := .two (.reg (.n 3 .done)) (.two (.dc 5 [5, 6, 7, 8, 9] [2, 3] [] (.op ⟨.nl 1 .done, [], [2], [], []⟩ (.op ⟨.call 0 (.done), [], [], [], []⟩ (.op ⟨.nl 1 .done, [], [3], [], []⟩ (.op ⟨.call 1 (.done), [], [], [], []⟩ (.op ⟨.nl 1 .done, [], [], [9], [9]⟩ (.tl (.n 3 .done)))))))) (.nil))
def in_online_New : Shp := ⟨[(0, .d tyApiBook), (1, .d tyApiState)], []⟩
def out_online_New : Shp := ⟨[(0, .p 1 [])], [(1, .var 94 (.ag (.cons (.d tyApiBook) (.cons (.d tyApiState) (.cons (.m 2) (.nil)))))), (2, .map (.int .i64) tyApiSession)]⟩
def an_codec_back : An := .two (.reg (.n 1 .done)) (.two (.reg (.n 9 .done)) (.nil))
def in_codec_back : Shp := ⟨[(0, .d (.int .u64))], []⟩
def out_codec_back : Shp := ⟨[(0, .d (.int .i64))], []⟩
def an_codec_scan : An := .two (.reg (.n 3 .done)) (.two (.reg (.n 1 .done)) (.two (.two (.reg (.n 1 .done)) (.un (.lp [0] [] ⟨[(5, .d (.int .u64)), (6, .d (.int .i64))], []⟩ [(.x 0, ⟨[], []⟩), (.r, ⟨[(2, .d (.int .i64)), (3, .d (.int .i64)), (4, .d (.int .i64))], []⟩)] (.two (.two (.reg (.n 4 .done)) (.two (.nil) (.nil))) (.two (.un (.two (.reg (.n 5 .done)) (.two (.two (.reg (.n 14 .done)) (.two (.two (.reg (.n 3 .done)) (.nil)) (.nil))) (.two (.reg (.n 9 .done)) (.two (.reg (.n 2 .done)) (.two (.two (.reg (.n 1 (.call 0 (.n 5 .done)))) (.nil)) (.nil))))))) (.reg (.n 3 .done))))))) (.two (.reg (.n 3 .done)) (.nil))))
def in_codec_scan : Shp := ⟨[(0, .d (.sl (.int .u8)))], []⟩
def out_codec_scan : Shp := ⟨[(0, .d (.int .i64)), (1, .d (.int .i64)), (2, .d (.int .i64))], []⟩
def an_codec_rest : An := .two (.reg (.n 1 .done)) (.two (.reg (.n 6 .done)) (.two (.reg (.n 9 .done)) (.two (.reg (.n 2 .done)) (.nil))))
def in_codec_rest : Shp := ⟨[(0, .d (.sl (.int .u8))), (1, .d (.int .i64))], []⟩
def out_codec_rest : Shp := ⟨[(0, .s 1)], [(1, .row 5 (.int .u8))]⟩
def an_codec_Number : An := .two (.reg (.n 3 .done)) (.two (.reg (.n 1 (.call 0 (.n 7 .done)))) (.two (.two (.reg (.n 2 .done)) (.two (.two (.reg (.n 4 .done)) (.nil)) (.nil))) (.two (.reg (.n 3 (.call 1 (.n 3 .done)))) (.nil))))
def in_codec_Number : Shp := ⟨[(0, .d (.sl (.int .u8)))], []⟩
def out_codec_Number : Shp := ⟨[(0, .d (.int .i64)), (1, .s 1), (2, .d (.int .i64))], [(1, .row 5 (.int .u8))]⟩
def an_frame_locate : An := .two (.reg (.n 3 .done)) (.two (.reg (.n 9 .done)) (.two (.reg (.n 1 (.call 0 (.n 7 .done)))) (.two (.un (.two (.reg (.n 3 .done)) (.two (.gh (.tl .done) .nil) (.two (.reg (.n 3 .done)) (.two (.gh (.tl .done) .nil) (.two (.reg (.n 3 .done)) (.two (.gh (.tl .done) .nil) (.nil)))))))) (.two (.reg (.n 6 .done)) (.two (.two (.reg (.n 7 .done)) (.two (.two (.reg (.n 3 .done)) (.nil)) (.nil))) (.two (.dr 30 (.n 30 .done) (.done)) (.two (.two (.reg (.n 8 (.call 1 (.n 2 .done)))) (.two (.gh (.tl .done) .nil) (.nil))) (.two (.reg (.n 9 .done)) (.nil)))))))))
def in_frame_locate : Shp := ⟨[(0, .d (.sl (.int .u8)))], []⟩
def out_frame_locate : Shp := ⟨[(0, .d (.int .i64)), (1, .d (.int .i64)), (2, .d (.int .i64))], []⟩
def an_frame_copied : An := .two (.reg (.n 1 .done)) (.two (.reg (.n 5 .done)) (.two (.reg (.n 7 .done)) (.two (.reg (.n 2 .done)) (.nil))))
def in_frame_copied : Shp := ⟨[(0, .d (.sl (.int .u8))), (1, .d (.int .i64)), (2, .d (.int .i64))], []⟩
def out_frame_copied : Shp := ⟨[(0, .s 1)], [(1, .row 5 (.int .u8))]⟩
def an_frame_All : An := .two (.reg (.n 2 .done)) (.two (.reg (.n 1 .done)) (.two (.reg (.n 1 .done)) (.two (.un (.lp [0] [] ⟨[(4, .s 100000), (5, .d (.int .i64))], [(100000, .row 43 (.sl (.int .u8)))]⟩ [(.x 0, ⟨[(4, .s 100100), (5, .d (.int .i64))], [(100100, .row 43 (.sl (.int .u8)))]⟩)] (.two (.two (.reg (.n 4 .done)) (.two (.nil) (.gh (.tl .done) .nil))) (.un (.two (.reg (.n 3 (.call 0 (.n 7 .done)))) (.two (.two (.reg (.n 2 .done)) (.two (.nil) (.nil))) (.two (.reg (.n 8 (.call 1 (.fz 13101 (.n 3 .done))))) (.reg (.n 4 .done))))))))) (.two (.reg (.n 4 .done)) (.nil)))))
def in_frame_All : Shp := ⟨[(0, .d (.sl (.int .u8)))], []⟩
def out_frame_All : Shp := ⟨[(0, .s 1), (1, .d (.int .i64))], [(1, .row 43 (.sl (.int .u8)))]⟩
def an_journal_reader_number : An := .two (.reg (.n 1 .done)) (.two (.two (.reg (.n 5 .done)) (.two (.two (.reg (.n 1 .done)) (.nil)) (.nil))) (.two (.reg (.n 4 (.call 0 (.n 7 .done)))) (.two (.reg (.n 10 .done)) (.two (.reg (.n 2 .done)) (.nil)))))
def in_journal_reader_number : Shp := ⟨[(0, .p 5000 [])], [(5000, .var 120 (.d tyJournalReader))]⟩
def out_journal_reader_number : Shp := ⟨[(0, .d (.int .i64))], [(5000, .var 120 (.ag (.cons (.d (.sl (.int .u8))) (.cons (.d (.int .i64)) (.nil)))))]⟩
def an_codec_length : An := .two (.reg (.n 3 .done)) (.two (.reg (.n 1 (.call 0 (.n 7 .done)))) (.two (.un (.two (.reg (.n 3 .done)) (.two (.two (.reg (.n 4 .done)) (.nil)) (.two (.reg (.n 3 .done)) (.two (.two (.reg (.n 3 .done)) (.nil)) (.two (.reg (.n 3 .done)) (.two (.two (.reg (.n 3 .done)) (.nil)) (.nil)))))))) (.two (.reg (.n 5 .done)) (.nil))))
def in_codec_length : Shp := ⟨[(0, .d (.sl (.int .u8)))], []⟩
def out_codec_length : Shp := ⟨[(0, .d (.int .i64)), (1, .d (.int .i64)), (2, .d (.int .i64))], []⟩
def an_codec_rest_2 : An := .two (.reg (.n 1 .done)) (.two (.reg (.n 6 .done)) (.two (.reg (.n 9 .done)) (.two (.reg (.n 2 .done)) (.nil))))
def in_codec_rest_2 : Shp := ⟨[(0, .d (.sl (.int .u8))), (1, .d (.int .i64))], []⟩
def out_codec_rest_2 : Shp := ⟨[(0, .d (.sl (.int .u8)))], []⟩
def an_codec_Text : An := .two (.reg (.n 3 .done)) (.two (.reg (.n 1 (.call 0 (.n 7 .done)))) (.two (.two (.reg (.n 2 .done)) (.two (.two (.reg (.n 4 .done)) (.nil)) (.nil))) (.two (.two (.reg (.n 6 .done)) (.two (.two (.reg (.n 3 .done)) (.nil)) (.nil))) (.two (.dm 12 [23, 24, 25, 26, 27, 28, 29, 30, 31, 32, 33, 34] [] (.n 11 (.call 1 (.tl (.n 3 .done))))) (.nil)))))
def in_codec_Text : Shp := ⟨[(0, .d (.sl (.int .u8)))], []⟩
def out_codec_Text : Shp := ⟨[(0, .d .str), (1, .d (.sl (.int .u8))), (2, .d (.int .i64))], []⟩
def an_journal_reader_text : An := .two (.reg (.n 1 .done)) (.two (.two (.reg (.n 5 .done)) (.two (.two (.reg (.n 1 .done)) (.nil)) (.nil))) (.two (.reg (.n 4 (.call 0 (.n 7 .done)))) (.two (.reg (.n 10 .done)) (.two (.reg (.n 2 .done)) (.nil)))))
def in_journal_reader_text : Shp := ⟨[(0, .p 5000 [])], [(5000, .var 120 (.d tyJournalReader))]⟩
def out_journal_reader_text : Shp := ⟨[(0, .d .str)], [(5000, .var 120 (.d tyJournalReader))]⟩
def an_journal_Decode : An := .two (.reg (.n 2 .done)) (.two (.reg (.n 4 .done)) (.two (.reg (.n 1 .done)) (.two (.reg (.call 0 (.call 0 (.call 0 (.n 6 .done))))) (.two (.reg (.call 0 (.call 0 (.call 0 (.n 6 .done))))) (.two (.reg (.call 1 (.n 2 .done))) (.two (.reg (.call 0 (.call 0 (.n 4 .done)))) (.two (.un (.two (.reg (.n 4 .done)) (.two (.two (.dm 4 [30, 31, 32, 1000000003] [2] (.n 4 (.tl (.n 1 .done)))) (.nil)) (.two (.reg (.n 5 .done)) (.two (.two (.reg (.n 3 .done)) (.nil)) (.nil)))))) (.two (.reg (.n 3 .done)) (.nil)))))))))
def in_journal_Decode : Shp := ⟨[(0, .d (.sl (.int .u8)))], []⟩
def out_journal_Decode : Shp := ⟨[(0, .d tyApiRequest), (1, .d (.int .i64))], []⟩
def an_online_Server_made : An := .two (.reg (.n 1 .done)) (.two (.reg (.n 3 (.nl 5 (.n 2 .done)))) (.nil))
def in_online_Server_made : Shp := ⟨[(0, .p 5000 [])], [(5000, .var 94 (.ag (.cons (.d tyApiBook) (.cons (.d tyApiState) (.cons (.m 5001) (.nil)))))), (5001, .map (.int .i64) tyApiSession)]⟩
def out_online_Server_made : Shp := ⟨[(0, .d .bool)], [(5000, .var 94 (.ag (.cons (.d tyApiBook) (.cons (.d tyApiState) (.cons (.m 5001) (.nil)))))), (5001, .map (.int .i64) tyApiSession)]⟩
def an_online_refusal : An := .two (.reg (.n 2 .done)) (.two (.reg (.n 7 .done)) (.nil))
def in_online_refusal : Shp := ⟨[(0, .d tyApiRequest), (1, .d (.int .i64))], []⟩
def out_online_refusal : Shp := ⟨[(0, .d tyApiAnswer)], []⟩
def an_online_Server_Do : An := .two (.reg (.n 2 .done)) (.two (.two (.reg (.n 1 (.call 0 (.n 1 .done)))) (.two (.gh (.tl .done) .nil) (.nil))) (.two (.two (.reg (.n 8 .done)) (.two (.two (.reg (.n 1 (.call 1 (.n 1 .done)))) (.nil)) (.gh (.tl .done) .nil))) (.nil)))
def in_online_Server_Do : Shp := ⟨[(0, .p 5000 []), (1, .d tyApiRequest)], [(5000, .var 94 (.ag (.cons (.d tyApiBook) (.cons (.d tyApiState) (.cons (.m 5001) (.nil)))))), (5001, .map (.int .i64) tyApiSession)]⟩
def out_online_Server_Do : Shp := ⟨[(0, .d tyApiAnswer)], [(5000, .var 94 (.ag (.cons (.d tyApiBook) (.cons (.d tyApiState) (.cons (.m 5001) (.nil)))))), (5001, .map (.int .i64) tyApiSession)]⟩
def an_journal_Recover : An := .two (.reg (.n 4 .done)) (.two (.reg (.n 2 (.call 0 (.n 2 .done)))) (.two (.reg (.n 1 (.call 1 (.n 5 .done)))) (.two (.two (.reg (.n 3 .done)) (.un (.lp [24, 25] [3, 4, 12101] ⟨[(8, .p 100000 []), (9, .d (.int .i64)), (26, .d (.int .i64))], [(100000, .var 94 (.ag (.cons (.d tyApiBook) (.cons (.d tyApiState) (.cons (.m 100001) (.nil)))))), (100001, .map (.int .i64) tyApiSession)]⟩ [(.x 0, ⟨[(8, .p 100100 []), (9, .d (.int .i64))], [(100100, .var 94 (.ag (.cons (.d tyApiBook) (.cons (.d tyApiState) (.cons (.m 100101) (.nil)))))), (100101, .map (.int .i64) tyApiSession)]⟩)] (.two (.reg (.n 1 .done)) (.two (.two (.nil) (.nil)) (.two (.un (.two (.reg (.n 3 .done)) (.two (.reg (.n 1 (.call 2 (.n 6 .done)))) (.two (.two (.reg (.n 2 .done)) (.two (.gh (.tl .done) .nil) (.nil))) (.two (.reg (.n 2 (.call 3 (.done)))) (.reg (.n 3 .done))))))) (.reg (.n 2 .done)))))))) (.two (.reg (.n 4 .done)) (.nil)))))
def in_journal_Recover : Shp := ⟨[(0, .d tyApiBook), (1, .d tyApiState), (2, .d (.sl (.int .u8)))], []⟩
def out_journal_Recover : Shp := ⟨[(0, .p 1 []), (1, .d (.int .i64))], [(1, .var 94 (.ag (.cons (.d tyApiBook) (.cons (.d tyApiState) (.cons (.m 2) (.nil)))))), (2, .map (.int .i64) tyApiSession)]⟩
def an_billinglaw42_alive : An := .two (.reg (.n 1 .done)) (.two (.reg (.call 0 (.n 1 .done))) (.two (.two (.reg (.n 2 .done)) (.two (.gh (.tl .done) .nil) (.nil))) (.two (.reg (.n 2 (.call 1 (.n 2 (.call 1 (.n 2 .done)))))) (.two (.reg (.n 1 (.call 2 (.n 1 .done)))) (.two (.reg (.n 2 (.call 1 (.n 1 .done)))) (.two (.reg (.n 1 (.call 3 (.done)))) (.two (.reg (.n 3 (.call 4 (.call 5 (.n 5 .done))))) (.two (.reg (.n 1 (.call 4 (.n 2 .done)))) (.two (.reg (.n 2 (.call 1 (.n 1 .done)))) (.two (.reg (.n 27 (.sp 66 5 [1] [13001, 13101, 13102, 13501] ⟨[(71, .d .bool)], [(11001, .var 63 (.ag (.cons (.s 100001) (.cons (.d (.int .i64)) (.cons (.m 100002) (.nil)))))), (100001, .row 5 (.int .u8)), (100002, .map (.int .i64) (.int .i64))]⟩ (.nl 1 (.call 4 (.nl 2 (.n 1 .done)))) (.nl 4 (.n 1 .done)) (.n 1 (.sp 72 5 [] [11001, 13001, 13101, 13102, 13501, 100001, 100002] ⟨[(77, .d .bool)], []⟩ (.nl 1 (.call 6 (.nl 2 (.n 1 .done)))) (.nl 4 (.n 1 .done)) (.n 1 .done)))))) (.nil)))))))))))
def in_billinglaw42_alive : Shp := ⟨[], []⟩
def out_billinglaw42_alive : Shp := ⟨[(0, .d .bool)], []⟩
def an_billingref07_join : An := .two (.reg (.n 1 .done)) (.two (.reg (.n 4 .done)) (.two (.reg (.n 4 .done)) (.nil)))
def in_billingref07_join : Shp := ⟨[(0, .d (.sl (.int .u8))), (1, .d (.sl (.int .u8)))], []⟩
def out_billingref07_join : Shp := ⟨[(0, .s 1)], [(1, .row 5 (.int .u8))]⟩
def an_billingref07_Number : An := .two (.reg (.n 3 .done)) (.two (.reg (.n 2 .done)) (.two (.two (.reg (.n 1 .done)) (.un (.lp [0] [] ⟨[(5, .d (.int .u64)), (6, .d (.int .u64)), (7, .d (.int .i64))], []⟩ [(.x 0, ⟨[], []⟩), (.r, ⟨[(2, .d (.int .i64)), (3, .s 100200), (4, .d (.int .i64))], [(100200, .row 5 (.int .u8))]⟩)] (.two (.two (.reg (.n 2 .done)) (.two (.nil) (.nil))) (.two (.un (.two (.two (.reg (.n 4 .done)) (.two (.two (.reg (.n 3 .done)) (.nil)) (.nil))) (.two (.reg (.n 6 .done)) (.two (.two (.reg (.n 14 .done)) (.two (.two (.reg (.n 3 .done)) (.nil)) (.nil))) (.two (.reg (.n 7 .done)) (.two (.reg (.n 3 .done)) (.two (.two (.reg (.n 2 .done)) (.two (.nil) (.nil))) (.two (.reg (.n 4 (.call 0 (.n 1 .done)))) (.two (.two (.reg (.n 3 .done)) (.two (.two (.reg (.n 9 .done)) (.nil)) (.nil))) (.two (.reg (.n 7 .done)) (.nil))))))))))) (.reg (.n 3 .done))))))) (.two (.reg (.n 3 .done)) (.nil))))
def in_billingref07_Number : Shp := ⟨[(0, .d (.sl (.int .u8)))], []⟩
def out_billingref07_Number : Shp := ⟨[(0, .d (.int .i64)), (1, .s 1), (2, .d (.int .i64))], [(1, .row 5 (.int .u8))]⟩
def an_billingref07_Bytes : An := .two (.reg (.n 1 .done)) (.two (.reg (.n 4 .done)) (.two (.jn [] [] [(.n, ⟨[(3, .d (.int .u64))], []⟩)] (.two (.reg (.n 2 .done)) (.two (.reg (.n 7 .done)) (.nil)))) (.two (.reg (.n 1 .done)) (.two (.un (.lp [] [] ⟨[(3, .d (.int .u64)), (4, .s 100100)], [(100100, .row 5 (.int .u8))]⟩ [(.x 0, ⟨[(3, .d (.int .u64)), (4, .s 100200)], [(100200, .row 5 (.int .u8))]⟩)] (.two (.two (.reg (.n 2 .done)) (.two (.nil) (.nil))) (.un (.two (.reg (.n 8 .done)) (.reg (.n 3 .done))))))) (.two (.reg (.n 6 .done)) (.nil))))))
def in_billingref07_Bytes : Shp := ⟨[(0, .d (.int .i64))], []⟩
def out_billingref07_Bytes : Shp := ⟨[(0, .s 1)], [(1, .row 5 (.int .u8))]⟩
def an_billingref07_PutNumber : An := .two (.reg (.n 1 .done)) (.two (.reg (.n 2 (.call 0 (.call 1 (.n 1 .done))))) (.nil))
def in_billingref07_PutNumber : Shp := ⟨[(0, .d (.sl (.int .u8))), (1, .d (.int .i64))], []⟩
def out_billingref07_PutNumber : Shp := ⟨[(0, .s 1)], [(1, .row 5 (.int .u8))]⟩
def an_billingref07_PutText : An := .two (.reg (.n 1 .done)) (.two (.reg (.n 3 (.call 0 (.n 2 (.call 1 (.n 1 .done)))))) (.nil))
def in_billingref07_PutText : Shp := ⟨[(0, .d (.sl (.int .u8))), (1, .d .str)], []⟩
def out_billingref07_PutText : Shp := ⟨[(0, .s 1)], [(1, .row 5 (.int .u8))]⟩
def an_billingref07_Same : An := .two (.reg (.n 1 .done)) (.two (.reg (.n 6 .done)) (.nil))
def in_billingref07_Same : Shp := ⟨[(0, .d (.sl (.int .u8))), (1, .d (.sl (.int .u8)))], []⟩
def out_billingref07_Same : Shp := ⟨[(0, .d .bool)], []⟩
def an_billingref42_New : An := .two (.reg (.n 1 .done)) (.two (.reg (.n 3 .done)) (.nil))
def in_billingref42_New : Shp := ⟨[], []⟩
def out_billingref42_New : Shp := ⟨[(0, .p 1 [])], [(1, .var 128 (.ag (.cons (.ns) (.cons (.d (.int .i64)) (.nil)))))]⟩
def an_billingref42_Encode_2 : An := .two (.reg (.n 2 .done)) (.two (.reg (.n 2 (.call 0 (.n 1 .done)))) (.two (.reg (.n 3 (.call 0 (.n 1 .done)))) (.two (.reg (.n 3 (.call 0 (.n 1 .done)))) (.two (.reg (.n 3 (.call 0 (.n 1 .done)))) (.two (.reg (.n 3 (.call 0 (.n 1 .done)))) (.two (.reg (.n 3 (.call 0 (.n 1 .done)))) (.two (.reg (.n 3 (.call 1 (.n 1 .done)))) (.two (.reg (.n 3 (.call 0 (.n 1 .done)))) (.two (.reg (.n 3 (.call 0 (.n 1 .done)))) (.nil))))))))))
def in_billingref42_Encode_2 : Shp := ⟨[(0, .d tyApiRequest)], []⟩
def out_billingref42_Encode_2 : Shp := ⟨[(0, .s 1)], [(1, .row 5 (.int .u8))]⟩
def an_billingref08_Sum : An := .two (.reg (.n 1 .done)) (.two (.reg (.n 1 .done)) (.two (.two (.reg (.n 1 .done)) (.un (.lp [0] [] ⟨[(3, .d (.int .u32)), (4, .d (.int .i64))], []⟩ [(.x 0, ⟨[(3, .d (.int .u32))], []⟩)] (.two (.two (.reg (.n 4 .done)) (.two (.nil) (.nil))) (.two (.un (.reg (.n 9 .done))) (.reg (.n 3 .done))))))) (.two (.reg (.n 2 .done)) (.nil))))
def in_billingref08_Sum : Shp := ⟨[(0, .d (.sl (.int .u8)))], []⟩
def out_billingref08_Sum : Shp := ⟨[(0, .d (.int .u32))], []⟩
def an_billingref08_Wrap : An := .two (.reg (.n 2 .done)) (.two (.two (.reg (.n 3 .done)) (.two (.two (.reg (.n 2 .done)) (.nil)) (.nil))) (.two (.reg (.n 1 (.call 0 (.n 1 .done)))) (.two (.reg (.n 2 (.call 1 (.n 1 .done)))) (.two (.reg (.n 15 .done)) (.two (.reg (.n 5 .done)) (.nil))))))
def in_billingref08_Wrap : Shp := ⟨[(0, .d (.sl (.int .u8)))], []⟩
def out_billingref08_Wrap : Shp := ⟨[(0, .s 1), (1, .d (.int .i64))], [(1, .row 5 (.int .u8))]⟩
def an_billingref08_Unwrap : An := .two (.reg (.n 3 .done)) (.two (.reg (.n 1 (.call 0 (.n 7 .done)))) (.two (.un (.two (.reg (.n 3 .done)) (.two (.two (.reg (.n 4 .done)) (.nil)) (.two (.reg (.n 3 .done)) (.two (.two (.reg (.n 3 .done)) (.nil)) (.two (.reg (.n 3 .done)) (.two (.two (.reg (.n 3 .done)) (.nil)) (.two (.reg (.n 6 .done)) (.two (.two (.reg (.n 3 .done)) (.nil)) (.nil)))))))))) (.two (.reg (.n 4 (.fz 11201 (.n 3 .done)))) (.two (.dr 23 (.n 23 .done) (.done)) (.two (.two (.reg (.n 1 (.call 1 (.n 2 .done)))) (.two (.two (.reg (.n 3 .done)) (.nil)) (.nil))) (.two (.reg (.n 10 .done)) (.nil)))))))
def in_billingref08_Unwrap : Shp := ⟨[(0, .d (.sl (.int .u8)))], []⟩
def out_billingref08_Unwrap : Shp := ⟨[(0, .s 1), (1, .s 2), (2, .d (.int .i64))], [(1, .tail 5 (.int .u8)), (2, .row 5 (.int .u8))]⟩
def an_billingref08_All_2 : An := .two (.reg (.n 2 .done)) (.two (.reg (.n 1 .done)) (.two (.reg (.n 4 .done)) (.two (.un (.lp [0] [5000] ⟨[(4, .s 100000), (5, .s 100001)], [(100000, .row 43 (.sl (.int .u8))), (100001, .row 5 (.int .u8))]⟩ [(.x 0, ⟨[(4, .s 100100), (5, .s 100101)], [(100100, .row 43 (.sl (.int .u8))), (100101, .tail 5 (.int .u8))]⟩)] (.two (.two (.reg (.n 3 .done)) (.two (.nil) (.nil))) (.un (.two (.reg (.n 1 (.call 0 (.n 7 .done)))) (.two (.two (.reg (.n 2 .done)) (.two (.nil) (.nil))) (.two (.reg (.n 5 .done)) (.reg (.n 2 .done))))))))) (.two (.reg (.n 8 .done)) (.nil)))))
def in_billingref08_All_2 : Shp := ⟨[(0, .s 5000)], [(5000, .row 5 (.int .u8))]⟩
def out_billingref08_All_2 : Shp := ⟨[(0, .s 1), (1, .d (.int .i64))], [(5000, .row 5 (.int .u8)), (1, .row 43 (.sl (.int .u8)))]⟩
def an_billingref42_Log_trim : An := .two (.reg (.n 1 .done)) (.two (.reg (.n 4 (.call 0 (.n 5 .done)))) (.two (.reg (.n 11 .done)) (.two (.reg (.n 10 .done)) (.two (.reg (.n 3 .done)) (.nil)))))
def in_billingref42_Log_trim : Shp := ⟨[(0, .p 5000 [])], [(5000, .var 128 (.ag (.cons (.s 5001) (.cons (.d (.int .i64)) (.nil))))), (5001, .row 5 (.int .u8))]⟩
def out_billingref42_Log_trim : Shp := ⟨[(0, .d (.int .i64))], [(5000, .var 128 (.ag (.cons (.s 1) (.cons (.d (.int .i64)) (.nil))))), (1, .row 5 (.int .u8))]⟩
def an_billingref42_Log_Append : An := .two (.reg (.n 2 .done)) (.two (.reg (.n 1 (.call 0 (.call 1 (.n 5 .done))))) (.two (.two (.reg (.n 2 .done)) (.two (.two (.reg (.n 2 .done)) (.nil)) (.nil))) (.two (.reg (.n 1 (.call 2 (.done)))) (.two (.reg (.n 10 .done)) (.two (.reg (.n 1 .done)) (.nil))))))
def in_billingref42_Log_Append : Shp := ⟨[(0, .p 5000 []), (1, .d tyApiRequest)], [(5000, .var 128 (.ag (.cons (.s 5001) (.cons (.d (.int .i64)) (.nil))))), (5001, .row 5 (.int .u8))]⟩
def out_billingref42_Log_Append : Shp := ⟨[(0, .d (.int .i64))], [(5000, .var 128 (.ag (.cons (.s 1) (.cons (.d (.int .i64)) (.nil))))), (1, .row 5 (.int .u8))]⟩
def an_billingref42_Log_Sync : An := .two (.reg (.n 1 .done)) (.two (.reg (.n 1 (.call 0 (.n 1 .done)))) (.two (.reg (.n 9 .done)) (.two (.reg (.n 2 .done)) (.nil))))
def in_billingref42_Log_Sync : Shp := ⟨[(0, .p 5000 [])], [(5000, .var 128 (.ag (.cons (.s 5001) (.cons (.d (.int .i64)) (.nil))))), (5001, .row 5 (.int .u8))]⟩
def out_billingref42_Log_Sync : Shp := ⟨[(0, .d (.int .i64))], [(5000, .var 128 (.ag (.cons (.s 1) (.cons (.d (.int .i64)) (.nil))))), (1, .row 5 (.int .u8))]⟩
def an_billingref42_Log_Crash : An := .two (.dr 19 (.n 19 .done) (.done)) (.two (.reg (.n 11 .done)) (.reg (.n 5 .done)))
def in_billingref42_Log_Crash : Shp := ⟨[(0, .p 5000 []), (1, .d (.int .i64))], [(5000, .var 128 (.ag (.cons (.s 5001) (.cons (.d (.int .i64)) (.nil))))), (5001, .row 5 (.int .u8))]⟩
def out_billingref42_Log_Crash : Shp := ⟨[], [(5000, .var 128 (.ag (.cons (.s 1) (.cons (.d (.int .i64)) (.nil))))), (1, .row 5 (.int .u8))]⟩
def an_billingref42_Log_Bytes : An := .two (.reg (.n 1 .done)) (.two (.reg (.n 7 .done)) (.nil))
def in_billingref42_Log_Bytes : Shp := ⟨[(0, .p 5000 [])], [(5000, .var 128 (.ag (.cons (.s 5001) (.cons (.d (.int .i64)) (.nil))))), (5001, .row 5 (.int .u8))]⟩
def out_billingref42_Log_Bytes : Shp := ⟨[(0, .s 1)], [(5000, .var 128 (.ag (.cons (.s 2) (.cons (.d (.int .i64)) (.nil))))), (1, .row 5 (.int .u8)), (2, .row 5 (.int .u8))]⟩
def an_billinglaw42_JournalLogs : An := .two (.reg (.n 1 .done)) (.two (.two (.reg (.n 3 .done)) (.two (.two (.reg (.call 0 (.n 1 .done))) (.nil)) (.nil))) (.two (.reg (.call 1 (.call 2 (.n 2 .done)))) (.two (.two (.reg (.n 2 .done)) (.two (.two (.reg (.n 1 .done)) (.nil)) (.nil))) (.two (.two (.reg (.n 1 .done)) (.un (.lp [0] [] ⟨[(3, .p 100000 []), (4, .p 100001 []), (5, .d (.int .i64))], [(100000, .var 63 (.ag (.cons (.s 100002) (.cons (.d (.int .i64)) (.cons (.m 100003) (.nil)))))), (100001, .var 128 (.ag (.cons (.s 100004) (.cons (.d (.int .i64)) (.nil))))), (100002, .row 5 (.int .u8)), (100003, .map (.int .i64) (.int .i64)), (100004, .row 5 (.int .u8))]⟩ [(.x 0, ⟨[], []⟩), (.r, ⟨[(2, .d .bool)], []⟩)] (.two (.two (.reg (.n 4 .done)) (.two (.nil) (.nil))) (.two (.un (.two (.reg (.n 6 .done)) (.two (.two (.reg (.n 5 .done)) (.two (.two (.reg (.call 0 (.n 1 .done))) (.nil)) (.nil))) (.two (.jn [5] [6] [(.n, ⟨[(3, .p 100200 []), (4, .p 100201 [])], [(100200, .var 63 (.ag (.cons (.s 100202) (.cons (.d (.int .i64)) (.cons (.m 100203) (.nil)))))), (100201, .var 128 (.ag (.cons (.s 100204) (.cons (.d (.int .i64)) (.nil))))), (100202, .row 5 (.int .u8)), (100203, .map (.int .i64) (.int .i64)), (100204, .row 5 (.int .u8))]⟩), (.r, ⟨[(2, .d .bool)], []⟩)] (.two (.reg (.n 2 .done)) (.un (.two (.reg (.n 2 .done)) (.two (.two (.dc 7 [35, 36, 37, 38, 39, 40, 41] [100000, 100002, 100003] [6] (.op ⟨.nl 1 .done, [], [], [], [100000]⟩ (.op ⟨.nl 1 .done, [], [], [], [6]⟩ (.op ⟨.nl 1 .done, [], [6], [], []⟩ (.op ⟨.call 3 (.done), [100000, 100002, 100003], [], [13801], [13801, 100000, 100003]⟩ (.op ⟨.nl 1 .done, [], [], [], [100001]⟩ (.op ⟨.nl 1 .done, [], [], [], [6]⟩ (.op ⟨.nl 1 .done, [], [6], [], []⟩ (.tl (.call 4 (.n 1 .done))))))))))) (.two (.two (.reg (.n 1 .done)) (.nil)) (.nil))) (.two (.reg (.n 2 .done)) (.two (.two (.reg (.n 1 (.call 5 (.n 1 (.call 6 (.n 1 .done)))))) (.two (.two (.reg (.n 1 .done)) (.nil)) (.nil))) (.two (.reg (.n 2 .done)) (.two (.two (.reg (.n 3 (.call 7 (.done)))) (.reg (.n 3 (.call 8 (.done))))) (.nil)))))))))) (.two (.reg (.n 1 (.call 9 (.n 1 (.call 10 (.call 11 (.n 1 .done))))))) (.two (.two (.reg (.n 1 .done)) (.nil)) (.nil))))))) (.reg (.n 3 .done))))))) (.two (.reg (.call 0 (.n 1 .done))) (.nil))))))
def in_billinglaw42_JournalLogs : Shp := ⟨[(0, .d (.sl tyBillinglaw42Op))], []⟩
def out_billinglaw42_JournalLogs : Shp := ⟨[(0, .d .bool)], []⟩
theorem rn_slices_Clone_byte_r : Runs Tryz.prog 68 := ⟨_, Tryz.func68, by decide, rfl⟩
def con_slices_Clone_byte_r : Con := ⟨68, (shLent 5 (.int .u8)), (shTwo 5 (.int .u8)), fun (xs : (List Int)) => cloneR 1 xs⟩
theorem ok_slices_Clone_byte_r : ConOk Tryz.prog tx.gl con_slices_Clone_byte_r := clone_row tabOk mixOk (c := con_slices_Clone_byte_r) Tryz.func68 (fA := fun (xs : (List Int)) => some (xs, ([] : (List Int)))) rfl rfl rfl rfl rfl rfl rfl rfl (by kernel_rfl) (by kernel_rfl) (an0 := .reg (.n 1 .done)) (anA := .two (.reg (.n 1 .done)) .nil) (anC := .two (.reg (.n 4 .done)) .nil) (fun _ => ⟨by kernel_rfl, by kernel_rfl⟩) (g := globE tx.gl) (fun _ => by kernel_rfl) (e := 5) (u := (.int .u8)) (fx := fun (xs : (List Int)) => xs) (fun _ => by kernel_rfl) (fun xs h => by rw [show xs = ([] : (List Int)) from h]; kernel_rfl) (fun _ => by kernel_rfl) (fun _ => by kernel_rfl) (fun _ => by kernel_rfl)
theorem rn_slices_Clone_api_Event_d : Runs Tryz.prog 122 := ⟨_, Tryz.func122, by decide, rfl⟩
def con_slices_Clone_api_Event_d : Con := ⟨122, (shSl tyApiEvent), (shSl tyApiEvent), cloneF 72⟩
theorem ok_slices_Clone_api_Event_d : ConOk Tryz.prog tx.gl con_slices_Clone_api_Event_d := clone_ok tabOk mixOk Tryz.func122 rfl rfl rfl rfl rfl rfl rfl rfl (by kernel_rfl) (y0 := ([] : (List ApiEvent))) (by kernel_rfl) (an0 := .reg (.n 1 .done)) (anA := .two (.reg (.n 1 .done)) .nil) (anC := .two (.reg (.n 4 .done)) .nil) ⟨by kernel_rfl, by kernel_rfl⟩ (fun xs => by kernel_rfl) (fun xs => by kernel_rfl) (fun xs => by kernel_rfl)
theorem rn_slices_Clone_api_Tax_d : Runs Tryz.prog 123 := ⟨_, Tryz.func123, by decide, rfl⟩
def con_slices_Clone_api_Tax_d : Con := ⟨123, (shSl tyApiTax), (shSl tyApiTax), cloneF 32⟩
theorem ok_slices_Clone_api_Tax_d : ConOk Tryz.prog tx.gl con_slices_Clone_api_Tax_d := clone_ok tabOk mixOk Tryz.func123 rfl rfl rfl rfl rfl rfl rfl rfl (by kernel_rfl) (y0 := ([] : (List ApiTax))) (by kernel_rfl) (an0 := .reg (.n 1 .done)) (anA := .two (.reg (.n 1 .done)) .nil) (anC := .two (.reg (.n 4 .done)) .nil) ⟨by kernel_rfl, by kernel_rfl⟩ (fun xs => by kernel_rfl) (fun xs => by kernel_rfl) (fun xs => by kernel_rfl)
theorem rn_slices_Clone_int_d : Runs Tryz.prog 124 := ⟨_, Tryz.func124, by decide, rfl⟩
def con_slices_Clone_int_d : Con := ⟨124, (shSl (.int .i64)), (shSl (.int .i64)), cloneF 8⟩
theorem ok_slices_Clone_int_d : ConOk Tryz.prog tx.gl con_slices_Clone_int_d := clone_ok tabOk mixOk Tryz.func124 rfl rfl rfl rfl rfl rfl rfl rfl (by kernel_rfl) (y0 := ([] : (List Int))) (by kernel_rfl) (an0 := .reg (.n 1 .done)) (anA := .two (.reg (.n 1 .done)) .nil) (anC := .two (.reg (.n 4 .done)) .nil) ⟨by kernel_rfl, by kernel_rfl⟩ (fun xs => by kernel_rfl) (fun xs => by kernel_rfl) (fun xs => by kernel_rfl)
theorem rn_slices_Clone_api_Tariff_d : Runs Tryz.prog 125 := ⟨_, Tryz.func125, by decide, rfl⟩
def con_slices_Clone_api_Tariff_d : Con := ⟨125, (shSl tyApiTariff), (shSl tyApiTariff), cloneF 128⟩
theorem ok_slices_Clone_api_Tariff_d : ConOk Tryz.prog tx.gl con_slices_Clone_api_Tariff_d := clone_ok tabOk mixOk Tryz.func125 rfl rfl rfl rfl rfl rfl rfl rfl (by kernel_rfl) (y0 := ([] : (List ApiTariff))) (by kernel_rfl) (an0 := .reg (.n 1 .done)) (anA := .two (.reg (.n 1 .done)) .nil) (anC := .two (.reg (.n 4 .done)) .nil) ⟨by kernel_rfl, by kernel_rfl⟩ (fun xs => by kernel_rfl) (fun xs => by kernel_rfl) (fun xs => by kernel_rfl)
theorem rn_slices_Clone_api_Product_d : Runs Tryz.prog 126 := ⟨_, Tryz.func126, by decide, rfl⟩
def con_slices_Clone_api_Product_d : Con := ⟨126, (shSl tyApiProduct), (shSl tyApiProduct), cloneF 80⟩
theorem ok_slices_Clone_api_Product_d : ConOk Tryz.prog tx.gl con_slices_Clone_api_Product_d := clone_ok tabOk mixOk Tryz.func126 rfl rfl rfl rfl rfl rfl rfl rfl (by kernel_rfl) (y0 := ([] : (List ApiProduct))) (by kernel_rfl) (an0 := .reg (.n 1 .done)) (anA := .two (.reg (.n 1 .done)) .nil) (anC := .two (.reg (.n 4 .done)) .nil) ⟨by kernel_rfl, by kernel_rfl⟩ (fun xs => by kernel_rfl) (fun xs => by kernel_rfl) (fun xs => by kernel_rfl)
theorem rn_slices_Clone_api_Agreement_d : Runs Tryz.prog 127 := ⟨_, Tryz.func127, by decide, rfl⟩
def con_slices_Clone_api_Agreement_d : Con := ⟨127, (shSl tyApiAgreement), (shSl tyApiAgreement), cloneF 72⟩
theorem ok_slices_Clone_api_Agreement_d : ConOk Tryz.prog tx.gl con_slices_Clone_api_Agreement_d := clone_ok tabOk mixOk Tryz.func127 rfl rfl rfl rfl rfl rfl rfl rfl (by kernel_rfl) (y0 := ([] : (List ApiAgreement))) (by kernel_rfl) (an0 := .reg (.n 1 .done)) (anA := .two (.reg (.n 1 .done)) .nil) (anC := .two (.reg (.n 4 .done)) .nil) ⟨by kernel_rfl, by kernel_rfl⟩ (fun xs => by kernel_rfl) (fun xs => by kernel_rfl) (fun xs => by kernel_rfl)
theorem rn_slices_Clone_api_Bucket_d : Runs Tryz.prog 97 := ⟨_, Tryz.func97, by decide, rfl⟩
def con_slices_Clone_api_Bucket_d : Con := ⟨97, (shSl tyApiBucket), (shSl tyApiBucket), cloneF 120⟩
theorem ok_slices_Clone_api_Bucket_d : ConOk Tryz.prog tx.gl con_slices_Clone_api_Bucket_d := clone_ok tabOk mixOk Tryz.func97 rfl rfl rfl rfl rfl rfl rfl rfl (by kernel_rfl) (y0 := ([] : (List ApiBucket))) (by kernel_rfl) (an0 := .reg (.n 1 .done)) (anA := .two (.reg (.n 1 .done)) .nil) (anC := .two (.reg (.n 4 .done)) .nil) ⟨by kernel_rfl, by kernel_rfl⟩ (fun xs => by kernel_rfl) (fun xs => by kernel_rfl) (fun xs => by kernel_rfl)
theorem rn_slices_Clone_api_Wallet_d : Runs Tryz.prog 98 := ⟨_, Tryz.func98, by decide, rfl⟩
def con_slices_Clone_api_Wallet_d : Con := ⟨98, (shSl tyApiWallet), (shSl tyApiWallet), cloneF 40⟩
theorem ok_slices_Clone_api_Wallet_d : ConOk Tryz.prog tx.gl con_slices_Clone_api_Wallet_d := clone_ok tabOk mixOk Tryz.func98 rfl rfl rfl rfl rfl rfl rfl rfl (by kernel_rfl) (y0 := ([] : (List ApiWallet))) (by kernel_rfl) (an0 := .reg (.n 1 .done)) (anA := .two (.reg (.n 1 .done)) .nil) (anC := .two (.reg (.n 4 .done)) .nil) ⟨by kernel_rfl, by kernel_rfl⟩ (fun xs => by kernel_rfl) (fun xs => by kernel_rfl) (fun xs => by kernel_rfl)
theorem rn_slices_Clone_api_Counter_d : Runs Tryz.prog 99 := ⟨_, Tryz.func99, by decide, rfl⟩
def con_slices_Clone_api_Counter_d : Con := ⟨99, (shSl tyApiCounter), (shSl tyApiCounter), cloneF 40⟩
theorem ok_slices_Clone_api_Counter_d : ConOk Tryz.prog tx.gl con_slices_Clone_api_Counter_d := clone_ok tabOk mixOk Tryz.func99 rfl rfl rfl rfl rfl rfl rfl rfl (by kernel_rfl) (y0 := ([] : (List ApiCounter))) (by kernel_rfl) (an0 := .reg (.n 1 .done)) (anA := .two (.reg (.n 1 .done)) .nil) (anC := .two (.reg (.n 4 .done)) .nil) ⟨by kernel_rfl, by kernel_rfl⟩ (fun xs => by kernel_rfl) (fun xs => by kernel_rfl) (fun xs => by kernel_rfl)
theorem rn_journal_New : Runs Tryz.prog 22 := ⟨_, Tryz.func22, by decide, rfl⟩
def con_journal_New (N : Nat) : Con := ⟨22, in_journal_New, out_journal_New, fun _ => journal_New N⟩
theorem ok_journal_New (N : Nat) : ConOk Tryz.prog tx.gl (con_journal_New N) := runF_ok (Y := tx) (N := N) (K := []) (an := an_journal_New) tabOk mixOk ksNil Tryz.func22 rfl (fun x => by kernel_rfl)
theorem rn_journal_Log_made : Runs Tryz.prog 63 := ⟨_, Tryz.func63, by decide, rfl⟩
def con_journal_Log_made (N : Nat) : Con := ⟨63, in_journal_Log_made, out_journal_Log_made, fun (m5000_1, m5001, m5002) => journal_Log_made N m5000_1 m5001 m5002⟩
theorem ok_journal_Log_made (N : Nat) : ConOk Tryz.prog tx.gl (con_journal_Log_made N) := runF_ok (Y := tx) (N := N) (K := []) (an := an_journal_Log_made) tabOk mixOk ksNil Tryz.func63 rfl (fun x => by kernel_rfl)
theorem rn_codec_grown : Runs Tryz.prog 108 := ⟨_, Tryz.func108, by decide, rfl⟩
def con_codec_grown (N : Nat) : Con := ⟨108, in_codec_grown, out_codec_grown, fun (x0, x1) => codec_grown N x0 x1⟩
theorem ok_codec_grown (N : Nat) : ConOk Tryz.prog tx.gl (con_codec_grown N) := runF_ok (Y := tx) (N := N) (K := []) (an := an_codec_grown) tabOk mixOk ksNil Tryz.func108 rfl (fun x => by kernel_rfl)
theorem rn_codec_zigzag : Runs Tryz.prog 162 := ⟨_, Tryz.func162, by decide, rfl⟩
def con_codec_zigzag (N : Nat) : Con := ⟨162, in_codec_zigzag, out_codec_zigzag, fun x0 => codec_zigzag N x0⟩
theorem ok_codec_zigzag (N : Nat) : ConOk Tryz.prog tx.gl (con_codec_zigzag N) := runF_ok (Y := tx) (N := N) (K := []) (an := an_codec_zigzag) tabOk mixOk ksNil Tryz.func162 rfl (fun x => by kernel_rfl)
theorem rn_codec_add : Runs Tryz.prog 107 := ⟨_, Tryz.func107, by decide, rfl⟩
def con_codec_add (N : Nat) : Con := ⟨107, in_codec_add, out_codec_add, fun (x1, m5000) => codec_add N x1 m5000⟩
theorem ok_codec_add (N : Nat) : ConOk Tryz.prog tx.gl (con_codec_add N) := runF_ok (Y := tx) (N := N) (K := [con_codec_zigzag N]) (an := an_codec_add) tabOk mixOk (ksCons (ok_codec_zigzag N) rn_codec_zigzag ksNil) Tryz.func107 rfl (fun x => by kernel_rfl)
theorem rn_codec_PutNumber : Runs Tryz.prog 59 := ⟨_, Tryz.func59, by decide, rfl⟩
def con_codec_PutNumber (N : Nat) : Con := ⟨59, in_codec_PutNumber, out_codec_PutNumber, fun (x0, x1) => codec_PutNumber N x0 x1⟩
theorem ok_codec_PutNumber (N : Nat) : ConOk Tryz.prog tx.gl (con_codec_PutNumber N) := runF_ok (Y := tx) (N := N) (K := [con_codec_grown N, con_codec_add N]) (an := an_codec_PutNumber) tabOk mixOk (ksCons (ok_codec_grown N) rn_codec_grown (ksCons (ok_codec_add N) rn_codec_add ksNil)) Tryz.func59 rfl (fun x => by kernel_rfl)
theorem rn_codec_PutText : Runs Tryz.prog 60 := ⟨_, Tryz.func60, by decide, rfl⟩
def con_codec_PutText (N : Nat) : Con := ⟨60, in_codec_PutText, out_codec_PutText, fun (x0, x1) => codec_PutText N x0 x1⟩
theorem ok_codec_PutText (N : Nat) : ConOk Tryz.prog tx.gl (con_codec_PutText N) := runF_ok (Y := tx) (N := N) (K := [con_codec_grown N, con_codec_add N]) (an := an_codec_PutText) tabOk mixOk (ksCons (ok_codec_grown N) rn_codec_grown (ksCons (ok_codec_add N) rn_codec_add ksNil)) Tryz.func60 rfl (fun x => by kernel_rfl)
theorem rn_codec_PutNumber_2 : Runs Tryz.prog 59 := ⟨_, Tryz.func59, by decide, rfl⟩
def con_codec_PutNumber_2 (N : Nat) : Con := ⟨59, in_codec_PutNumber_2, out_codec_PutNumber_2, fun (x0, x1) => codec_PutNumber_2 N x0 x1⟩
theorem ok_codec_PutNumber_2 (N : Nat) : ConOk Tryz.prog tx.gl (con_codec_PutNumber_2 N) := runF_ok (Y := tx) (N := N) (K := [con_codec_grown N, con_codec_add N]) (an := an_codec_PutNumber_2) tabOk mixOk (ksCons (ok_codec_grown N) rn_codec_grown (ksCons (ok_codec_add N) rn_codec_add ksNil)) Tryz.func59 rfl (fun x => by kernel_rfl)
theorem rn_journal_Encode : Runs Tryz.prog 20 := ⟨_, Tryz.func20, by decide, rfl⟩
def con_journal_Encode (N : Nat) : Con := ⟨20, in_journal_Encode, out_journal_Encode, fun x0 => journal_Encode N x0⟩
theorem ok_journal_Encode (N : Nat) : ConOk Tryz.prog tx.gl (con_journal_Encode N) := runF_ok (Y := tx) (N := N) (K := [con_codec_PutNumber N, con_codec_PutText N, con_codec_PutNumber_2 N]) (an := an_journal_Encode) tabOk mixOk (ksCons (ok_codec_PutNumber N) rn_codec_PutNumber (ksCons (ok_codec_PutText N) rn_codec_PutText (ksCons (ok_codec_PutNumber_2 N) rn_codec_PutNumber_2 ksNil))) Tryz.func20 rfl (fun x => by kernel_rfl)
theorem rn_frame_Sum : Runs Tryz.prog 163 := ⟨_, Tryz.func163, by decide, rfl⟩
def con_frame_Sum (N : Nat) : Con := ⟨163, in_frame_Sum, out_frame_Sum, fun x0 => frame_Sum N x0⟩
theorem ok_frame_Sum (N : Nat) : ConOk Tryz.prog tx.gl (con_frame_Sum N) := runF_ok (Y := tx) (N := N) (K := []) (an := an_frame_Sum) tabOk mixOk ksNil Tryz.func163 rfl (fun x => by kernel_rfl)
theorem rn_frame_wrap_v2 : Runs Tryz.prog 111 := ⟨_, Tryz.func111, by decide, rfl⟩
def con_frame_wrap_v2 (N : Nat) : Con := ⟨111, in_frame_wrap_v2, out_frame_wrap_v2, fun (x1, m5000) => frame_wrap_v2 N x1 m5000⟩
theorem ok_frame_wrap_v2 (N : Nat) : ConOk Tryz.prog tx.gl (con_frame_wrap_v2 N) := runF_ok (Y := tx) (N := N) (K := [con_frame_Sum N, con_codec_PutNumber N]) (an := an_frame_wrap_v2) tabOk mixOk (ksCons (ok_frame_Sum N) rn_frame_Sum (ksCons (ok_codec_PutNumber N) rn_codec_PutNumber ksNil)) Tryz.func111 rfl (fun x => by kernel_rfl)
theorem rn_frame_Wrap : Runs Tryz.prog 64 := ⟨_, Tryz.func64, by decide, rfl⟩
def con_frame_Wrap (N : Nat) : Con := ⟨64, in_frame_Wrap, out_frame_Wrap, fun x0 => frame_Wrap N x0⟩
theorem ok_frame_Wrap (N : Nat) : ConOk Tryz.prog tx.gl (con_frame_Wrap N) := runF_ok (Y := tx) (N := N) (K := [con_frame_wrap_v2 N]) (an := an_frame_Wrap) tabOk mixOk (ksCons (ok_frame_wrap_v2 N) rn_frame_wrap_v2 ksNil) Tryz.func64 rfl (fun x => by kernel_rfl)
theorem rn_journal_Log_trim : Runs Tryz.prog 65 := ⟨_, Tryz.func65, by decide, rfl⟩
def con_journal_Log_trim (N : Nat) : Con := ⟨65, in_journal_Log_trim, out_journal_Log_trim, fun (m5000_1, m5001, m5002) => journal_Log_trim N m5000_1 m5001 m5002⟩
theorem ok_journal_Log_trim (N : Nat) : ConOk Tryz.prog tx.gl (con_journal_Log_trim N) := runF_ok (Y := tx) (N := N) (K := []) (an := an_journal_Log_trim) tabOk mixOk ksNil Tryz.func65 rfl (fun x => by kernel_rfl)
theorem rn_journal_Log_Append : Runs Tryz.prog 24 := ⟨_, Tryz.func24, by decide, rfl⟩
def con_journal_Log_Append (N : Nat) : Con := ⟨24, in_journal_Log_Append, out_journal_Log_Append, fun (x1, m5000_1, m5001, m5002) => journal_Log_Append N x1 m5000_1 m5001 m5002⟩
theorem ok_journal_Log_Append (N : Nat) : ConOk Tryz.prog tx.gl (con_journal_Log_Append N) := runF_ok (Y := tx) (N := N) (K := [con_journal_Log_made N, con_journal_Encode N, con_frame_Wrap N, con_journal_Log_trim N]) (an := an_journal_Log_Append) tabOk mixOk (ksCons (ok_journal_Log_made N) rn_journal_Log_made (ksCons (ok_journal_Encode N) rn_journal_Encode (ksCons (ok_frame_Wrap N) rn_frame_Wrap (ksCons (ok_journal_Log_trim N) rn_journal_Log_trim ksNil)))) Tryz.func24 rfl (fun x => by kernel_rfl)
theorem rn_journal_Log_Sync : Runs Tryz.prog 26 := ⟨_, Tryz.func26, by decide, rfl⟩
def con_journal_Log_Sync (N : Nat) : Con := ⟨26, in_journal_Log_Sync, out_journal_Log_Sync, fun (m5000_1, m5001, m5002) => journal_Log_Sync N m5000_1 m5001 m5002⟩
theorem ok_journal_Log_Sync (N : Nat) : ConOk Tryz.prog tx.gl (con_journal_Log_Sync N) := runF_ok (Y := tx) (N := N) (K := [con_journal_Log_made N, con_journal_Log_trim N]) (an := an_journal_Log_Sync) tabOk mixOk (ksCons (ok_journal_Log_made N) rn_journal_Log_made (ksCons (ok_journal_Log_trim N) rn_journal_Log_trim ksNil)) Tryz.func26 rfl (fun x => by kernel_rfl)
theorem rn_journal_Log_Crash : Runs Tryz.prog 28 := ⟨_, Tryz.func28, by decide, rfl⟩
def con_journal_Log_Crash (N : Nat) : Con := ⟨28, in_journal_Log_Crash, out_journal_Log_Crash, fun (x1, m5000_1, m5001, m5002) => journal_Log_Crash N x1 m5000_1 m5001 m5002⟩
theorem ok_journal_Log_Crash (N : Nat) : ConOk Tryz.prog tx.gl (con_journal_Log_Crash N) := runF_ok (Y := tx) (N := N) (K := [con_journal_Log_made N]) (an := an_journal_Log_Crash) tabOk mixOk (ksCons (ok_journal_Log_made N) rn_journal_Log_made ksNil) Tryz.func28 rfl (fun x => by kernel_rfl)
theorem rn_journal_Log_Bytes : Runs Tryz.prog 30 := ⟨_, Tryz.func30, by decide, rfl⟩
def con_journal_Log_Bytes (N : Nat) : Con := ⟨30, in_journal_Log_Bytes, out_journal_Log_Bytes, fun (m5000_1, m5001, m5002) => journal_Log_Bytes N m5000_1 m5001 m5002⟩
theorem ok_journal_Log_Bytes (N : Nat) : ConOk Tryz.prog tx.gl (con_journal_Log_Bytes N) := runF_ok (Y := tx) (N := N) (K := [con_journal_Log_made N, con_slices_Clone_byte_r]) (an := an_journal_Log_Bytes) tabOk mixOk (ksCons (ok_journal_Log_made N) rn_journal_Log_made (ksCons (ok_slices_Clone_byte_r) rn_slices_Clone_byte_r ksNil)) Tryz.func30 rfl (fun x => by kernel_rfl)
theorem rn_online_copyBook : Runs Tryz.prog 73 := ⟨_, Tryz.func73, by decide, rfl⟩
def con_online_copyBook (N : Nat) : Con := ⟨73, in_online_copyBook, out_online_copyBook, fun x0 => online_copyBook N x0⟩
theorem ok_online_copyBook (N : Nat) : ConOk Tryz.prog tx.gl (con_online_copyBook N) := runF_ok (Y := tx) (N := N) (K := [con_slices_Clone_api_Event_d, con_slices_Clone_api_Tax_d, con_slices_Clone_int_d, con_slices_Clone_api_Tariff_d, con_slices_Clone_api_Product_d, con_slices_Clone_api_Agreement_d]) (an := an_online_copyBook) tabOk mixOk (ksCons (ok_slices_Clone_api_Event_d) rn_slices_Clone_api_Event_d (ksCons (ok_slices_Clone_api_Tax_d) rn_slices_Clone_api_Tax_d (ksCons (ok_slices_Clone_int_d) rn_slices_Clone_int_d (ksCons (ok_slices_Clone_api_Tariff_d) rn_slices_Clone_api_Tariff_d (ksCons (ok_slices_Clone_api_Product_d) rn_slices_Clone_api_Product_d (ksCons (ok_slices_Clone_api_Agreement_d) rn_slices_Clone_api_Agreement_d ksNil)))))) Tryz.func73 rfl (fun x => by kernel_rfl)
theorem rn_online_copyState : Runs Tryz.prog 74 := ⟨_, Tryz.func74, by decide, rfl⟩
def con_online_copyState (N : Nat) : Con := ⟨74, in_online_copyState, out_online_copyState, fun x0 => online_copyState N x0⟩
theorem ok_online_copyState (N : Nat) : ConOk Tryz.prog tx.gl (con_online_copyState N) := runF_ok (Y := tx) (N := N) (K := [con_slices_Clone_api_Bucket_d, con_slices_Clone_api_Wallet_d, con_slices_Clone_api_Counter_d]) (an := an_online_copyState) tabOk mixOk (ksCons (ok_slices_Clone_api_Bucket_d) rn_slices_Clone_api_Bucket_d (ksCons (ok_slices_Clone_api_Wallet_d) rn_slices_Clone_api_Wallet_d (ksCons (ok_slices_Clone_api_Counter_d) rn_slices_Clone_api_Counter_d ksNil))) Tryz.func74 rfl (fun x => by kernel_rfl)
theorem rn_online_New : Runs Tryz.prog 34 := ⟨_, Tryz.func34, by decide, rfl⟩
def con_online_New (N : Nat) : Con := ⟨34, in_online_New, out_online_New, fun (x0, x1) => online_New N x0 x1⟩
theorem ok_online_New (N : Nat) : ConOk Tryz.prog tx.gl (con_online_New N) := runF_ok (Y := tx) (N := N) (K := [con_online_copyBook N, con_online_copyState N]) (an := an_online_New) tabOk mixOk (ksCons (ok_online_copyBook N) rn_online_copyBook (ksCons (ok_online_copyState N) rn_online_copyState ksNil)) Tryz.func34 rfl (fun x => by kernel_rfl)
theorem rn_codec_back : Runs Tryz.prog 222 := ⟨_, Tryz.func222, by decide, rfl⟩
def con_codec_back (N : Nat) : Con := ⟨222, in_codec_back, out_codec_back, fun x0 => codec_back N x0⟩
theorem ok_codec_back (N : Nat) : ConOk Tryz.prog tx.gl (con_codec_back N) := runF_ok (Y := tx) (N := N) (K := []) (an := an_codec_back) tabOk mixOk ksNil Tryz.func222 rfl (fun x => by kernel_rfl)
theorem rn_codec_scan : Runs Tryz.prog 158 := ⟨_, Tryz.func158, by decide, rfl⟩
def con_codec_scan (N : Nat) : Con := ⟨158, in_codec_scan, out_codec_scan, fun x0 => codec_scan N x0⟩
theorem ok_codec_scan (N : Nat) : ConOk Tryz.prog tx.gl (con_codec_scan N) := runF_ok (Y := tx) (N := N) (K := [con_codec_back N]) (an := an_codec_scan) tabOk mixOk (ksCons (ok_codec_back N) rn_codec_back ksNil) Tryz.func158 rfl (fun x => by kernel_rfl)
theorem rn_codec_rest : Runs Tryz.prog 159 := ⟨_, Tryz.func159, by decide, rfl⟩
def con_codec_rest (N : Nat) : Con := ⟨159, in_codec_rest, out_codec_rest, fun (x0, x1) => codec_rest N x0 x1⟩
theorem ok_codec_rest (N : Nat) : ConOk Tryz.prog tx.gl (con_codec_rest N) := runF_ok (Y := tx) (N := N) (K := []) (an := an_codec_rest) tabOk mixOk ksNil Tryz.func159 rfl (fun x => by kernel_rfl)
theorem rn_codec_Number : Runs Tryz.prog 103 := ⟨_, Tryz.func103, by decide, rfl⟩
def con_codec_Number (N : Nat) : Con := ⟨103, in_codec_Number, out_codec_Number, fun x0 => codec_Number N x0⟩
theorem ok_codec_Number (N : Nat) : ConOk Tryz.prog tx.gl (con_codec_Number N) := runF_ok (Y := tx) (N := N) (K := [con_codec_scan N, con_codec_rest N]) (an := an_codec_Number) tabOk mixOk (ksCons (ok_codec_scan N) rn_codec_scan (ksCons (ok_codec_rest N) rn_codec_rest ksNil)) Tryz.func103 rfl (fun x => by kernel_rfl)
theorem rn_frame_locate : Runs Tryz.prog 137 := ⟨_, Tryz.func137, by decide, rfl⟩
def con_frame_locate (N : Nat) : Con := ⟨137, in_frame_locate, out_frame_locate, fun x0 => frame_locate N x0⟩
theorem ok_frame_locate (N : Nat) : ConOk Tryz.prog tx.gl (con_frame_locate N) := runF_ok (Y := tx) (N := N) (K := [con_codec_Number N, con_frame_Sum N]) (an := an_frame_locate) tabOk mixOk (ksCons (ok_codec_Number N) rn_codec_Number (ksCons (ok_frame_Sum N) rn_frame_Sum ksNil)) Tryz.func137 rfl (fun x => by kernel_rfl)
theorem rn_frame_copied : Runs Tryz.prog 138 := ⟨_, Tryz.func138, by decide, rfl⟩
def con_frame_copied (N : Nat) : Con := ⟨138, in_frame_copied, out_frame_copied, fun (x0, x1, x2) => frame_copied N x0 x1 x2⟩
theorem ok_frame_copied (N : Nat) : ConOk Tryz.prog tx.gl (con_frame_copied N) := runF_ok (Y := tx) (N := N) (K := []) (an := an_frame_copied) tabOk mixOk ksNil Tryz.func138 rfl (fun x => by kernel_rfl)
theorem rn_frame_All : Runs Tryz.prog 84 := ⟨_, Tryz.func84, by decide, rfl⟩
def con_frame_All (N : Nat) : Con := ⟨84, in_frame_All, out_frame_All, fun x0 => frame_All N x0⟩
theorem ok_frame_All (N : Nat) : ConOk Tryz.prog tx.gl (con_frame_All N) := runF_ok (Y := tx) (N := N) (K := [con_frame_locate N, con_frame_copied N]) (an := an_frame_All) tabOk mixOk (ksCons (ok_frame_locate N) rn_frame_locate (ksCons (ok_frame_copied N) rn_frame_copied ksNil)) Tryz.func84 rfl (fun x => by kernel_rfl)
theorem rn_journal_reader_number : Runs Tryz.prog 55 := ⟨_, Tryz.func55, by decide, rfl⟩
def con_journal_reader_number (N : Nat) : Con := ⟨55, in_journal_reader_number, out_journal_reader_number, fun m5000 => journal_reader_number N m5000⟩
theorem ok_journal_reader_number (N : Nat) : ConOk Tryz.prog tx.gl (con_journal_reader_number N) := runF_ok (Y := tx) (N := N) (K := [con_codec_Number N]) (an := an_journal_reader_number) tabOk mixOk (ksCons (ok_codec_Number N) rn_codec_Number ksNil) Tryz.func55 rfl (fun x => by kernel_rfl)
theorem rn_codec_length : Runs Tryz.prog 160 := ⟨_, Tryz.func160, by decide, rfl⟩
def con_codec_length (N : Nat) : Con := ⟨160, in_codec_length, out_codec_length, fun x0 => codec_length N x0⟩
theorem ok_codec_length (N : Nat) : ConOk Tryz.prog tx.gl (con_codec_length N) := runF_ok (Y := tx) (N := N) (K := [con_codec_scan N]) (an := an_codec_length) tabOk mixOk (ksCons (ok_codec_scan N) rn_codec_scan ksNil) Tryz.func160 rfl (fun x => by kernel_rfl)
theorem rn_codec_rest_2 : Runs Tryz.prog 159 := ⟨_, Tryz.func159, by decide, rfl⟩
def con_codec_rest_2 (N : Nat) : Con := ⟨159, in_codec_rest_2, out_codec_rest_2, fun (x0, x1) => codec_rest_2 N x0 x1⟩
theorem ok_codec_rest_2 (N : Nat) : ConOk Tryz.prog tx.gl (con_codec_rest_2 N) := runF_ok (Y := tx) (N := N) (K := []) (an := an_codec_rest_2) tabOk mixOk ksNil Tryz.func159 rfl (fun x => by kernel_rfl)
theorem rn_codec_Text : Runs Tryz.prog 104 := ⟨_, Tryz.func104, by decide, rfl⟩
def con_codec_Text (N : Nat) : Con := ⟨104, in_codec_Text, out_codec_Text, fun x0 => codec_Text N x0⟩
theorem ok_codec_Text (N : Nat) : ConOk Tryz.prog tx.gl (con_codec_Text N) := runF_ok (Y := tx) (N := N) (K := [con_codec_length N, con_codec_rest_2 N]) (an := an_codec_Text) tabOk mixOk (ksCons (ok_codec_length N) rn_codec_length (ksCons (ok_codec_rest_2 N) rn_codec_rest_2 ksNil)) Tryz.func104 rfl (fun x => by kernel_rfl)
theorem rn_journal_reader_text : Runs Tryz.prog 56 := ⟨_, Tryz.func56, by decide, rfl⟩
def con_journal_reader_text (N : Nat) : Con := ⟨56, in_journal_reader_text, out_journal_reader_text, fun m5000 => journal_reader_text N m5000⟩
theorem ok_journal_reader_text (N : Nat) : ConOk Tryz.prog tx.gl (con_journal_reader_text N) := runF_ok (Y := tx) (N := N) (K := [con_codec_Text N]) (an := an_journal_reader_text) tabOk mixOk (ksCons (ok_codec_Text N) rn_codec_Text ksNil) Tryz.func56 rfl (fun x => by kernel_rfl)
theorem rn_journal_Decode : Runs Tryz.prog 17 := ⟨_, Tryz.func17, by decide, rfl⟩
def con_journal_Decode (N : Nat) : Con := ⟨17, in_journal_Decode, out_journal_Decode, fun x0 => journal_Decode N x0⟩
theorem ok_journal_Decode (N : Nat) : ConOk Tryz.prog tx.gl (con_journal_Decode N) := runF_ok (Y := tx) (N := N) (K := [con_journal_reader_number N, con_journal_reader_text N]) (an := an_journal_Decode) tabOk mixOk (ksCons (ok_journal_reader_number N) rn_journal_reader_number (ksCons (ok_journal_reader_text N) rn_journal_reader_text ksNil)) Tryz.func17 rfl (fun x => by kernel_rfl)
theorem rn_online_Server_made : Runs Tryz.prog 75 := ⟨_, Tryz.func75, by decide, rfl⟩
def con_online_Server_made (N : Nat) : Con := ⟨75, in_online_Server_made, out_online_Server_made, fun (m5000_0, m5000_1, m5001) => online_Server_made N m5000_0 m5000_1 m5001⟩
theorem ok_online_Server_made (N : Nat) : ConOk Tryz.prog tx.gl (con_online_Server_made N) := runF_ok (Y := tx) (N := N) (K := []) (an := an_online_Server_made) tabOk mixOk ksNil Tryz.func75 rfl (fun x => by kernel_rfl)
theorem rn_online_refusal : Runs Tryz.prog 78 := ⟨_, Tryz.func78, by decide, rfl⟩
def con_online_refusal (N : Nat) : Con := ⟨78, in_online_refusal, out_online_refusal, fun (x0, x1) => online_refusal N x0 x1⟩
theorem ok_online_refusal (N : Nat) : ConOk Tryz.prog tx.gl (con_online_refusal N) := runF_ok (Y := tx) (N := N) (K := []) (an := an_online_refusal) tabOk mixOk ksNil Tryz.func78 rfl (fun x => by kernel_rfl)
theorem rn_online_Server_Do : Runs Tryz.prog 37 := ⟨_, Tryz.func37, by decide, rfl⟩
def con_online_Server_Do (N : Nat) : Con := ⟨37, in_online_Server_Do, out_online_Server_Do, fun (x1, m5000_0, m5000_1, m5001) => online_Server_Do N x1 m5000_0 m5000_1 m5001⟩
theorem ok_online_Server_Do (N : Nat) : ConOk Tryz.prog tx.gl (con_online_Server_Do N) := runF_ok (Y := tx) (N := N) (K := [con_online_Server_made N, con_online_refusal N]) (an := an_online_Server_Do) tabOk mixOk (ksCons (ok_online_Server_made N) rn_online_Server_made (ksCons (ok_online_refusal N) rn_online_refusal ksNil)) Tryz.func37 rfl (fun x => by kernel_rfl)
theorem rn_journal_Recover : Runs Tryz.prog 46 := ⟨_, Tryz.func46, by decide, rfl⟩
def con_journal_Recover (N : Nat) : Con := ⟨46, in_journal_Recover, out_journal_Recover, fun (x0, x1, x2) => journal_Recover N x0 x1 x2⟩
theorem ok_journal_Recover (N : Nat) : ConOk Tryz.prog tx.gl (con_journal_Recover N) := runF_ok (Y := tx) (N := N) (K := [con_online_New N, con_frame_All N, con_journal_Decode N, con_online_Server_Do N]) (an := an_journal_Recover) tabOk mixOk (ksCons (ok_online_New N) rn_online_New (ksCons (ok_frame_All N) rn_frame_All (ksCons (ok_journal_Decode N) rn_journal_Decode (ksCons (ok_online_Server_Do N) rn_online_Server_Do ksNil)))) Tryz.func46 rfl (fun x => by kernel_rfl)
theorem rn_billinglaw42_alive : Runs Tryz.prog 16 := ⟨_, Tryz.func16, by decide, rfl⟩
def con_billinglaw42_alive (N : Nat) : Con := ⟨16, in_billinglaw42_alive, out_billinglaw42_alive, fun _ => billinglaw42_alive N⟩
theorem ok_billinglaw42_alive (N : Nat) : ConOk Tryz.prog tx.gl (con_billinglaw42_alive N) := runF_ok (Y := tx) (N := N) (K := [con_journal_New N, con_journal_Log_Append N, con_journal_Log_Sync N, con_journal_Log_Crash N, con_journal_Log_Bytes N, con_journal_Recover N, con_journal_Encode N]) (an := an_billinglaw42_alive) tabOk mixOk (ksCons (ok_journal_New N) rn_journal_New (ksCons (ok_journal_Log_Append N) rn_journal_Log_Append (ksCons (ok_journal_Log_Sync N) rn_journal_Log_Sync (ksCons (ok_journal_Log_Crash N) rn_journal_Log_Crash (ksCons (ok_journal_Log_Bytes N) rn_journal_Log_Bytes (ksCons (ok_journal_Recover N) rn_journal_Recover (ksCons (ok_journal_Encode N) rn_journal_Encode ksNil))))))) Tryz.func16 rfl (fun x => by kernel_rfl)
theorem rn_billingref07_join : Runs Tryz.prog 109 := ⟨_, Tryz.func109, by decide, rfl⟩
def con_billingref07_join (N : Nat) : Con := ⟨109, in_billingref07_join, out_billingref07_join, fun (x0, x1) => billingref07_join N x0 x1⟩
theorem ok_billingref07_join (N : Nat) : ConOk Tryz.prog tx.gl (con_billingref07_join N) := runF_ok (Y := tx) (N := N) (K := []) (an := an_billingref07_join) tabOk mixOk ksNil Tryz.func109 rfl (fun x => by kernel_rfl)
theorem rn_billingref07_Number : Runs Tryz.prog 105 := ⟨_, Tryz.func105, by decide, rfl⟩
def con_billingref07_Number (N : Nat) : Con := ⟨105, in_billingref07_Number, out_billingref07_Number, fun x0 => billingref07_Number N x0⟩
theorem ok_billingref07_Number (N : Nat) : ConOk Tryz.prog tx.gl (con_billingref07_Number N) := runF_ok (Y := tx) (N := N) (K := [con_billingref07_join N]) (an := an_billingref07_Number) tabOk mixOk (ksCons (ok_billingref07_join N) rn_billingref07_join ksNil) Tryz.func105 rfl (fun x => by kernel_rfl)
theorem rn_billingref07_Bytes : Runs Tryz.prog 110 := ⟨_, Tryz.func110, by decide, rfl⟩
def con_billingref07_Bytes (N : Nat) : Con := ⟨110, in_billingref07_Bytes, out_billingref07_Bytes, fun x0 => billingref07_Bytes N x0⟩
theorem ok_billingref07_Bytes (N : Nat) : ConOk Tryz.prog tx.gl (con_billingref07_Bytes N) := runF_ok (Y := tx) (N := N) (K := []) (an := an_billingref07_Bytes) tabOk mixOk ksNil Tryz.func110 rfl (fun x => by kernel_rfl)
theorem rn_billingref07_PutNumber : Runs Tryz.prog 61 := ⟨_, Tryz.func61, by decide, rfl⟩
def con_billingref07_PutNumber (N : Nat) : Con := ⟨61, in_billingref07_PutNumber, out_billingref07_PutNumber, fun (x0, x1) => billingref07_PutNumber N x0 x1⟩
theorem ok_billingref07_PutNumber (N : Nat) : ConOk Tryz.prog tx.gl (con_billingref07_PutNumber N) := runF_ok (Y := tx) (N := N) (K := [con_billingref07_Bytes N, con_billingref07_join N]) (an := an_billingref07_PutNumber) tabOk mixOk (ksCons (ok_billingref07_Bytes N) rn_billingref07_Bytes (ksCons (ok_billingref07_join N) rn_billingref07_join ksNil)) Tryz.func61 rfl (fun x => by kernel_rfl)
theorem rn_billingref07_PutText : Runs Tryz.prog 62 := ⟨_, Tryz.func62, by decide, rfl⟩
def con_billingref07_PutText (N : Nat) : Con := ⟨62, in_billingref07_PutText, out_billingref07_PutText, fun (x0, x1) => billingref07_PutText N x0 x1⟩
theorem ok_billingref07_PutText (N : Nat) : ConOk Tryz.prog tx.gl (con_billingref07_PutText N) := runF_ok (Y := tx) (N := N) (K := [con_billingref07_PutNumber N, con_billingref07_join N]) (an := an_billingref07_PutText) tabOk mixOk (ksCons (ok_billingref07_PutNumber N) rn_billingref07_PutNumber (ksCons (ok_billingref07_join N) rn_billingref07_join ksNil)) Tryz.func62 rfl (fun x => by kernel_rfl)
theorem rn_billingref07_Same : Runs Tryz.prog 19 := ⟨_, Tryz.func19, by decide, rfl⟩
def con_billingref07_Same (N : Nat) : Con := ⟨19, in_billingref07_Same, out_billingref07_Same, fun (x0, x1) => billingref07_Same N x0 x1⟩
theorem ok_billingref07_Same (N : Nat) : ConOk Tryz.prog tx.gl (con_billingref07_Same N) := runF_ok (Y := tx) (N := N) (K := []) (an := an_billingref07_Same) tabOk mixOk ksNil Tryz.func19 rfl (fun x => by kernel_rfl)
theorem rn_billingref42_New : Runs Tryz.prog 23 := ⟨_, Tryz.func23, by decide, rfl⟩
def con_billingref42_New (N : Nat) : Con := ⟨23, in_billingref42_New, out_billingref42_New, fun _ => billingref42_New N⟩
theorem ok_billingref42_New (N : Nat) : ConOk Tryz.prog tx.gl (con_billingref42_New N) := runF_ok (Y := tx) (N := N) (K := []) (an := an_billingref42_New) tabOk mixOk ksNil Tryz.func23 rfl (fun x => by kernel_rfl)
theorem rn_billingref42_Encode_2 : Runs Tryz.prog 21 := ⟨_, Tryz.func21, by decide, rfl⟩
def con_billingref42_Encode_2 (N : Nat) : Con := ⟨21, in_billingref42_Encode_2, out_billingref42_Encode_2, fun x0 => billingref42_Encode_2 N x0⟩
theorem ok_billingref42_Encode_2 (N : Nat) : ConOk Tryz.prog tx.gl (con_billingref42_Encode_2 N) := runF_ok (Y := tx) (N := N) (K := [con_billingref07_PutNumber N, con_billingref07_PutText N]) (an := an_billingref42_Encode_2) tabOk mixOk (ksCons (ok_billingref07_PutNumber N) rn_billingref07_PutNumber (ksCons (ok_billingref07_PutText N) rn_billingref07_PutText ksNil)) Tryz.func21 rfl (fun x => by kernel_rfl)
theorem rn_billingref08_Sum : Runs Tryz.prog 112 := ⟨_, Tryz.func112, by decide, rfl⟩
def con_billingref08_Sum (N : Nat) : Con := ⟨112, in_billingref08_Sum, out_billingref08_Sum, fun x0 => billingref08_Sum N x0⟩
theorem ok_billingref08_Sum (N : Nat) : ConOk Tryz.prog tx.gl (con_billingref08_Sum N) := runF_ok (Y := tx) (N := N) (K := []) (an := an_billingref08_Sum) tabOk mixOk ksNil Tryz.func112 rfl (fun x => by kernel_rfl)
theorem rn_billingref08_Wrap : Runs Tryz.prog 66 := ⟨_, Tryz.func66, by decide, rfl⟩
def con_billingref08_Wrap (N : Nat) : Con := ⟨66, in_billingref08_Wrap, out_billingref08_Wrap, fun x0 => billingref08_Wrap N x0⟩
theorem ok_billingref08_Wrap (N : Nat) : ConOk Tryz.prog tx.gl (con_billingref08_Wrap N) := runF_ok (Y := tx) (N := N) (K := [con_billingref08_Sum N, con_billingref07_PutNumber N]) (an := an_billingref08_Wrap) tabOk mixOk (ksCons (ok_billingref08_Sum N) rn_billingref08_Sum (ksCons (ok_billingref07_PutNumber N) rn_billingref07_PutNumber ksNil)) Tryz.func66 rfl (fun x => by kernel_rfl)
theorem rn_billingref08_Unwrap : Runs Tryz.prog 164 := ⟨_, Tryz.func164, by decide, rfl⟩
def con_billingref08_Unwrap (N : Nat) : Con := ⟨164, in_billingref08_Unwrap, out_billingref08_Unwrap, fun x0 => billingref08_Unwrap N x0⟩
theorem ok_billingref08_Unwrap (N : Nat) : ConOk Tryz.prog tx.gl (con_billingref08_Unwrap N) := runF_ok (Y := tx) (N := N) (K := [con_billingref07_Number N, con_billingref08_Sum N]) (an := an_billingref08_Unwrap) tabOk mixOk (ksCons (ok_billingref07_Number N) rn_billingref07_Number (ksCons (ok_billingref08_Sum N) rn_billingref08_Sum ksNil)) Tryz.func164 rfl (fun x => by kernel_rfl)
theorem rn_billingref08_All_2 : Runs Tryz.prog 113 := ⟨_, Tryz.func113, by decide, rfl⟩
def con_billingref08_All_2 (N : Nat) : Con := ⟨113, in_billingref08_All_2, out_billingref08_All_2, fun m5000 => billingref08_All_2 N m5000⟩
theorem ok_billingref08_All_2 (N : Nat) : ConOk Tryz.prog tx.gl (con_billingref08_All_2 N) := runF_ok (Y := tx) (N := N) (K := [con_billingref08_Unwrap N]) (an := an_billingref08_All_2) tabOk mixOk (ksCons (ok_billingref08_Unwrap N) rn_billingref08_Unwrap ksNil) Tryz.func113 rfl (fun x => by kernel_rfl)
theorem rn_billingref42_Log_trim : Runs Tryz.prog 67 := ⟨_, Tryz.func67, by decide, rfl⟩
def con_billingref42_Log_trim (N : Nat) : Con := ⟨67, in_billingref42_Log_trim, out_billingref42_Log_trim, fun (m5000_1, m5001) => billingref42_Log_trim N m5000_1 m5001⟩
theorem ok_billingref42_Log_trim (N : Nat) : ConOk Tryz.prog tx.gl (con_billingref42_Log_trim N) := runF_ok (Y := tx) (N := N) (K := [con_billingref08_All_2 N]) (an := an_billingref42_Log_trim) tabOk mixOk (ksCons (ok_billingref08_All_2 N) rn_billingref08_All_2 ksNil) Tryz.func67 rfl (fun x => by kernel_rfl)
theorem rn_billingref42_Log_Append : Runs Tryz.prog 25 := ⟨_, Tryz.func25, by decide, rfl⟩
def con_billingref42_Log_Append (N : Nat) : Con := ⟨25, in_billingref42_Log_Append, out_billingref42_Log_Append, fun (x1, m5000_1, m5001) => billingref42_Log_Append N x1 m5000_1 m5001⟩
theorem ok_billingref42_Log_Append (N : Nat) : ConOk Tryz.prog tx.gl (con_billingref42_Log_Append N) := runF_ok (Y := tx) (N := N) (K := [con_billingref42_Encode_2 N, con_billingref08_Wrap N, con_billingref42_Log_trim N]) (an := an_billingref42_Log_Append) tabOk mixOk (ksCons (ok_billingref42_Encode_2 N) rn_billingref42_Encode_2 (ksCons (ok_billingref08_Wrap N) rn_billingref08_Wrap (ksCons (ok_billingref42_Log_trim N) rn_billingref42_Log_trim ksNil))) Tryz.func25 rfl (fun x => by kernel_rfl)
theorem rn_billingref42_Log_Sync : Runs Tryz.prog 27 := ⟨_, Tryz.func27, by decide, rfl⟩
def con_billingref42_Log_Sync (N : Nat) : Con := ⟨27, in_billingref42_Log_Sync, out_billingref42_Log_Sync, fun (m5000_1, m5001) => billingref42_Log_Sync N m5000_1 m5001⟩
theorem ok_billingref42_Log_Sync (N : Nat) : ConOk Tryz.prog tx.gl (con_billingref42_Log_Sync N) := runF_ok (Y := tx) (N := N) (K := [con_billingref42_Log_trim N]) (an := an_billingref42_Log_Sync) tabOk mixOk (ksCons (ok_billingref42_Log_trim N) rn_billingref42_Log_trim ksNil) Tryz.func27 rfl (fun x => by kernel_rfl)
theorem rn_billingref42_Log_Crash : Runs Tryz.prog 29 := ⟨_, Tryz.func29, by decide, rfl⟩
def con_billingref42_Log_Crash (N : Nat) : Con := ⟨29, in_billingref42_Log_Crash, out_billingref42_Log_Crash, fun (x1, m5000_1, m5001) => billingref42_Log_Crash N x1 m5000_1 m5001⟩
theorem ok_billingref42_Log_Crash (N : Nat) : ConOk Tryz.prog tx.gl (con_billingref42_Log_Crash N) := runF_ok (Y := tx) (N := N) (K := []) (an := an_billingref42_Log_Crash) tabOk mixOk ksNil Tryz.func29 rfl (fun x => by kernel_rfl)
theorem rn_billingref42_Log_Bytes : Runs Tryz.prog 31 := ⟨_, Tryz.func31, by decide, rfl⟩
def con_billingref42_Log_Bytes (N : Nat) : Con := ⟨31, in_billingref42_Log_Bytes, out_billingref42_Log_Bytes, fun (m5000_1, m5001) => billingref42_Log_Bytes N m5000_1 m5001⟩
theorem ok_billingref42_Log_Bytes (N : Nat) : ConOk Tryz.prog tx.gl (con_billingref42_Log_Bytes N) := runF_ok (Y := tx) (N := N) (K := []) (an := an_billingref42_Log_Bytes) tabOk mixOk ksNil Tryz.func31 rfl (fun x => by kernel_rfl)
def con_billinglaw42_JournalLogs (N : Nat) : Con := ⟨6, in_billinglaw42_JournalLogs, out_billinglaw42_JournalLogs, fun x0 => billinglaw42_JournalLogs N x0⟩
theorem ok_billinglaw42_JournalLogs (N : Nat) : ConOk Tryz.prog tx.gl (con_billinglaw42_JournalLogs N) := runF_ok (Y := tx) (N := N) (K := [con_billinglaw42_alive N, con_journal_New N, con_billingref42_New N, con_journal_Log_Append N, con_billingref42_Log_Append N, con_journal_Log_Sync N, con_billingref42_Log_Sync N, con_journal_Log_Crash N, con_billingref42_Log_Crash N, con_journal_Log_Bytes N, con_billingref42_Log_Bytes N, con_billingref07_Same N]) (an := an_billinglaw42_JournalLogs) tabOk mixOk (ksCons (ok_billinglaw42_alive N) rn_billinglaw42_alive (ksCons (ok_journal_New N) rn_journal_New (ksCons (ok_billingref42_New N) rn_billingref42_New (ksCons (ok_journal_Log_Append N) rn_journal_Log_Append (ksCons (ok_billingref42_Log_Append N) rn_billingref42_Log_Append (ksCons (ok_journal_Log_Sync N) rn_journal_Log_Sync (ksCons (ok_billingref42_Log_Sync N) rn_billingref42_Log_Sync (ksCons (ok_journal_Log_Crash N) rn_journal_Log_Crash (ksCons (ok_billingref42_Log_Crash N) rn_billingref42_Log_Crash (ksCons (ok_journal_Log_Bytes N) rn_journal_Log_Bytes (ksCons (ok_billingref42_Log_Bytes N) rn_billingref42_Log_Bytes (ksCons (ok_billingref07_Same N) rn_billingref07_Same ksNil)))))))))))) Tryz.func6 rfl (fun x => by kernel_rfl)
end Gx
