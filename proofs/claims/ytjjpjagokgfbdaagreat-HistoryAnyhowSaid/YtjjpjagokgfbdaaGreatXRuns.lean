/- The interpreter gives these functions. -/
import Derived.Test.YtjjpjagokgfbdaaGreatXFns
import Derived.Test.YtjjpjagokgfbdaaGreatProg
import Derived.Test.YtjjpjagokgfbdaaGreatXRn
import Derived.Test.YtjjpjagokgfbdaaGreatXShelf
namespace Gx
open Go Gd Go.Proofs
set_option linter.unusedVariables false
def tab:Tab:=[
 ⟨1,.func ⟨[]⟩ ⟨[]⟩ false,.nilFunc,1,8⟩,
 ⟨2,.int .i64,.int .i64 0,1,8⟩,
 ⟨3,.int .i64,.int .i64 0,1,8⟩,
 ⟨4,.bool,.bool false,1,1⟩,
 ⟨5,.int .u8,.int .u8 0,1,1⟩,
 ⟨6,.int .u8,.int .u8 0,1,1⟩,
 ⟨9,.string,Yd [],1,16⟩,
 ⟨22,.slice 144,.slice none 0 0,1,24⟩,
 ⟨23,.slice 100,.slice none 0 0,1,24⟩,
 ⟨24,.slice 108,.slice none 0 0,1,24⟩,
 ⟨25,.slice 209,.slice none 0 0,1,24⟩,
 ⟨26,.slice 3,.slice none 0 0,1,24⟩,
 ⟨27,.slice 113,.slice none 0 0,1,24⟩,
 ⟨29,.struct ⟨[⟨"Events",22,0,false, "", "",0⟩,⟨"Tariffs",23,1,false, "", "",24⟩,⟨"Products",24,2,false, "", "",48⟩,⟨"Taxes",25,3,false, "", "",72⟩,⟨"Holidays",26,4,false, "", "",96⟩,⟨"Agreements",27,5,false, "", "",120⟩]⟩,.agg ⟨[.slice none 0 0,.slice none 0 0,.slice none 0 0,.slice none 0 0,.slice none 0 0,.slice none 0 0]⟩,6,144⟩,
 ⟨30,.slice 40,.slice none 0 0,1,24⟩,
 ⟨33,.slice 68,.slice none 0 0,1,24⟩,
 ⟨34,.slice 63,.slice none 0 0,1,24⟩,
 ⟨35,.slice 88,.slice none 0 0,1,24⟩,
 ⟨37,.struct ⟨[⟨"Buckets",33,0,false, "", "",0⟩,⟨"Wallets",34,1,false, "", "",24⟩,⟨"Counters",35,2,false, "", "",48⟩]⟩,.agg ⟨[.slice none 0 0,.slice none 0 0,.slice none 0 0]⟩,3,72⟩,
 ⟨40,.struct ⟨[⟨"Id",3,0,false, "", "",0⟩,⟨"Kind",3,1,false, "", "",8⟩,⟨"Account",3,2,false, "", "",16⟩,⟨"Sub",3,3,false, "", "",24⟩,⟨"A",9,4,false, "", "",32⟩,⟨"B",9,5,false, "", "",48⟩,⟨"Start",3,6,false, "", "",64⟩,⟨"Units",3,7,false, "", "",72⟩,⟨"Trunk",3,8,false, "", "",80⟩,⟨"Inbound",4,9,false, "", "",88⟩,⟨"Source",3,10,false, "", "",96⟩,⟨"Serial",3,11,false, "", "",104⟩]⟩,.agg ⟨[.int .i64 0,.int .i64 0,.int .i64 0,.int .i64 0,Yd [],Yd [],.int .i64 0,.int .i64 0,.int .i64 0,.bool false,.int .i64 0,.int .i64 0]⟩,12,112⟩,
 ⟨41,.int .i64,.int .i64 0,1,8⟩,
 ⟨42,.slice 70,.slice none 0 0,1,24⟩,
 ⟨43,.slice 86,.slice none 0 0,1,24⟩,
 ⟨44,.slice 116,.slice none 0 0,1,24⟩,
 ⟨46,.struct ⟨[⟨"Usage",40,0,false, "", "",0⟩,⟨"Err",41,12,false, "", "",112⟩,⟨"Plan",9,13,false, "", "",120⟩,⟨"Version",3,14,false, "", "",136⟩,⟨"Zone",9,15,false, "", "",144⟩,⟨"Takes",42,16,false, "", "",160⟩,⟨"Segments",43,17,false, "", "",184⟩,⟨"Setup",3,18,false, "", "",208⟩,⟨"Gross",3,19,false, "", "",216⟩,⟨"Net",3,20,false, "", "",224⟩,⟨"Given",44,21,false, "", "",232⟩,⟨"Paid",3,22,false, "", "",256⟩,⟨"Owed",3,23,false, "", "",264⟩]⟩,.agg ⟨[.int .i64 0,.int .i64 0,.int .i64 0,.int .i64 0,Yd [],Yd [],.int .i64 0,.int .i64 0,.int .i64 0,.bool false,.int .i64 0,.int .i64 0,.int .i64 0,Yd [],.int .i64 0,Yd [],.slice none 0 0,.slice none 0 0,.int .i64 0,.int .i64 0,.int .i64 0,.slice none 0 0,.int .i64 0,.int .i64 0]⟩,24,272⟩,
 ⟨56,.slice 46,.slice none 0 0,1,24⟩,
 ⟨63,.struct ⟨[⟨"Account",3,0,false, "", "",0⟩,⟨"Balance",3,1,false, "", "",8⟩,⟨"Floor",3,2,false, "", "",16⟩,⟨"Held",3,3,false, "", "",24⟩,⟨"Until",3,4,false, "", "",32⟩]⟩,.agg ⟨[.int .i64 0,.int .i64 0,.int .i64 0,.int .i64 0,.int .i64 0]⟩,5,40⟩,
 ⟨64,.slice 9,.slice none 0 0,1,24⟩,
 ⟨66,.struct ⟨[⟨"From",3,0,false, "", "",0⟩,⟨"To",3,1,false, "", "",8⟩]⟩,.agg ⟨[.int .i64 0,.int .i64 0]⟩,2,16⟩,
 ⟨68,.struct ⟨[⟨"Account",3,0,false, "", "",0⟩,⟨"Sub",3,1,false, "", "",8⟩,⟨"Product",9,2,false, "", "",16⟩,⟨"Index",3,3,false, "", "",32⟩,⟨"Kind",3,4,false, "", "",40⟩,⟨"Zones",64,5,false, "", "",48⟩,⟨"Valid",66,6,false, "", "",72⟩,⟨"Units",3,8,false, "", "",88⟩,⟨"Left",3,9,false, "", "",96⟩,⟨"Priority",3,10,false, "", "",104⟩,⟨"Shared",4,11,false, "", "",112⟩]⟩,.agg ⟨[.int .i64 0,.int .i64 0,Yd [],.int .i64 0,.int .i64 0,.slice none 0 0,.int .i64 0,.int .i64 0,.int .i64 0,.int .i64 0,.int .i64 0,.bool false]⟩,12,120⟩,
 ⟨70,.struct ⟨[⟨"Sub",3,0,false, "", "",0⟩,⟨"Product",9,1,false, "", "",8⟩,⟨"Index",3,2,false, "", "",24⟩,⟨"From",3,3,false, "", "",32⟩,⟨"Units",3,4,false, "", "",40⟩]⟩,.agg ⟨[.int .i64 0,Yd [],.int .i64 0,.int .i64 0,.int .i64 0]⟩,5,48⟩,
 ⟨73,.slice 122,.slice none 0 0,1,24⟩,
 ⟨83,.func ⟨[3]⟩ ⟨[4]⟩ false,.nilFunc,1,8⟩,
 ⟨86,.struct ⟨[⟨"Band",9,0,false, "", "",0⟩,⟨"Start",3,1,false, "", "",16⟩,⟨"Units",3,2,false, "", "",24⟩,⟨"Amount",3,3,false, "", "",32⟩]⟩,.agg ⟨[Yd [],.int .i64 0,.int .i64 0,.int .i64 0]⟩,4,40⟩,
 ⟨88,.struct ⟨[⟨"Sub",3,0,false, "", "",0⟩,⟨"Kind",3,1,false, "", "",8⟩,⟨"From",3,2,false, "", "",16⟩,⟨"Units",3,3,false, "", "",24⟩,⟨"Spent",3,4,false, "", "",32⟩]⟩,.agg ⟨[.int .i64 0,.int .i64 0,.int .i64 0,.int .i64 0,.int .i64 0]⟩,5,40⟩,
 ⟨90,.pointer 102,.pointer none,1,8⟩,
 ⟨92,.struct ⟨[⟨"Period",66,0,false, "", "",0⟩,⟨"Plan",9,2,false, "", "",16⟩,⟨"Products",64,3,false, "", "",32⟩,⟨"Suspended",4,4,false, "", "",56⟩,⟨"Family",4,5,false, "", "",57⟩]⟩,.agg ⟨[.int .i64 0,.int .i64 0,Yd [],.slice none 0 0,.bool false,.bool false]⟩,6,64⟩,
 ⟨94,.struct ⟨[⟨"Id",3,0,false, "", "",0⟩,⟨"Since",3,1,false, "", "",8⟩,⟨"Anchor",3,2,false, "", "",16⟩,⟨"Prepaid",4,3,false, "", "",24⟩,⟨"Closed",4,4,false, "", "",25⟩,⟨"Subs",26,5,false, "", "",32⟩]⟩,.agg ⟨[.int .i64 0,.int .i64 0,.int .i64 0,.bool false,.bool false,.slice none 0 0]⟩,6,56⟩,
 ⟨95,.slice 135,.slice none 0 0,1,24⟩,
 ⟨96,.slice 138,.slice none 0 0,1,24⟩,
 ⟨97,.slice 142,.slice none 0 0,1,24⟩,
 ⟨98,.slice 182,.slice none 0 0,1,24⟩,
 ⟨100,.struct ⟨[⟨"Name",9,0,false, "", "",0⟩,⟨"From",3,1,false, "", "",16⟩,⟨"Split",4,2,false, "", "",24⟩,⟨"Zones",95,3,false, "", "",32⟩,⟨"Bands",96,4,false, "", "",56⟩,⟨"Rates",97,5,false, "", "",80⟩,⟨"Discounts",98,6,false, "", "",104⟩]⟩,.agg ⟨[Yd [],.int .i64 0,.bool false,.slice none 0 0,.slice none 0 0,.slice none 0 0,.slice none 0 0]⟩,7,128⟩,
 ⟨102,.struct ⟨[⟨"book",29,0,false, "", "billing/rate",0⟩,⟨"state",37,6,false, "", "billing/rate",144⟩,⟨"u",40,9,false, "", "billing/rate",216⟩,⟨"spell",92,21,false, "", "billing/rate",328⟩,⟨"account",94,27,false, "", "billing/rate",392⟩,⟨"tariff",100,33,false, "", "billing/rate",448⟩,⟨"free",3,40,false, "", "billing/rate",576⟩,⟨"r",46,41,false, "", "billing/rate",584⟩]⟩,.agg ⟨[.slice none 0 0,.slice none 0 0,.slice none 0 0,.slice none 0 0,.slice none 0 0,.slice none 0 0,.slice none 0 0,.slice none 0 0,.slice none 0 0,.int .i64 0,.int .i64 0,.int .i64 0,.int .i64 0,Yd [],Yd [],.int .i64 0,.int .i64 0,.int .i64 0,.bool false,.int .i64 0,.int .i64 0,.int .i64 0,.int .i64 0,Yd [],.slice none 0 0,.bool false,.bool false,.int .i64 0,.int .i64 0,.int .i64 0,.bool false,.bool false,.slice none 0 0,Yd [],.int .i64 0,.bool false,.slice none 0 0,.slice none 0 0,.slice none 0 0,.slice none 0 0,.int .i64 0,.int .i64 0,.int .i64 0,.int .i64 0,.int .i64 0,Yd [],Yd [],.int .i64 0,.int .i64 0,.int .i64 0,.bool false,.int .i64 0,.int .i64 0,.int .i64 0,Yd [],.int .i64 0,Yd [],.slice none 0 0,.slice none 0 0,.int .i64 0,.int .i64 0,.int .i64 0,.slice none 0 0,.int .i64 0,.int .i64 0]⟩,65,856⟩,
 ⟨103,.func ⟨[]⟩ ⟨[41]⟩ false,.nilFunc,1,8⟩,
 ⟨106,.slice 110,.slice none 0 0,1,24⟩,
 ⟨108,.struct ⟨[⟨"Name",9,0,false, "", "",0⟩,⟨"From",3,1,false, "", "",16⟩,⟨"Fee",3,2,false, "", "",24⟩,⟨"Category",9,3,false, "", "",32⟩,⟨"Prorate",4,4,false, "", "",48⟩,⟨"Bundles",106,5,false, "", "",56⟩]⟩,.agg ⟨[Yd [],.int .i64 0,.int .i64 0,Yd [],.bool false,.slice none 0 0]⟩,6,80⟩,
 ⟨110,.struct ⟨[⟨"Kind",3,0,false, "", "",0⟩,⟨"Zones",64,1,false, "", "",8⟩,⟨"Units",3,2,false, "", "",32⟩,⟨"Rollover",3,3,false, "", "",40⟩,⟨"Priority",3,4,false, "", "",48⟩,⟨"Shared",4,5,false, "", "",56⟩]⟩,.agg ⟨[.int .i64 0,.slice none 0 0,.int .i64 0,.int .i64 0,.int .i64 0,.bool false]⟩,6,64⟩,
 ⟨111,.slice 140,.slice none 0 0,1,24⟩,
 ⟨113,.struct ⟨[⟨"Partner",3,0,false, "", "",0⟩,⟨"Kind",3,1,false, "", "",8⟩,⟨"Inbound",4,2,false, "", "",16⟩,⟨"Valid",66,3,false, "", "",24⟩,⟨"Steps",111,5,false, "", "",40⟩,⟨"Cap",3,6,false, "", "",64⟩]⟩,.agg ⟨[.int .i64 0,.int .i64 0,.bool false,.int .i64 0,.int .i64 0,.slice none 0 0,.int .i64 0]⟩,7,72⟩,
 ⟨116,.struct ⟨[⟨"Name",9,0,false, "", "",0⟩,⟨"Amount",3,1,false, "", "",16⟩]⟩,.agg ⟨[Yd [],.int .i64 0]⟩,2,24⟩,
 ⟨119,.slice 125,.slice none 0 0,1,24⟩,
 ⟨122,.struct ⟨[⟨"Usage",3,0,false, "", "",0⟩,⟨"Account",3,1,false, "", "",8⟩,⟨"Sub",3,2,false, "", "",16⟩,⟨"Kind",3,3,false, "", "",24⟩,⟨"Start",3,4,false, "", "",32⟩,⟨"Paid",3,5,false, "", "",40⟩,⟨"Owed",3,6,false, "", "",48⟩]⟩,.agg ⟨[.int .i64 0,.int .i64 0,.int .i64 0,.int .i64 0,.int .i64 0,.int .i64 0,.int .i64 0]⟩,7,56⟩,
 ⟨125,.struct ⟨[⟨"Kind",3,0,false, "", "",0⟩,⟨"Sub",3,1,false, "", "",8⟩,⟨"Name",9,2,false, "", "",16⟩,⟨"Category",9,3,false, "", "",32⟩,⟨"Count",3,4,false, "", "",48⟩,⟨"Units",3,5,false, "", "",56⟩,⟨"Amount",3,6,false, "", "",64⟩,⟨"Rounded",3,7,false, "", "",72⟩]⟩,.agg ⟨[.int .i64 0,.int .i64 0,Yd [],Yd [],.int .i64 0,.int .i64 0,.int .i64 0,.int .i64 0]⟩,8,80⟩,
 ⟨135,.struct ⟨[⟨"Name",9,0,false, "", "",0⟩,⟨"Prefixes",64,1,false, "", "",16⟩]⟩,.agg ⟨[Yd [],.slice none 0 0]⟩,2,40⟩,
 ⟨136,.slice 319,.slice none 0 0,1,24⟩,
 ⟨138,.struct ⟨[⟨"Name",9,0,false, "", "",0⟩,⟨"Slots",136,1,false, "", "",16⟩]⟩,.agg ⟨[Yd [],.slice none 0 0]⟩,2,40⟩,
 ⟨140,.struct ⟨[⟨"Upto",3,0,false, "", "",0⟩,⟨"Quantum",3,1,false, "", "",8⟩,⟨"Price",3,2,false, "", "",16⟩]⟩,.agg ⟨[.int .i64 0,.int .i64 0,.int .i64 0]⟩,3,24⟩,
 ⟨142,.struct ⟨[⟨"Kind",3,0,false, "", "",0⟩,⟨"Zone",9,1,false, "", "",8⟩,⟨"Band",9,2,false, "", "",24⟩,⟨"Setup",3,3,false, "", "",40⟩,⟨"Steps",111,4,false, "", "",48⟩]⟩,.agg ⟨[.int .i64 0,Yd [],Yd [],.int .i64 0,.slice none 0 0]⟩,5,72⟩,
 ⟨144,.struct ⟨[⟨"At",3,0,false, "", "",0⟩,⟨"Kind",3,1,false, "", "",8⟩,⟨"Account",3,2,false, "", "",16⟩,⟨"Sub",3,3,false, "", "",24⟩,⟨"Number",9,4,false, "", "",32⟩,⟨"Name",9,5,false, "", "",48⟩,⟨"Value",3,6,false, "", "",64⟩]⟩,.agg ⟨[.int .i64 0,.int .i64 0,.int .i64 0,.int .i64 0,Yd [],Yd [],.int .i64 0]⟩,7,72⟩,
 ⟨151,.struct ⟨[⟨"Id",3,0,false, "", "",0⟩,⟨"Account",3,1,false, "", "",8⟩,⟨"Since",3,2,false, "", "",16⟩,⟨"Plan",9,3,false, "", "",24⟩,⟨"Numbers",64,4,false, "", "",40⟩,⟨"Products",64,5,false, "", "",64⟩,⟨"Suspended",4,6,false, "", "",88⟩,⟨"Family",4,7,false, "", "",89⟩]⟩,.agg ⟨[.int .i64 0,.int .i64 0,.int .i64 0,Yd [],.slice none 0 0,.slice none 0 0,.bool false,.bool false]⟩,8,96⟩,
 ⟨172,.struct ⟨[⟨"Kind",3,0,false, "", "",0⟩,⟨"Units",3,1,false, "", "",8⟩,⟨"Weekday",3,2,false, "", "",16⟩,⟨"Minute",3,3,false, "", "",24⟩,⟨"Total",3,4,false, "", "",32⟩,⟨"Spent",3,5,false, "", "",40⟩,⟨"Zone",9,6,false, "", "",48⟩,⟨"Band",9,7,false, "", "",64⟩,⟨"Family",4,8,false, "", "",80⟩]⟩,.agg ⟨[.int .i64 0,.int .i64 0,.int .i64 0,.int .i64 0,.int .i64 0,.int .i64 0,Yd [],Yd [],.bool false]⟩,9,88⟩,
 ⟨178,.slice 180,.slice none 0 0,1,24⟩,
 ⟨180,.struct ⟨[⟨"Op",3,0,false, "", "",0⟩,⟨"Num",3,1,false, "", "",8⟩,⟨"Text",9,2,false, "", "",16⟩,⟨"Args",178,3,false, "", "",32⟩]⟩,.agg ⟨[.int .i64 0,.int .i64 0,Yd [],.slice none 0 0]⟩,4,56⟩,
 ⟨182,.struct ⟨[⟨"Name",9,0,false, "", "",0⟩,⟨"When",180,1,false, "", "",16⟩,⟨"Points",3,5,false, "", "",72⟩]⟩,.agg ⟨[Yd [],.int .i64 0,.int .i64 0,Yd [],.slice none 0 0,.int .i64 0]⟩,6,80⟩,
 ⟨188,.struct ⟨[⟨"start",3,0,false, "", "billing/history",0⟩,⟨"source",3,1,false, "", "billing/history",8⟩,⟨"serial",3,2,false, "", "billing/history",16⟩,⟨"id",3,3,false, "", "billing/history",24⟩]⟩,.agg ⟨[.int .i64 0,.int .i64 0,.int .i64 0,.int .i64 0]⟩,4,32⟩,
 ⟨199,.slice 94,.slice none 0 0,1,24⟩,
 ⟨200,.slice 151,.slice none 0 0,1,24⟩,
 ⟨202,.struct ⟨[⟨"Accounts",199,0,false, "", "",0⟩,⟨"Subs",200,1,false, "", "",24⟩,⟨"Ended",26,2,false, "", "",48⟩]⟩,.agg ⟨[.slice none 0 0,.slice none 0 0,.slice none 0 0]⟩,3,72⟩,
 ⟨209,.struct ⟨[⟨"Category",9,0,false, "", "",0⟩,⟨"From",3,1,false, "", "",16⟩,⟨"Points",3,2,false, "", "",24⟩]⟩,.agg ⟨[Yd [],.int .i64 0,.int .i64 0]⟩,3,32⟩,
 ⟨215,.slice 92,.slice none 0 0,1,24⟩,
 ⟨219,.struct ⟨[⟨"Accounts",199,0,false, "", "",0⟩,⟨"Subs",200,1,false, "", "",24⟩]⟩,.agg ⟨[.slice none 0 0,.slice none 0 0]⟩,2,48⟩,
 ⟨221,.map 9 9,.map none,1,8⟩,
 ⟨231,.pointer 234,.pointer none,1,8⟩,
 ⟨232,.map 237 4,.map none,1,8⟩,
 ⟨234,.struct ⟨[⟨"list",33,0,false, "", "billing/bundle",0⟩,⟨"has",232,1,false, "", "billing/bundle",24⟩]⟩,.agg ⟨[.slice none 0 0,.map none]⟩,2,32⟩,
 ⟨237,.struct ⟨[⟨"sub",3,0,false, "", "billing/bundle",0⟩,⟨"product",9,1,false, "", "billing/bundle",8⟩,⟨"index",3,2,false, "", "billing/bundle",24⟩,⟨"from",3,3,false, "", "billing/bundle",32⟩]⟩,.agg ⟨[.int .i64 0,Yd [],.int .i64 0,.int .i64 0]⟩,4,40⟩,
 ⟨240,.slice 245,.slice none 0 0,1,24⟩,
 ⟨242,.slice 66,.slice none 0 0,1,24⟩,
 ⟨245,.struct ⟨[⟨"account",3,0,false, "", "billing/bundle",0⟩,⟨"sub",3,1,false, "", "billing/bundle",8⟩,⟨"product",9,2,false, "", "billing/bundle",16⟩,⟨"active",242,3,false, "", "billing/bundle",32⟩]⟩,.agg ⟨[.int .i64 0,.int .i64 0,Yd [],.slice none 0 0]⟩,4,56⟩,
 ⟨246,.slice 249,.slice none 0 0,1,24⟩,
 ⟨249,.struct ⟨[⟨"bucket",68,0,false, "", "billing/bundle",0⟩,⟨"rollover",3,12,false, "", "billing/bundle",120⟩]⟩,.agg ⟨[.int .i64 0,.int .i64 0,Yd [],.int .i64 0,.int .i64 0,.slice none 0 0,.int .i64 0,.int .i64 0,.int .i64 0,.int .i64 0,.int .i64 0,.bool false,.int .i64 0]⟩,13,128⟩,
 ⟨264,.array 2 3,.agg ⟨[.int .i64 0,.int .i64 0]⟩,2,16⟩,
 ⟨267,.map 3 3,.map none,1,8⟩,
 ⟨293,.map 3 4,.map none,1,8⟩,
 ⟨296,.array 5 4,.agg ⟨[.bool false,.bool false,.bool false,.bool false,.bool false]⟩,5,5⟩,
 ⟨302,.slice 305,.slice none 0 0,1,24⟩,
 ⟨305,.struct ⟨[⟨"at",3,0,false, "", "billing/subscribe",0⟩,⟨"s",151,1,false, "", "billing/subscribe",8⟩]⟩,.agg ⟨[.int .i64 0,.int .i64 0,.int .i64 0,.int .i64 0,Yd [],.slice none 0 0,.slice none 0 0,.bool false,.bool false]⟩,9,104⟩,
 ⟨308,.func ⟨[305,305]⟩ ⟨[4]⟩ false,.nilFunc,1,8⟩,
 ⟨309,.func ⟨[305,305]⟩ ⟨[305]⟩ false,.nilFunc,1,8⟩,
 ⟨310,.pointer 379,.pointer none,1,8⟩,
 ⟨319,.struct ⟨[⟨"Days",3,0,false, "", "",0⟩,⟨"From",3,1,false, "", "",8⟩,⟨"To",3,2,false, "", "",16⟩]⟩,.agg ⟨[.int .i64 0,.int .i64 0,.int .i64 0]⟩,3,24⟩,
 ⟨322,.func ⟨[135]⟩ ⟨[4]⟩ false,.nilFunc,1,8⟩,
 ⟨326,.map 9 293,.map none,1,8⟩,
 ⟨337,.struct ⟨[⟨"sub",3,0,false, "", "billing/bucket",0⟩,⟨"product",9,1,false, "", "billing/bucket",8⟩,⟨"index",3,2,false, "", "billing/bucket",24⟩,⟨"from",3,3,false, "", "billing/bucket",32⟩]⟩,.agg ⟨[.int .i64 0,Yd [],.int .i64 0,.int .i64 0]⟩,4,40⟩,
 ⟨340,.slice 343,.slice none 0 0,1,24⟩,
 ⟨343,.struct ⟨[⟨"Band",9,0,false, "", "",0⟩,⟨"Period",66,1,false, "", "",16⟩]⟩,.agg ⟨[Yd [],.int .i64 0,.int .i64 0]⟩,3,32⟩,
 ⟨346,.array 3 264,.agg ⟨[.int .i64 0,.int .i64 0,.int .i64 0,.int .i64 0,.int .i64 0,.int .i64 0]⟩,6,48⟩,
 ⟨349,.func ⟨[138]⟩ ⟨[4]⟩ false,.nilFunc,1,8⟩,
 ⟨351,.func ⟨[319]⟩ ⟨[4]⟩ false,.nilFunc,1,8⟩,
 ⟨375,.map 3 94,.map none,1,8⟩,
 ⟨376,.map 3 151,.map none,1,8⟩,
 ⟨377,.map 9 3,.map none,1,8⟩,
 ⟨379,.struct ⟨[⟨"accounts",375,0,false, "", "billing/customer",0⟩,⟨"subs",376,1,false, "", "billing/customer",8⟩,⟨"ever",293,2,false, "", "billing/customer",16⟩,⟨"owners",377,3,false, "", "billing/customer",24⟩,⟨"live",267,4,false, "", "billing/customer",32⟩,⟨"opened",26,5,false, "", "billing/customer",40⟩,⟨"added",26,6,false, "", "billing/customer",64⟩]⟩,.agg ⟨[.map none,.map none,.map none,.map none,.map none,.slice none 0 0,.slice none 0 0]⟩,7,88⟩,
 ⟨381,.map 3 26,.map none,1,8⟩,
 ⟨384,.func ⟨[92]⟩ ⟨[4]⟩ false,.nilFunc,1,8⟩,
 ⟨386,.func ⟨[4,4]⟩ ⟨[4]⟩ false,.nilFunc,1,8⟩,
 ⟨388,.func ⟨[108]⟩ ⟨[4]⟩ false,.nilFunc,1,8⟩,
 ⟨393,.struct ⟨[⟨"Year",3,0,false, "", "",0⟩,⟨"Month",3,1,false, "", "",8⟩,⟨"Day",3,2,false, "", "",16⟩]⟩,.agg ⟨[.int .i64 0,.int .i64 0,.int .i64 0]⟩,3,24⟩,
 ⟨401,.array 4 3,.agg ⟨[.int .i64 0,.int .i64 0,.int .i64 0,.int .i64 0]⟩,4,32⟩,
 ⟨411,.func ⟨[66,66]⟩ ⟨[4]⟩ false,.nilFunc,1,8⟩,
 ⟨412,.func ⟨[66,66]⟩ ⟨[66]⟩ false,.nilFunc,1,8⟩,
 ⟨413,.slice 415,.slice none 0 0,1,24⟩,
 ⟨415,.struct ⟨[⟨"at",3,0,false, "", "billing/interval",0⟩,⟨"list",3,1,false, "", "billing/interval",8⟩,⟨"by",3,2,false, "", "billing/interval",16⟩]⟩,.agg ⟨[.int .i64 0,.int .i64 0,.int .i64 0]⟩,3,24⟩,
 ⟨418,.func ⟨[415,415]⟩ ⟨[3]⟩ false,.nilFunc,1,8⟩,
 ⟨434,.array 12 3,.agg ⟨[.int .i64 0,.int .i64 0,.int .i64 0,.int .i64 0,.int .i64 0,.int .i64 0,.int .i64 0,.int .i64 0,.int .i64 0,.int .i64 0,.int .i64 0,.int .i64 0]⟩,12,96⟩]
def tx:TX:=⟨tab,[(1,.ref),(2,(.int .i64)),(3,(.int .i64)),(4,.bool),(5,(.int .u8)),(6,(.int .u8)),(9,.str),(22,(.sl Jv)),(23,(.sl J6)),(24,(.sl Yo)),(25,(.sl Db)),(26,(.sl (.int .i64))),(27,(.sl V3)),(29,Vw),(30,(.sl J0)),(33,(.sl Ym)),(34,(.sl Vq)),(35,(.sl Yp)),(37,Ud),(40,J0),(41,(.int .i64)),(42,(.sl Qet)),(43,(.sl Lg)),(44,(.sl Qab)),(46,Xa),(56,(.sl Xa)),(63,Vq),(64,(.sl .str)),(66,Q8),(68,Ym),(70,Qet),(73,(.sl Qmk)),(83,.ref),(86,Lg),(88,Yp),(90,.ref),(92,Ce),(94,V0),(95,(.sl V8)),(96,(.sl Vv)),(97,(.sl G0)),(98,(.sl Vb)),(100,J6),(102,Jcd),(103,.ref),(106,(.sl K5)),(108,Yo),(110,K5),(111,(.sl Gz)),(113,V3),(116,Qab),(119,(.sl Qu8)),(122,Qmk),(125,Qu8),(135,V8),(136,(.sl Kn)),(138,Vv),(140,Gz),(142,G0),(144,Jv),(151,Vf),(172,R7),(178,(.sl Ko)),(180,Ko),(182,Vb),(188,Lh),(199,(.sl V0)),(200,(.sl Vf)),(202,U6),(209,Db),(215,(.sl Ce)),(219,Qra),(221,.ref),(231,.ref),(232,.ref),(234,Qs0),(237,Uw),(240,(.sl Ue)),(242,(.sl Q8)),(245,Ue),(246,(.sl H9)),(249,H9),(264,(.arr 2 (.int .i64))),(267,.ref),(293,.ref),(296,(.arr 5 .bool)),(302,(.sl Vg)),(305,Vg),(308,.ref),(309,.ref),(310,.ref),(319,Kn),(322,.ref),(326,.ref),(337,R8),(340,(.sl Qgu)),(343,Qgu),(346,(.arr 3 (.arr 2 (.int .i64)))),(349,.ref),(351,.ref),(375,.ref),(376,.ref),(377,.ref),(379,Qnc),(381,.ref),(384,.ref),(386,.ref),(388,.ref),(393,Qeu),(401,(.arr 4 (.int .i64))),(411,.ref),(412,.ref),(413,(.sl Vx)),(415,Vx),(418,.ref),(434,(.arr 12 (.int .i64)))],[]⟩
theorem Jgs:Tryz.prog.follows .mixedOrders=true:=by kernel_rfl
theorem Jgt:Q4 Tryz.prog tab:=by repeat (first | exact trivial | refine⟨⟨⟨by kernel_rfl,by kernel_rfl⟩,by kernel_rfl⟩,?_⟩)
abbrev KO(c:Con):Prop:=Qfv Tryz.prog tx.gl c∧Runs Tryz.prog c.f
abbrev IO(i:It):Prop:=Jb2 Tryz.prog tx.gl i∧Runs Tryz.prog i.f
abbrev V:={c // KO c}
def kcs(N:Nat)(L:List (Nat→V)):List Con:=L.map fun k=>(k N).1
theorem Q8v(N:Nat):∀L:List (Nat→V),Q1c Tryz.prog tx.gl (kcs N L)
 | []=>Jqz
 | c::L=>Jpi (c N).2.1 (c N).2.2 (Q8v N L)
def Q8w(fn:Func):Bool:=decide (fn.name ≠ "runtime.NumGoroutine")&&!fn.body.isNone
theorem I4{f:FuncId}{fn:Func}(hf:Tryz.prog.funcs[f]?=some fn)(h:Q8w fn=true):Runs Tryz.prog f:=by
 simp only[Q8w,QQ,decide_eq_true_eq,XA]at h
 exact⟨fn,hf,h.1,h.2⟩
theorem kF(N:Nat){c:Con}(L:List (Nat→V))(ps:List (Nat×Pc)){fn:Func}(hf:Tryz.prog.funcs[c.f]?=some fn)(hg:Q8w fn=true:=by rfl)(h:∀x,c.fn x=Jfw tx (kcs N L) N fn (Jpl ((kcs N L).map Con.f) ps fn.body) c.ro c.Γ c.Δ x:=by intro x; kernel_rfl):KO c :=
 ⟨Jky (Y:=tx) (N:=N) Jgt Jgs (Q8v N L) hf rfl h,I4 hf hg⟩
def ics(L:List {i // IO i}):List It:=L.map (·.1)
theorem Jmj:∀L:List {i // IO i},∀i∈ics L,Jb2 Tryz.prog tx.gl i∧Runs Tryz.prog i.f
 | [],_,h=>by cases h
 | c::L,i,h=>by
  rcases QX.1 h with rfl | h
  ·exact c.2
  ·exact Jmj L i h
theorem kR(N:Nat){c:Con}(L:List (Nat→V))(I:List {i // IO i})(an:AnR){fn:Func}(hf:Tryz.prog.funcs[c.f]?=some fn)(hg:Q8w fn=true)(h:∀x,c.fn x=Jgn tx (kcs N L) N (ics I) fn an c.ro c.Γ c.Δ x):KO c :=
 ⟨Jgo (Y:=tx) (N:=N) (an:=an) Jgt Jgs (Q8v N L) (Jmj I) hf rfl h,I4 hf hg⟩
def Vy:Con:=⟨377,⟨[(0,.s 5000),(1,.f 378 (.nil))],[(5000,.row 415 Vx)]⟩,[⟨[],[(5000,.row 415 Vx)]⟩],Qfz (fun x:Q7=>x.1),[]⟩
theorem Gq:KO Vy:=⟨Qu6 (c:=Vy) (e:=415) (u:=Vx) rfl (fun x=>x) (fun y=>y) (ev:=[⟨1,[],.f 378 .nil⟩]) (vx:=[.func (.func 378) #[] #[]]) rfl (fun _=>by kernel_rfl) (fun _=>by kernel_rfl) rfl Q8u (fun _ _=>Jca) (fun p w=>AnyF.slices_SortFunc_none { Tryz.sortFunc377 with } p 0 _ w) (fun _ _ h blk cap w hH hb _=>Q1w (u:=Vx) rfl (fun x:Q7=>x.1) Tryz.sortFunc377 Tryz.isAgg415 Tryz.sizeOf415 (enters_of Tryz.func378 (by kernel_rfl) rfl) Tryz.clo378 h blk cap w hH hb),I4 Tryz.func377 rfl⟩
def I5:Con:=⟨380,⟨[(0,.s 5000)],[(5000,.row 3 (.int .i64))]⟩,[⟨[],[(5000,.row 3 (.int .i64))]⟩],Qu1,[]⟩
theorem Qg5:KO I5:=⟨Qu6 (c:=I5) (e:=3) (u:=(.int .i64)) rfl (fun x=>x) (fun y=>y) (ev:=[]) (vx:=[]) rfl (fun _=>by kernel_rfl) (fun _=>by kernel_rfl) rfl Q8t (fun _ _=>Jcb) (fun p w=>AnyM.slices_Sort_int_none Tryz.sortInts380 p 0 w) (fun _ _ h blk cap w hH hb _=>Q1x Tryz.sortInts380 h blk cap w hH hb),I4 Tryz.func380 rfl⟩
def At:Con:=⟨381,⟨[(0,.s 5000)],[(5000,.row 3 (.int .i64))]⟩,[⟨[(0,.s 0)],[(0,.row 3 (.int .i64))]⟩],R6,[]⟩
theorem Qb3:KO At:=⟨Qu7 (c:=At) (e:=3) (u:=(.int .i64)) rfl (fun x=>x) (fun y=>y) (ev:=[]) (vx:=[]) rfl (fun _=>by kernel_rfl) (fun _=>by kernel_rfl) rfl rfl Q8t (fun _ _=>Qxu) (fun p w=>Any.slices_Compact_int_empty Tryz.compactInts381 p 0 w) (fun _ _ h blk cap w hH hb hc=>Qq9 Tryz.compactInts381 h blk cap w hH hb hc),I4 Tryz.func381 rfl⟩
def K7:Con:=⟨382,⟨[(0,.s 5000),(1,.f 383 (.nil))],[(5000,.row 3 (.int .i64))]⟩,[⟨[(0,.s 0)],[(0,.row 3 (.int .i64))]⟩],Qu2 (fun m=>decide (m≥1440)),[]⟩
theorem Il:KO K7:=⟨Qu7 (c:=K7) (e:=3) (u:=(.int .i64)) rfl (fun x=>x) (fun y=>y) (ev:=[⟨1,[],.f 383 .nil⟩]) (vx:=[.func (.func 383) #[] #[]]) rfl (fun _=>by kernel_rfl) (fun _=>by kernel_rfl) rfl rfl Q8u (fun _ _=>Jcc) (fun p w=>Qsz Tryz.deleteFunc382 p w) (fun _ _ h blk cap w hH hb hc=>Q1y Tryz.deleteFunc382 Tryz.zeroValue3 (enters_of Tryz.func383 (by kernel_rfl) rfl) Tryz.clo383 h blk cap w hH hb hc),I4 Tryz.func382 rfl⟩
def zs1:Shp:=sD [Ko,.i]
def zs2:Shp:=sD [.i]
def zs3:Sk:=.d .i
def zs4:Shp:=⟨[(5,zs3)],[]⟩
def zs5:Shp:=sD [.bool]
def zs6:Shp:=⟨[],[]⟩
def zs7:Sk:=.d .bool
def zs8:Exs:=[(.x 0,zs6),(.r,⟨[(4,zs7)],[]⟩)]
def zs9:Shp:=⟨[(6,zs3)],[]⟩
def Jk0:Exs:=[(.x 2,zs6),(.r,⟨[(4,zs7)],[]⟩)]
def Qnd:Shp:=⟨[(7,zs3)],[]⟩
def Jk1:Exs:=[(.x 4,zs6),(.r,⟨[(4,zs7)],[]⟩)]
def Qkx:Shp:=⟨[(8,zs3)],[]⟩
def Jq5:Exs:=[(.x 6,zs6),(.r,⟨[(4,zs7)],[]⟩)]
def Qne:Shp:=sD [.str]
def Vp:Hn:=.n 1 .done
def Sv:Hn:=.nl 3 Vp
def Qde:Shp:=⟨[(3,zs3)],[]⟩
def Qrc:Exs:=[(.x 0,zs6),(.r,⟨[(2,zs7)],[]⟩)]
def Jpm:Shp:=⟨[(37,zs7)],[]⟩
def Fq:Hn:=.nl 4 Vp
def Jk2:Shp:=⟨[(49,zs7)],[]⟩
def Jpn:Shp:=⟨[(48,zs7)],[]⟩
def Jpo:Hn:=.nl 5 .done
def Jpp:Shp:=⟨[(55,zs7)],[]⟩
def Jgu:Shp:=⟨[(19,zs7)],[]⟩
def Qky:Hn:=.nl 8 Vp
def Qs1:Hn:=.nl 1 Vp
def Jk3:Hn:=.nl 4 (.n 3 Qs1)
def Jk4:Hn:=.call 1 Qs1
def Jgv:Hn:=.nl 2 Jk4
def Jk5:Hn:=.call 2 Qs1
def Jpq:Hn:=.n 15 .done
def Jq6:Hn:=.nl 2 (.call 3 Qs1)
def Jk6:Shp:=sD [U6,.i]
def Q6d:Shp:=⟨[(4,zs3)],[]⟩
def Qs2:Exs:=[(.x 0,zs6),(.r,Q6d)]
def Jgw:Hn:=.call 0 Qs1
def Jce:Hn:=.nl 2 Vp
def Jq7:HT:=.op ⟨.nl 1 .done,[],[],[],[]⟩ (.op ⟨.nl 1 .done,[],[],[],[]⟩ (.op ⟨.nl 1 .done,[],[],[],[]⟩ (.op ⟨.nl 1 .done,[],[],[],[]⟩ (.op ⟨.nl 1 .done,[],[],[],[]⟩ (.op ⟨.nl 1 .done,[],[],[],[]⟩ (.tl Jce))))))
def Jq8:HT:=.op ⟨.nl 1 .done,[],[],[],[]⟩ Jq7
def Jpr:Shp:=sD [U6,Jv]
def Jk7:Hn:=.nl 3 Jk4
def Qs3:Hn:=.nl 5 Vp
def Jgx:Shp:=⟨[(41,zs7)],[]⟩
def Q1z:Shp:=sD [.sl .str,.str]
def Jq9:Exs:=[(.n,zs6),(.r,Q6d)]
def Jra:Exs:=[(.n,⟨[(53,zs7)],[]⟩)]
def Sw:Sk:=.s 1
def Qg6:List (Nat×Sk):=[(0,Sw)]
def Qrd:SkO:=.row 9 .str
def Q6e:Shp:=⟨Qg6,[(1,Qrd)]⟩
def Q10:Shp:=⟨[(18,zs7)],[]⟩
def Qax:Hn:=.nl 6 Vp
def Sx:Sk:=.s 100000
def Qiy:Sk:=.s 100200
def Jk8:List (Nat×Sk):=[(5,Qiy)]
def Jps:Exs:=[(.x 0,⟨Jk8,[(100200,Qrd)]⟩)]
def Qe5:Sk:=.s 100100
def Jpt:Exs:=[(.n,⟨[(5,Qe5)],[(100100,Qrd)]⟩)]
def Jrb:Shp:=sD [Vf,Jv]
def Sy:Sk:=.p 100000 []
def Yc:Sk:=.d .str
def Jpu:Sk:=.d (.sl .str)
def Jpv:SkO:=.var 151 (.ag (sL [zs3,zs3,zs3,Yc,Jpu,Jpu,zs7,zs7]))
def Q11:Sk:=.s 2
def Jcf:Sk:=.ag (sL [Sw,Q11,.s 3])
def Q6f:SkO:=.row 94 V0
def Qs4:SkO:=.row 151 Vf
def H1:SkO:=.row 3 .i
def Nf:HT:=.tl Vp
def Qb4:Sk:=.p 100100 []
def Jpw:Sk:=.p 100101 []
def Jgy:Sk:=.s 100102
def Jgz:Sk:=.s 100103
def Qkz:Sk:=.p 100200 []
def Q12:Sk:=.s 100201
def Jk9:Sk:=.s 100202
def Jpx:Sk:=.s 100203
def Q6g:Hn:=.n 3 .done
def Qre:HT:=.tl Q6g
def Jrc:Exs:=[(.n,⟨[(90,zs7)],[]⟩)]
def Q6h:Hn:=.n 2 .done
def Jcg:HT:=.tl Q6h
def Ng:Shp:=sD [.i,.i]
def Qrf:Sk:=.s 100001
def Jla:Sk:=.s 100002
def Jpy:Sk:=.s 100003
def Jpz:Sk:=.ag (sL [Qrf,Jla,Jpy])
def Jrd:Exs:=[(.x 0,zs6),(.r,⟨[(2,zs3),(3,zs3)],[]⟩)]
def Q13:Hn:=.n 6 .done
def Qiz:Hn:=.call 0 Vp
def Jlb:Hn:=.n 5 .done
def Jg0:Hn:=.call 1 Vp
def Qnf:Exs:=[(.x 0,zs6),(.r,⟨[(2,zs3)],[]⟩)]
def Jp0:Exs:=[(.x 2,zs6),(.r,⟨[(2,zs3)],[]⟩)]
def Jg1:Hn:=.n 10 .done
def Jre:Shp:=sD [Yo]
def Jlc:Hn:=.nl 13 .done
def Jg2:Shp:=sD [.int .u8]
def Q14:Hn:=.nl 2 Jgw
def Jg3:Shp:=⟨[(35,zs7)],[]⟩
def Jg4:Exs:=[(.x 0,zs6),(.r,⟨[(6,zs7)],[]⟩)]
def Qi0:Hn:=.n 8 .done
def Jmk:Shp:=sD [.sl V8]
def Jml:Shp:=sD [.sl Vv]
def Jmm:Shp:=sD [J6,.str]
def Jmn:Shp:=sD [.sl Gz]
def Q15:Shp:=sD [J6]
def Qrg:Shp:=sD [Ko]
def Qu9:HT:=.op ⟨.nl 1 .done,[],[],[],[]⟩ Nf
def Q8x:Hn:=.n 7 .done
def Jmo:Exs:=[(.n,⟨[(42,zs7)],[]⟩)]
def Jg5:List (Nat×SkO):=[(100000,H1)]
def Jmp:Shp:=⟨[(7,Sx),(8,zs3)],Jg5⟩
def Jg6:Shp:=⟨[(4,zs3),(5,zs3)],[]⟩
def Q16:Shp:=sD [Q8]
def Q17:Shp:=sD [.sl .i,.i]
def Jg7:Shp:=⟨Qg6,[(1,H1)]⟩
def Qrh:Sk:=.s 100400
def Jg8:List (Nat×SkO):=[(100400,H1)]
def Qmm:Sk:=.s 100300
def Jg9:List (Nat×SkO):=[(100200,H1)]
def Q8y:Sk:=.s 100500
def Jmq:Shp:=⟨[(0,.d (.sl .i))],[]⟩
def Jmr:Shp:=sD [Q8,.i]
def Dw:SkO:=.row 66 Q8
def Qi1:Shp:=⟨Qg6,[(1,Dw)]⟩
def Q8z:List (Nat×SkO):=[(100000,Dw)]
def Jha:List (Nat×SkO):=[(100400,Dw)]
def Jms:HT:=.op ⟨.nl 1 .done,[],[],[],[]⟩ (.op ⟨.nl 1 .done,[],[],[],[]⟩ Jcg)
def Jmt:HT:=.op ⟨.nl 1 .done,[],[],[],[]⟩ Jms
def Q80:Shp:=sD [Q8,Q8]
def Jmu:Shp:=sD [Q8,.bool]
def Jmv:Hn:=.nl 2 (.call 5 Vp)
def Jhb:Shp:=sD [Ud]
def Um:SkO:=.row 68 Ym
def Qbr:SkO:=.row 63 Vq
def Qbs:SkO:=.row 88 Yp
def Jmw:List (Nat×SkO):=[(1,Um),(2,Qbr),(3,Qbs)]
def Q18:Shp:=⟨[(0,Jcf)],Jmw⟩
def Q81:HT:=.op ⟨.nl 1 .done,[],[],[3],[3]⟩ Nf
def Qva:List (Nat×Sk):=[(3,Qb4)]
def Qdf:Sk:=.s 100101
def Qi2:Hn:=.n 4 .done
def Jhc:List (Nat×Sk):=[(5,Sx),(10,zs3)]
def Qf6:Sk:=.p 100300 []
def Jhd:Sk:=.p 100301 []
def Q82:SkO:=.var 151 (.ag (sL [zs3,zs3,zs3,Yc,.ns,.ns,zs7,zs7]))
def Qvb:Shp:=sD [.sl Jv,.i]
def Qmn:SkO:=.row 305 Vg
def Q19:Sk:=.p 100001 []
def Jhe:Sk:=.d Vf
def Jhf:SkO:=.var 151 Jhe
def Jhg:Sk:=.p 100201 []
def Q83:Hn:=.nl 9 Vp
def Jmx:Shp:=sD [Vg,Vg]
def Jmy:List (Nat×Sk):=[(7,Sx),(13,zs3)]
def Jmz:HT:=.op ⟨.nl 1 .done,[],[],[],[]⟩ (.op ⟨.nl 1 .done,[],[],[],[]⟩ (.op ⟨.nl 1 .done,[],[],[],[]⟩ (.op ⟨.nl 1 .done,[],[],[],[]⟩ (.op ⟨.nl 1 .done,[],[],[],[]⟩ (.tl Qs1)))))
def Q84:HT:=.op ⟨.nl 1 .done,[],[],[],[]⟩ (.op ⟨.nl 1 .done,[],[],[],[]⟩ Jmz)
def Q85:SkO:=.row 92 Ce
def Qdg:Sk:=.d Q8
def Jhh:SkO:=.var 66 Qdg
def Q86:Shp:=sD [.sl Jv,.i,.i]
def Jm0:SkO:=.var 92 (.ag (sL [Qdg,Yc,.ns,zs7,zs7]))
def Jhi:List (Nat×Sk):=[(6,Qkz),(7,zs7)]
def Au:Sk:=.d Ce
def Q2a:SkO:=.map .i V0
def Qmo:SkO:=.map .i .bool
def Qbt:SkO:=.map .i .i
def Jm1:Sk:=.d (.sl Jv)
def Or:SkO:=.var 3 zs3
def Gr:Sk:=.p 5000 []
def Q87:Sk:=.m 5001
def Qvc:Sk:=.m 5002
def Q88:Sk:=.m 5003
def Q89:Sk:=.m 5004
def Q9a:Sk:=.m 5005
def Qi3:Sk:=.s 5006
def Qri:Sk:=.s 5007
def Jhj:List (Nat×SkO):=[(5000,.var 379 (.ag (sL [Q87,Qvc,Q88,Q89,Q9a,Qi3,Qri]))),(5001,Q2a),(5002,.map .i Vf),(5003,Qmo),(5004,.map .str .i),(5005,Qbt),(5006,H1),(5007,H1)]
def Jhk:List (Nat×SkO):=[(5004,.map .str .i)]
def Qbu:List (Nat×Sk):=[(0,Gr)]
def Jm2:Hn:=.fz 5006 (.dt 5000 .done)
def Jm3:Shp:=⟨[(0,.ag (sL [Sw,Q11]))],[(1,Q6f),(2,Qs4)]⟩
def Jhl:SkO:=.mapC .i (.sl 3 .i)
def Q2b:Sk:=.s 100301
def Jhm:Sk:=.s 100302
def Qvd:Sk:=.p 100400 []
def Q9b:Sk:=.s 100401
def Jm4:List (Nat×Sk):=[(6,Sy),(15,zs3)]
def Jm5:SkO:=.var 94 (.ag (sL [zs3,zs3,zs3,zs7,zs7,.ns]))
def By:Sk:=.d V0
def H2:Sk:=.d Vw
def Bz:Sk:=.d Ud
def V7:Sk:=.d J0
def Qrj:Sk:=.s 5001
def Ot:Sk:=.s 5002
def S5:Sk:=.s 5003
def Qbv:Sk:=.s 5004
def Qmp:Sk:=.s 5005
def Jm6:Sk:=.ag (sL [V7,zs3,Yc,zs3,Yc,Qri,.s 5008,zs3,zs3,zs3,.s 5009,zs3,zs3])
def B1:SkO:=.row 135 V8
def Ww:SkO:=.row 138 Vv
def Hk:SkO:=.row 142 G0
def Fo:SkO:=.row 182 Vb
def Ua:SkO:=.row 70 Qet
def Ub:SkO:=.row 86 Lg
def Uu:SkO:=.row 116 Qab
def Qi4:List (Nat×Sk):=[(0,zs3)]
def Q2c:Sk:=.ag (sL [Yc,zs3,zs7,Sw,Q11,.s 3,.s 4])
def Jm7:Sk:=.ag (sL [V7,zs3,Yc,zs3,Yc,.s 5,.s 6,zs3,zs3,zs3,.s 7,zs3,zs3])
def Jm8:SkO:=.var 102 (.ag (sL [H2,Bz,V7,.ag (sL [Qdg,Yc,Jpu,zs7,zs7]),.ag (sL [zs3,zs3,zs3,zs7,zs7,.d (.sl .i)]),Q2c,zs3,Jm7]))
def Jm9:HT:=.op ⟨.nl 1 .done,[],[],[3],[3]⟩ (.op ⟨.nl 1 .done,[3],[],[],[3]⟩ Nf)
def I6:Sk:=.p 5001 []
def Qmq:Sk:=sL [Gr]
def Qmr:SkO:=.var 41 zs3
def Jna:Shp:=sD [.sl Kn]
def Q9c:SkO:=.row 140 Gz
def Q9d:SkO:=.row 180 Ko
def Jhn:List (Nat×SkO):=[(1,B1),(2,Ww),(3,Hk),(4,Fo)]
def Jnb:List (Nat×SkO):=[(100000,.var 100 (.ag (sL [Yc,zs3,zs7,Qrf,.ns,.ns,.ns]))),(100001,B1)]
def Jnc:Exs:=[(.x 0,⟨Qva,[(100100,.var 100 (.ag (sL [Yc,zs3,zs7,Qdf,.ns,.ns,.ns]))),(100101,B1)]⟩)]
def Jnd:List (Nat×SkO):=[(100200,.var 100 (.ag (sL [Yc,zs3,zs7,Q12,Jk9,.ns,.ns]))),(100201,B1),(100202,Ww)]
def Jne:Exs:=[(.x 2,⟨[(3,Qf6)],[(100300,.var 100 (.ag (sL [Yc,zs3,zs7,Q2b,Jhm,.ns,.ns]))),(100301,B1),(100302,Ww)]⟩)]
def Jnf:List (Nat×SkO):=[(100400,.var 100 (.ag (sL [Yc,zs3,zs7,Q9b,.s 100402,.s 100403,.ns]))),(100401,B1),(100402,Ww),(100403,Hk)]
def Jng:List (Nat×Sk):=[(3,.p 100500 [])]
def Jho:Sk:=.s 100501
def Jnh:Exs:=[(.x 4,⟨Jng,[(100500,.var 100 (.ag (sL [Yc,zs3,zs7,Jho,.s 100502,.s 100503,.ns]))),(100501,B1),(100502,Ww),(100503,Hk)]⟩)]
def Jhp:Sk:=.s 100601
def Jni:List (Nat×SkO):=[(100600,.var 100 (.ag (sL [Yc,zs3,zs7,Jhp,.s 100602,.s 100603,.s 100604]))),(100601,B1),(100602,Ww),(100603,Hk),(100604,Fo)]
def Jnj:List (Nat×Sk):=[(3,.p 100700 [])]
def Jhq:Sk:=.s 100701
def Jnk:Exs:=[(.x 6,⟨Jnj,[(100700,.var 100 (.ag (sL [Yc,zs3,zs7,Jhq,.s 100702,.s 100703,.s 100704]))),(100701,B1),(100702,Ww),(100703,Hk),(100704,Fo)]⟩)]
def Jhr:Exs:=[(.n,Qkx)]
def Jnl:List (Nat×SkO):=[(5000,.var 135 (.d V8))]
def Qms:Sk:=.d (.sl V8)
def Jnm:Shp:=⟨[(0,Qms),(1,.f 241 Qmq)],Jnl⟩
def Qve:SkO:=.map .str .str
def Q9e:Sk:=.m 100000
def Q9f:Sk:=.m 100100
def Q2d:Hn:=.nl 1 Jk4
def Jnn:An:=.two (.reg Q6h) .nil
def Jhs:Sk:=.ag (sL [V7,zs3,Yc,zs3,Yc,Qmp,Qi3,zs3,zs3,zs3,Qri,zs3,zs3])
def Jno:Sk:=.ag (sL [V7,zs3,Yc,zs3,Yc,.s 4,.s 5,zs3,zs3,zs3,.s 6,zs3,zs3])
def Jht:SkO:=.var 102 (.ag (sL [H2,Bz,V7,Au,By,.ag (sL [Yc,zs3,zs7,Qms,Sw,Q11,.s 3]),zs3,Jno]))
def Jnp:Shp:=sD [.sl Ym]
def Jnq:HT:=.op ⟨.nl 1 .done,[],[],[],[1]⟩ (.op ⟨.nl 1 .done,[],[1],[],[]⟩ Qre)
def Jhu:Shp:=⟨[(11,zs3)],[]⟩
def Jnr:Shp:=⟨[(0,.m 1)],[(1,Qbt)]⟩
def Qmt:Hn:=.nl 7 Vp
def Q9g:Shp:=sD [.i,.i,.i]
def Qmu:Shp:=sD [Vq,.i]
def Q2e:SkO:=.var 63 (.d Vq)
def Jhv:Hn:=.n 2 (.call 4 .done)
def Q9h:Shp:=sD [Ym]
def Jhw:Shp:=⟨[(0,.ag (sL [zs3,zs3,Yc,zs3,zs3,Sw,Qdg,zs3,zs3,zs3,zs7]))],[(1,Qrd)]⟩
def Qrk:Shp:=⟨[(9,zs3)],[]⟩
def Q2f:SkO:=.var 9 Yc
def Q9i:Sk:=.d (.sl Q8)
def Jns:Exs:=[(.x 0,⟨[(7,Qiy)],[(100200,Dw)]⟩)]
def Jnt:Exs:=[(.n,⟨[(7,Qe5)],[(100100,Dw)]⟩)]
def Q9j:SkO:=.row 245 Ue
def Qvf:SkO:=.mapC .str (.mp .i .bool)
def Jhx:Shp:=⟨[(25,zs7)],[]⟩
def Jhy:Hn:=.nl 1 Qiz
def Q9k:SkO:=.var 393 (.d Qeu)
def Qmv:SkO:=.row 415 Vx
def Jnu:Shp:=⟨[(0,Q9i),(1,zs3),(2,Gr)],[(5000,.var 413 Qrj),(5001,Qmv)]⟩
def Jnv:Shp:=⟨[],[(5000,.var 413 Sw),(1,Qmv)]⟩
def Q9l:SkO:=.var 264 (.d (.arr 2 .i))
def Jnw:List (Nat×SkO):=[(5000,Q2f),(5001,Or)]
def Qi5:SkO:=.row 108 Yo
def Qvg:SkO:=.row 110 K5
def Q9m:SkO:=.row 249 H9
def Q9n:Shp:=sD [Ym,Ym]
def Qbw:SkO:=.map Uw .bool
def Jnx:HT:=.op ⟨.call 0 .done,[],[],[],[]⟩ Nf
def Jny:HT:=.op ⟨.nl 1 .done,[],[],[],[]⟩ (.op ⟨.nl 1 .done,[],[],[],[]⟩ (.op ⟨.nl 1 .done,[],[],[],[]⟩ (.op ⟨.nl 1 .done,[],[],[],[]⟩ (.op ⟨.nl 1 .done,[],[],[],[]⟩ (.op ⟨.nl 1 .done,[],[],[],[]⟩ (.op ⟨.nl 1 .done,[],[],[],[]⟩ (.op ⟨.nl 1 .done,[],[],[],[]⟩ (.op ⟨.nl 1 .done,[],[],[],[]⟩ (.op ⟨.nl 1 .done,[],[],[],[]⟩ (.op ⟨.nl 1 .done,[],[],[],[]⟩ (.op ⟨.nl 1 .done,[],[],[],[]⟩ (.op ⟨.nl 1 .done,[],[],[],[]⟩ (.op ⟨.nl 1 .done,[],[],[],[]⟩ (.tl Sv))))))))))))))
def Jnz:List (Nat×SkO):=[(5000,.var 138 (.d Vv))]
def Jn0:Sk:=.d (.sl Vv)
def Jn1:Shp:=⟨[(0,Jn0),(1,.f 271 Qmq)],Jnz⟩
def Jn2:List (Nat×SkO):=[(5000,Or),(5001,Or)]
def Jn3:Shp:=⟨[(0,.d (.sl Kn)),(1,.f 273 (sL [Gr,I6]))],Jn2⟩
def Qvh:SkO:=.row 343 Qgu
def Jn4:SkO:=.var 142 (.ag (sL [zs3,Yc,Yc,zs3,.ns]))
def Jhz:List (Nat×SkO):=[(5000,Q9c)]
def Qrl:Shp:=sD [.i,.bool]
def Jn5:Shp:=sD [J6,.sl .i,J0,.i]
def Jn6:List (Nat×Sk):=[(0,Sw),(1,zs3),(2,zs3)]
def Jn7:HT:=.op ⟨.nl 1 .done,[],[],[],[]⟩ (.op ⟨.nl 1 .done,[],[],[],[]⟩ (.op ⟨.nl 1 .done,[],[],[],[]⟩ Qu9))
def Qvi:Sk:=.d J6
def Jn8:SkO:=.var 102 (.ag (sL [H2,Jcf,V7,Au,By,Qvi,zs3,Jno]))
def Jn9:Sk:=.d (.sl Yp)
def Q9o:Sk:=.ag (sL [.d (.sl Ym),.d (.sl Vq),Jn9])
def Q9p:Sk:=.ag (sL [V7,zs3,Yc,zs3,Yc,Sw,Q11,zs3,zs3,zs3,.s 3,zs3,zs3])
def Jh0:Shp:=⟨Qbu,[(5000,.var 102 (.ag (sL [H2,Bz,V7,Au,By,Qvi,zs3,.ag (sL [V7,zs3,Yc,zs3,Yc,Qrj,Ot,zs3,zs3,zs3,S5,zs3,zs3])]))),(5001,Ua),(5002,Ub),(5003,Uu)]⟩
def Jh1:Hn:=.call 0 Q6h
def Jh2:Shp:=sD [Yp]
def Q2g:SkO:=.var 88 (.d Yp)
def Joa:SkO:=.var 172 (.d R7)
def Job:Shp:=⟨[(0,zs3),(1,Gr),(2,I6)],[(5000,.var 180 (.d Ko)),(5001,Joa)]⟩
def Q2h:Shp:=sD [Ko,R7]
def Joc:HT:=.op ⟨.nl 1 .done,[],[],[],[2]⟩ (.op ⟨.nl 1 .done,[],[2],[],[]⟩ (.op ⟨.nl 1 .done,[],[],[],[]⟩ (.op ⟨.nl 1 .done,[],[],[],[]⟩ (.op ⟨.nl 1 .done,[],[3],[],[]⟩ (.op ⟨.call 2 .done,[],[],[],[]⟩ Jn7)))))
def Jod:Shp:=⟨[(8,zs3),(9,zs3)],[]⟩
def Jh3:SkO:=.var 102 (.ag (sL [H2,Bz,V7,Au,By,Qvi,zs3,Q9p]))
def Joe:Shp:=⟨Qbu,[(5000,.var 90 I6),(5001,.var 102 (.ag (sL [H2,Bz,V7,Au,By,Qvi,zs3,.ag (sL [V7,zs3,Yc,zs3,Yc,Ot,S5,zs3,zs3,zs3,Qbv,zs3,zs3])]))),(5002,Ua),(5003,Ub),(5004,Uu)]⟩
def Jof:Shp:=⟨Qi4,[(5001,Jh3),(1,Ua),(2,Ub),(3,Uu)]⟩
def Jog:List (Nat×SkO):=[(5000,.var 90 I6),(5001,.var 102 (.ag (sL [H2,Bz,V7,Au,By,Qvi,zs3,.ag (sL [V7,zs3,Yc,zs3,Yc,Ot,S5,zs3,zs3,zs3,Qbv,zs3,zs3])]))),(5002,Ua),(5003,Ub),(5004,Uu),(5005,Qmr)]
def Joh:Shp:=⟨[],[(5001,Jh3),(5005,Qmr),(1,Ua),(2,Ub),(3,Uu)]⟩
def Jh4:List (Nat×Sk):=[(3,Sy),(4,zs3)]
def Qrm:SkO:=.row 144 Jv
def Qrn:SkO:=.row 100 J6
def Qro:SkO:=.row 209 Db
def Jh5:SkO:=.row 113 V3
def Joi:Shp:=sD [Vw,.sl J0,.i]
def Joj:Shp:=sD [.sl J0]
def Jok:Sk:=.d (.sl J0)
def Jol:SkO:=.row 40 J0
def Jom:HT:=.op ⟨.nl 1 .done,[],[],[],[]⟩ (.op ⟨.nl 1 .done,[],[],[],[]⟩ (.op ⟨.nl 1 .done,[],[],[],[]⟩ (.op ⟨.nl 1 .done,[],[],[],[]⟩ (.op ⟨.nl 1 .done,[],[],[],[]⟩ (.op ⟨.nl 1 .done,[],[],[],[]⟩ (.op ⟨.nl 1 .done,[],[],[],[]⟩ (.tl Fq)))))))
def Jh6:SkO:=.row 46 Xa
def Jon:Shp:=⟨[(0,Bz),(1,Sw)],[(1,Jh6)]⟩
def H3(N n:Nat):Con:=⟨128,zs1,[zs2],fun(x0,x1)=>Yf N n x0 x1,[]⟩
theorem Fp(N:Nat):∀n,KO (H3 N n)
 | 0=>⟨F2 fun _=>rfl,I4 Tryz.func128 rfl⟩
 | n+1=>have ih:=Fp N n; kF N [fun _=>⟨_,ih⟩] [(16,.lp [1,2] [2] ⟨[(5,zs3),(6,zs3)],[]⟩ [(.x 0,zs4)])] Tryz.func128
def Qdh(N:Nat):V:=⟨H3 N N,Fp N N⟩
def Qdi(N:Nat):V:=⟨⟨74,(sD [J6,.i]),[zs5],fun(x0,x1)=>Ei N x0 x1,[]⟩,kF N [Qdh] [(14,.lp [1,2] [2] zs4 zs8),(35,.lp [1,2] [2] zs9 Jk0),(56,.lp [1,2] [2] Qnd Jk1),(77,.lp [1,2] [2] Qkx Jq5)] Tryz.func74⟩
def I7(N:Nat):V:=⟨⟨215,zs2,[(sD [.arr 5 .bool])],Wg N,[]⟩,kF N [] [(25,.jn [2,3] [2] [(.n,⟨[(13,zs7)],[]⟩)]),(35,.jn [2,3] [2] [(.n,⟨[(17,zs7)],[]⟩)]),(49,.jn [2] [2] [(.n,⟨[(22,zs7)],[]⟩)])] Tryz.func215⟩
def Qi6(N:Nat):V:=⟨⟨311,zs2,[zs5],Ea N,[]⟩,kF N [] [] Tryz.func311⟩
def Kf(N:Nat):V:=⟨⟨134,Qne,[zs5],Vh N,[]⟩,kF N [] [(4,.rg (.n 9 (.sp 12 4 [0] [] ⟨[(16,zs7)],[]⟩ Sv Sv (.n 1 (.sp 17 4 [0] [] ⟨[(21,zs7)],[]⟩ Sv Sv .done))))),(14,.lp [0] [] Qde Qrc),(24,.rg (.n 5 (.sp 32 5 [3] [] Jpm Fq Fq (.n 1 (.sp 38 11 [3] [] Jk2 (.nl 5 (.sp 43 5 [3,38] [] Jpn Jpo Jpo Vp)) (.nl 10 Vp) (.n 1 (.sp 50 5 [3] [] Jpp Fq Fq .done)))))))] Tryz.func134⟩
def Dy(N:Nat):V:=⟨⟨184,Qne,[zs5],Xb N,[]⟩,kF N [] [(6,.lp [0] [] Qde Qrc),(16,.rg (.n 5 (.sp 14 5 [3] [] Jgu Fq Fq .done)))] Tryz.func184⟩
def Qdj(N:Nat):V:=⟨⟨312,(sD [Jv]),[zs5],Ej N,[]⟩,kF N [] [] Tryz.func312⟩
def Qe6(N:Nat):V:=⟨⟨214,(sD [Jv,.i]),[zs2],fun(x0,x1)=>F5 N x0 x1,[]⟩,kF N [I7,Qi6,Kf,Dy,Qdj] [(30,.rg (.n 9 (.sp 37 9 [2,5] [2,5] ⟨[(46,zs7)],[]⟩ Qky Jk3 (.n 1 (.sp 47 9 [2,5] [2,5] ⟨[(56,zs7)],[]⟩ Qky Jk3 (.n 1 (.sp 57 9 [2,5] [2,5] ⟨[(66,zs7)],[]⟩ Qky Jk3 (.n 1 (.sp 67 9 [2,5] [2,5] ⟨[(76,zs7)],[]⟩ Qky Jk3 .done))))))))),(38,.rg (.n 3 (.sp 79 5 [2,5] [2,5] ⟨[(84,zs7)],[]⟩ Jgv Fq (.n 1 (.sp 85 9 [2,5] [2,5] ⟨[(94,zs7)],[]⟩ Qky (.nl 3 (.sp 88 5 [2,5,85] [] ⟨[(93,zs7)],[]⟩ (.nl 2 (.call 1 (.nl 2 .done))) Jpo Vp)) .done))))),(46,.rg (.n 3 (.sp 97 5 [2,5] [2,5] ⟨[(102,zs7)],[]⟩ (.nl 2 Jk5) Fq Jpq))),(54,.rg (.n 3 (.sp 120 5 [2,5] [2,5] ⟨[(125,zs7)],[]⟩ Jq6 Fq .done))),(62,.rg (.n 3 (.sp 128 4 [2] [2,5] ⟨[(132,zs7)],[]⟩ (.nl 1 (.call 4 Qs1)) Sv .done)))] Tryz.func214⟩
def Hl(N:Nat):V:=⟨⟨218,Jk6,[zs2],fun(x0,x1)=>V9 N x0 x1,[]⟩,kF N [] [(6,.lp [1,2] [2] zs4 Qs2)] Tryz.func218⟩
def Wb(N:Nat):V:=⟨⟨180,Jk6,[zs2],fun(x0,x1)=>Uk N x0 x1,[]⟩,kF N [] [(6,.lp [1,2] [2] zs4 Qs2)] Tryz.func180⟩
def Dz(N:Nat):V:=⟨⟨181,Jk6,[zs5],fun(x0,x1)=>Xc N x0 x1,[]⟩,kF N [] [(6,.lp [1,2] [2] zs4 zs8)] Tryz.func181⟩
def Qe7(N:Nat):V:=⟨⟨313,Jk6,[zs5],fun(x0,x1)=>F7 N x0 x1,[]⟩,kF N [Dz] [(6,.lp [1,2] [2] zs4 zs8),(16,.jn [5] [] [(.n,⟨[(31,zs7)],[]⟩)]),(16,.an (.dc 16 [13,14,15,16,17,18,19,20,21,22,23,24,25,26,27,28] [] [2] (.op ⟨.nl 1 .done,[],[],[],[2]⟩ (.op ⟨.nl 1 .done,[],[2],[],[]⟩ (.op ⟨.nl 1 .done,[],[],[],[]⟩ (.op ⟨.nl 1 .done,[],[],[],[]⟩ (.op ⟨.nl 1 .done,[],[],[],[]⟩ (.op ⟨.nl 1 .done,[],[],[],[]⟩ (.op ⟨.nl 1 .done,[],[],[],[]⟩ (.op ⟨.nl 1 .done,[],[],[],[]⟩ (.op ⟨.nl 1 .done,[],[],[],[]⟩ (.so 21 (.op ⟨.nl 1 .done,[],[2],[],[]⟩ (.op ⟨.nl 1 .done,[],[],[],[2]⟩ (.op ⟨.nl 1 .done,[],[2],[],[]⟩ (.op ⟨.nl 1 .done,[],[],[],[]⟩ (.op ⟨.nl 1 .done,[],[],[],[]⟩ (.op ⟨.nl 1 .done,[],[],[],[]⟩ (.op ⟨.nl 1 .done,[],[],[],[]⟩ (.tl Jgw)))))))) Jq8))))))))))))] Tryz.func313⟩
def P2(N:Nat):V:=⟨⟨216,Jpr,[zs2],fun(x0,x1)=>Xd N x0 x1,[]⟩,kF N [Hl,Wb,Qe7] [(38,.rg (.n 4 (.sp 26 6 [2,3,5] [2,3] ⟨[(32,zs7)],[]⟩ Jk7 Qs3 .done))),(46,.rg (.n 4 (.sp 36 5 [2,3,5] [2,3] Jgx (.nl 3 (.call 2 Vp)) Fq (.n 1 (.sp 42 13 [2,3,5] [2,3] Jpp (.nl 12 Vp) (.nl 4 (.sp 46 8 [2,5,42] [] ⟨[(54,zs7)],[]⟩ (.nl 8 .done) (.nl 8 .done) Vp)) .done)))))] Tryz.func216⟩
def Nh(N:Nat):V:=⟨⟨315,Q1z,[zs5],fun(x0,x1)=>Ux N x0 x1,[]⟩,kF N [] [(6,.lp [0,1] [] zs4 zs8)] Tryz.func315⟩
def Qdk(N:Nat):V:=⟨⟨314,(sD [U6,.str]),[zs5],fun(x0,x1)=>Ek N x0 x1,[]⟩,kF N [Nh] [(6,.lp [1,2] [2] zs4 zs8)] Tryz.func314⟩
def Qdl(N:Nat):V:=⟨⟨217,Jpr,[zs2],fun(x0,x1)=>El N x0 x1,[]⟩,kF N [Wb,Dz,Qdk,Nh] [(23,.jn [] [2,3,6] Jq9),(67,.jn [3,6,23] [] Jra),(81,.jn [3,6] [] [(.n,⟨[(62,zs7)],[]⟩)])] Tryz.func217⟩
def Qdm(N:Nat):V:=⟨⟨129,(sD [U6,Jv,.i]),[zs2],fun(x0,x1,x2)=>Em N x0 x1 x2,[]⟩,kF N [Qe6,I7,P2,Qdl] [] Tryz.func129⟩
def Qe8(N:Nat):V:=⟨⟨316,Q1z,[Q6e],fun(x0,x1)=>Wh N x0 x1,[]⟩,kF N [] [(6,.lp [0,1] [] zs4 [(.x 0,zs4)]),(9,.rg (.n 5 (.sp 11 7 [5] [] Q10 Qax Qax .done)))] Tryz.func316⟩
def Qay(N:Nat):V:=⟨⟨317,Q1z,[Q6e],fun(x0,x1)=>Z0 N x0 x1,[]⟩,kF N [] [(8,.lp [0,1] [] ⟨[(5,Sx),(6,zs3)],[(100000,Qrd)]⟩ Jps),(16,.jn [6] [] Jpt)] Tryz.func317⟩
def Qaz(N:Nat):V:=⟨⟨219,Jrb,[(sD [Vf])],fun(x0,x1)=>Gc N x0 x1,[]⟩,kF N [Qe8,Qay] [(3,.jn [4] [3,4] [(.n,⟨[(2,Sy)],[(100000,Jpv)]⟩)])] Tryz.func219⟩
def Qdn(N:Nat):V:=⟨⟨130,Jpr,[⟨[(0,Jcf)],[(1,Q6f),(2,Qs4),(3,H1)]⟩],fun(x0,x1)=>Eo N x0 x1,[]⟩,kF N [Hl,Wb,Qaz] [(3,.an (.dc 14 [7,8,9,10,11,12,13,14,15,16,17,18,19,5] [2] [] (.op ⟨.nl 1 .done,[],[],[7],[7]⟩ (.op ⟨.nl 1 .done,[],[],[],[2]⟩ (.op ⟨.nl 1 .done,[],[2],[],[]⟩ (.op ⟨.nl 1 .done,[7],[],[10],[10]⟩ (.op ⟨.nl 1 .done,[],[],[11],[11]⟩ (.op ⟨.nl 1 .done,[],[],[],[2]⟩ (.op ⟨.nl 1 .done,[],[2],[],[]⟩ (.op ⟨.nl 1 .done,[11],[],[14],[14]⟩ (.op ⟨.nl 1 .done,[],[],[15],[15]⟩ (.op ⟨.nl 1 .done,[],[],[],[2]⟩ (.op ⟨.nl 1 .done,[],[2],[],[]⟩ (.op ⟨.nl 1 .done,[15],[],[18],[18]⟩ (.op ⟨.nl 1 .done,[],[],[],[10,14,18]⟩ (.op ⟨.nl 1 .done,[],[],[5],[5]⟩ Nf)))))))))))))))),(5,.jn [] [2,3] [(.n,⟨[(4,Qb4),(5,Jpw)],[(100100,.var 202 (.ag (sL [.ns,.ns,.ns]))),(100101,.var 202 (.ag (sL [Jgy,Jgz,.s 100104]))),(100102,Q6f),(100103,Qs4),(100104,H1)]⟩),(.r,⟨[(4,Qkz)],[(100200,.var 202 (.ag (sL [Q12,Jk9,Jpx]))),(100201,Q6f),(100202,Qs4),(100203,H1)]⟩)]),(15,.an (.dc 6 [66,67,68,69,70,71] [5] [2,3] (.op ⟨.nl 1 .done,[],[],[],[5]⟩ (.op ⟨.nl 1 .done,[],[5],[],[10]⟩ (.op ⟨.nl 1 .done,[],[2],[],[]⟩ (.op ⟨.nl 1 .done,[],[],[],[3]⟩ (.op ⟨.nl 1 .done,[],[3],[],[]⟩ (.op ⟨.call 0 .done,[],[],[],[]⟩ Qre)))))))),(21,.jn [2,3,4,5] [4,5,10,14,18] Jrc),(33,.an (.dc 10 [26,27,28,29,30,31,32,33,34,35] [5,14] [3] (.op ⟨.nl 1 .done,[],[],[],[5]⟩ (.op ⟨.nl 1 .done,[],[5],[],[14]⟩ (.op ⟨.nl 1 .done,[],[],[],[]⟩ (.op ⟨.nl 1 .done,[],[],[],[5]⟩ (.op ⟨.nl 1 .done,[],[5],[],[14]⟩ (.op ⟨.nl 1 .done,[],[],[],[]⟩ (.op ⟨.nl 1 .done,[],[14],[],[14]⟩ (.op ⟨.nl 1 .done,[],[14],[],[]⟩ (.op ⟨.nl 1 .done,[],[3],[],[]⟩ (.op ⟨.call 2 .done,[],[],[],[]⟩ Jcg))))))))))))] Tryz.func130⟩
def Qdo(N:Nat):V:=⟨⟨75,(sD [.sl Jv]),[Ng],Ep N,[]⟩,kF N [Qdm,Qdn] [(18,.lp [0] [] ⟨[(4,Sy),(5,zs3),(6,zs3)],[(100000,.var 202 Jpz),(100001,Q6f),(100002,Qs4),(100003,H1)]⟩ Jrd),(28,.an (.dr 6 Q13 Qiz)),(38,.an (.dr 5 Jlb Jg0))] Tryz.func75⟩
def Qdp(N:Nat):V:=⟨⟨318,(sD [.sl .str]),[zs2],Er N,[]⟩,kF N [Kf] [(14,.lp [0] [] Qde Qnf),(35,.lp [0] [] Q6d Jp0),(45,.an (.dr 10 Jg1 .done))] Tryz.func318⟩
def Qb5(N:Nat):V:=⟨⟨220,(sD [K5]),[zs2],Ho N,[]⟩,kF N [Qdp] [] Tryz.func220⟩
def Qg7(N:Nat):V:=⟨⟨131,Jre,[zs2],Cf N,[]⟩,kF N [Kf,Qb5] [(46,.lp [1] [1] Qde Qnf)] Tryz.func131⟩
def Qdq(N:Nat):V:=⟨⟨76,(sD [.sl Yo]),[zs2],Es N,[]⟩,kF N [Qg7] [(14,.lp [0] [] Qde Qnf),(34,.an (.dr 44 (.n 3 (.sp 24 41 [3] [] ⟨[(65,zs7)],[]⟩ (.nl 13 (.sp 37 27 [3,24] [] ⟨[(64,zs7)],[]⟩ (.nl 27 .done) (.nl 13 (.sp 50 13 [3,24,37] [] ⟨[(63,zs7)],[]⟩ Jlc Jlc (.nl 1 .done))) Vp)) (.nl 40 Vp) .done)) .done))] Tryz.func76⟩
def Qdr(N:Nat):V:=⟨⟨319,Jg2,[zs5],Xe N,[]⟩,kF N [] [] Tryz.func319⟩
def Qds(N:Nat):V:=⟨⟨320,Jg2,[zs5],Et N,[]⟩,kF N [] [] Tryz.func320⟩
def I8(N:Nat):V:=⟨⟨221,Qne,[zs5],Wi N,[]⟩,kF N [Qdr,Qds] [(4,.rg (.n 9 (.sp 12 5 [0] [] ⟨[(17,zs7)],[]⟩ Fq Q14 .done))),(14,.lp [0] [] Qde Qrc),(24,.rg (.n 3 (.call 0 (.n 2 (.sp 29 6 [3] [] Jg3 Jk7 Qs3 (.n 1 (.sp 36 5 [3] [] Jgx Fq Fq .done)))))))] Tryz.func221⟩
def I9(N:Nat):V:=⟨⟨303,Qne,[zs5],Wj N,[]⟩,kF N [] [(4,.rg (.n 9 (.sp 14 4 [0] [] Q10 Sv Sv (.n 1 (.sp 19 4 [0] [] ⟨[(23,zs7)],[]⟩ Sv Sv .done))))),(14,.lp [0] [] Qde Qrc),(24,.an (.dr 22 (.n 5 (.sp 34 5 [3] [] ⟨[(39,zs7)],[]⟩ Fq Fq (.n 5 (.sp 44 5 [3,39] [] Jk2 Fq Fq Q6h)))) .done)),(26,.rg (.n 7 (.sp 56 5 [3] [] ⟨[(61,zs7)],[]⟩ Fq Fq .done)))] Tryz.func303⟩
def Qa0(N:Nat):V:=⟨⟨351,(sD [.sl V8,.i,.i]),[zs5],fun(x0,x1,x2)=>Ge N x0 x1 x2,[]⟩,kF N [] [(6,.lp [0,1,2] [] Qnd Jg4),(18,.lp [7] [] Qkx [(.x 2,zs6),(.r,⟨[(6,zs7)],[]⟩)]),(34,.an (.dr 17 (.n 17 .done) .done))] Tryz.func351⟩
def Qe9(N:Nat):V:=⟨⟨281,(sD [.sl V8,.i]),[zs2],fun(x0,x1)=>F8 N x0 x1,[]⟩,kF N [I9,Dy,Qa0] [(16,.lp [0,1,5] [5] zs9 Qs2),(26,.an (.dr 8 Qi0 .done)),(53,.lp [0,1,5] [5] Qnd [(.x 2,zs6),(.r,Q6d)])] Tryz.func281⟩
def Qdt(N:Nat):V:=⟨⟨183,Jmk,[zs2],Eu N,[]⟩,kF N [Qe9] [(14,.lp [0] [] Qde Qnf)] Tryz.func183⟩
def Qdu(N:Nat):V:=⟨⟨304,(sD [.sl Kn,.bool]),[zs2],fun(x0,x1)=>Ev N x0 x1,[]⟩,kF N [] [(38,.lp [0] [] zs4 Qs2)] Tryz.func304⟩
def Qdv(N:Nat):V:=⟨⟨204,Jml,[zs2],Ew N,[]⟩,kF N [I9,Qdu] [(22,.lp [0] [] Qde Qnf),(43,.lp [3] [] Q6d Jp0),(53,.an (.dr 11 (.n 11 .done) .done))] Tryz.func204⟩
def Qfa(N:Nat):V:=⟨⟨321,Jmm,[zs5],fun(x0,x1)=>F9 N x0 x1,[]⟩,kF N [] [(6,.lp [1,2] [2] zs4 zs8)] Tryz.func321⟩
def Qfb(N:Nat):V:=⟨⟨322,Jmm,[zs5],fun(x0,x1)=>Aa N x0 x1,[]⟩,kF N [] [(6,.lp [1,2] [2] zs4 zs8)] Tryz.func322⟩
def D0(N:Nat):V:=⟨⟨136,Jmn,[zs2],Xf N,[]⟩,kF N [] [(24,.lp [0] [] ⟨[(3,zs3),(4,zs3)],[]⟩ Qnf)] Tryz.func136⟩
def Qdw(N:Nat):V:=⟨⟨222,Q15,[zs2],Ey N,[]⟩,kF N [Qfa,Qfb,D0] [(14,.lp [1] [1] Qde Qnf),(35,.rg (.n 3 (.call 0 (.n 2 (.sp 35 6 [3,4] [4] Jgx Qs3 Jk7 .done)))))] Tryz.func222⟩
def Qdx(N:Nat):V:=⟨⟨409,zs2,[zs2],Ez N,[]⟩,kF N [] [] Tryz.func409⟩
def Qg8(N:Nat):V:=⟨⟨434,Q1z,[zs5],fun(x0,x1)=>G1 N x0 x1,[]⟩,kF N [] [(6,.lp [0,1] [] zs4 zs8)] Tryz.func434⟩
def H4(N:Nat):V:=⟨⟨410,Qne,[zs2],Un N,[]⟩,kF N [Qg8] [] Tryz.func410⟩
def Qg9(N:Nat):V:=⟨⟨392,Qrg,[zs2],Cg N,[]⟩,kF N [Qdx,H4] [(4,.an (.dc 6 [3,4,5,6,7,8] [1] [] (.op ⟨.nl 1 .done,[],[],[],[1]⟩ (.op ⟨.nl 1 .done,[],[1],[],[]⟩ (.op ⟨.call 0 .done,[],[],[],[]⟩ (.op ⟨.nl 1 .done,[],[],[],[1]⟩ (.op ⟨.nl 1 .done,[],[1],[],[]⟩ Qu9))))))),(28,.rg (.n 4 (.sp 35 5 [1] [1] ⟨[(40,zs7)],[]⟩ Jgv Fq .done)))] Tryz.func392⟩
def Qb6(N:Nat):V:=⟨⟨393,(sD [Ko,.sl .i]),[zs2],fun(x0,x1)=>Hp N x0 x1,[]⟩,kF N [H4] [(41,.an (.dr 7 Q8x .done)),(48,.jn [] [2] Jq9),(52,.jn [1,30] [] [(.n,Jg3)]),(66,.jn [1,30] [] Jmo),(80,.jn [1] [] [(.n,Jk2)])] Tryz.func393⟩
def B2(N n:Nat):Con:=⟨364,zs1,[Ng],fun(x0,x1)=>Vi N n x0 x1,[]⟩
theorem D1(N:Nat):∀n,KO (B2 N n)
 | 0=>⟨F2 fun _=>rfl,I4 Tryz.func364 rfl⟩
 | n+1=>have ih:=D1 N n; kF N [Qg9,fun _=>⟨_,ih⟩,Qb6] [(26,.lp [1,2] [2] Jmp [(.x 0,⟨[(7,Qe5)],[(100100,H1)]⟩),(.r,Jg6)])] Tryz.func364
def Qi7(N:Nat):V:=⟨B2 N N,D1 N N⟩
def Qfc(N:Nat):V:=⟨⟨306,Qrg,[Ng],Ab N,[]⟩,kF N [Qi7] [] Tryz.func306⟩
def P3(N:Nat):V:=⟨⟨223,Q15,[zs2],Xg N,[]⟩,kF N [I8,Qfc] [(14,.lp [1] [1] Qde Qnf),(37,.lp [3,4] [4] zs4 Jp0),(47,.an (.dr 9 (.n 9 .done) .done))] Tryz.func223⟩
def Qb7(N:Nat):V:=⟨⟨132,Q15,[zs2],Hq N,[]⟩,kF N [I8,Qdt,Qdv,Qdw,P3] [(21,.jn [1] [1] [(.n,Qde)]),(27,.jn [1] [1] [(.n,Qde)]),(33,.jn [] [1] [(.n,Qde)])] Tryz.func132⟩
def Qdy(N:Nat):V:=⟨⟨133,(sD [J6,J6]),[zs2],fun(x0,x1)=>E0 N x0 x1,[]⟩,kF N [] [] Tryz.func133⟩
def Qdz(N:Nat):V:=⟨⟨77,(sD [.sl J6]),[zs2],E1 N,[]⟩,kF N [Qb7,Qdy] [(14,.lp [0] [] Qde Qnf),(34,.jn [3] [] [(.n,⟨[(36,zs7)],[]⟩)]),(34,.an (.dc 12 [22,23,24,25,26,27,28,29,30,31,32,33] [] [] (.op ⟨.nl 1 .done,[],[],[],[]⟩ (.op ⟨.nl 1 .done,[],[],[],[]⟩ (.op ⟨.nl 1 .done,[],[],[],[]⟩ (.so 24 (.op ⟨.nl 1 .done,[],[],[],[]⟩ (.op ⟨.nl 1 .done,[],[],[],[]⟩ (.op ⟨.nl 1 .done,[],[],[],[]⟩ (.op ⟨.nl 1 .done,[],[],[],[]⟩ (.op ⟨.nl 1 .done,[],[],[],[]⟩ (.op ⟨.nl 1 .done,[],[],[],[]⟩ (.op ⟨.nl 1 .done,[],[],[],[]⟩ (.op ⟨.nl 1 .done,[],[],[],[]⟩ (.op ⟨.nl 1 .done,[],[],[],[]⟩ (.tl Jk4)))))))))) (.op ⟨.nl 1 .done,[],[],[],[]⟩ (.op ⟨.nl 1 .done,[],[],[],[]⟩ Jq8))))))))] Tryz.func77⟩
def Qd0(N:Nat):V:=⟨⟨78,(sD [.sl Db]),[zs5],E2 N,[]⟩,kF N [Kf] [(6,.lp [0] [] Qde Qrc),(26,.an (.dr 35 (.n 3 (.sp 41 32 [3,4] [4] ⟨[(73,zs7)],[]⟩ (.nl 10 (.sp 51 21 [3,4,41] [] ⟨[(72,zs7)],[]⟩ (.nl 21 .done) (.nl 10 (.sp 61 10 [3,4,41,51] [] ⟨[(71,zs7)],[]⟩ (.nl 10 .done) (.nl 10 .done) (.nl 1 .done))) Vp)) (.nl 31 Vp) .done)) .done))] Tryz.func78⟩
def Gs(N:Nat):V:=⟨⟨135,Q16,[zs5],U7 N,[]⟩,kF N [] [] Tryz.func135⟩
def Qha(N:Nat):V:=⟨⟨397,Q17,[Jg7],fun(x0,x1)=>G2 N x0 x1,[]⟩,kF N [] [(10,.lp [0,1] [] ⟨[(5,Sx),(6,zs7),(7,zs3)],Jg5⟩ [(.x 0,⟨[(5,Qrh),(6,zs7)],Jg8⟩)]),(18,.jn [7] [] [(.n,⟨[(5,Qmm),(6,zs7)],[(100300,H1)]⟩)]),(20,.jn [7] [] [(.n,⟨[(5,Qiy),(6,zs7)],Jg9⟩)]),(21,.rg (.n 3 (.sp 16 7 [5,6,7] [100000] ⟨[(23,zs7)],[]⟩ Qax Qax .done))),(34,.jn [] [] [(.n,⟨[(5,Q8y)],[(100500,H1)]⟩)])] Tryz.func397⟩
def Qb8(N:Nat):V:=⟨⟨367,(sD [.sl .i,.sl Q8]),[(sD [.sl .i])],fun(x0,x1)=>Ke N x0 x1,[]⟩,kF N [Gs,Qha] [(6,.lp [1] [] ⟨[(0,.d (.sl .i)),(5,zs3)],[]⟩ [(.x 0,Jmq)]),(14,.jn [5] [] [(.n,Jmq)]),(18,.an (.dc 12 [17,18,19,20,21,22,23,24,25,26,27,28] [] [] (.op ⟨.nl 1 .done,[],[],[],[]⟩ (.op ⟨.nl 1 .done,[],[],[],[]⟩ (.op ⟨.nl 1 .done,[],[],[],[]⟩ (.op ⟨.nl 1 .done,[],[],[],[]⟩ (.op ⟨.nl 1 .done,[],[],[],[]⟩ (.op ⟨.nl 1 .done,[],[],[],[]⟩ (.op ⟨.call 1 .done,[],[],[12301],[12301]⟩ (.op ⟨.nl 1 .done,[],[],[],[]⟩ (.op ⟨.nl 1 .done,[],[],[],[]⟩ (.op ⟨.nl 1 .done,[],[],[],[]⟩ (.op ⟨.nl 1 .done,[],[],[],[]⟩ (.op ⟨.nl 1 .done,[],[],[],[]⟩ (.tl Jg0)))))))))))))))] Tryz.func367⟩
def S6(N:Nat):V:=⟨⟨358,Jmr,[zs5],fun(x0,x1)=>X9 N x0 x1,[]⟩,kF N [Gs] [] Tryz.func358⟩
def Qi8(N:Nat):V:=⟨⟨368,(sD [.sl Q8,.i]),[zs5],fun(x0,x1)=>Eb N x0 x1,[]⟩,kF N [S6] [(6,.lp [0,1] [] zs4 zs8)] Tryz.func368⟩
def Qb9(N:Nat):V:=⟨⟨323,(sD [.sl Q8,.sl Q8,.bool,.bool]),[Qi1],fun(x0,x1,x2,x3)=>Hr N x0 x1 x2 x3,[]⟩,kF N [Qb8,Qi8] [(10,.lp [0,1,2,3,9] [] ⟨[(10,Sx),(11,zs3)],Q8z⟩ [(.x 0,⟨[(10,Q8y)],[(100500,Dw)]⟩)]),(18,.jn [11] [] [(.n,⟨[(10,Qrh)],Jha⟩)]),(21,.rg (.n 5 (.call 1 (.n 2 (.sp 31 13 [10,11] [100000] ⟨[(44,zs7)],[]⟩ (.nl 12 Vp) (.nl 3 (.sp 34 9 [10,11,31] [] ⟨[(43,zs7)],[]⟩ (.nl 5 (.call 1 (.nl 3 .done))) (.nl 9 .done) Vp)) .done))))),(28,.an (.dr 15 (.n 3 (.sp 49 12 [10,11,12] [100000] ⟨[(61,zs7)],[]⟩ (.nl 11 Vp) (.nl 11 Vp) .done)) .done)),(31,.an (.dc 12 [72,73,74,75,76,77,78,79,80,81,82,83] [] [] (.op ⟨.nl 1 .done,[],[],[],[100000]⟩ (.op ⟨.nl 1 .done,[],[],[],[]⟩ (.op ⟨.nl 1 .done,[],[],[],[]⟩ (.op ⟨.nl 1 .done,[],[],[],[]⟩ (.op ⟨.nl 1 .done,[],[],[],[]⟩ (.op ⟨.nl 1 .done,[],[],[],[]⟩ (.op ⟨.nl 1 .done,[],[],[],[]⟩ (.op ⟨.nl 1 .done,[],[],[],[]⟩ (.op ⟨.nl 1 .done,[],[],[],[]⟩ Jmt)))))))))))] Tryz.func323⟩
def Qca(N:Nat):V:=⟨⟨224,(sD [.sl Q8,.sl Q8]),[Qi1],fun(x0,x1)=>Hs N x0 x1,[]⟩,kF N [Qb9] [] Tryz.func224⟩
def P4(N:Nat):V:=⟨⟨137,Q80,[Jmu],fun(x0,x1)=>Xh N x0 x1,[]⟩,kF N [Qca] [] Tryz.func137⟩
def Nw(N:Nat):V:=⟨⟨79,(sD [.sl V3]),[zs5],Kq N,[]⟩,kF N [Gs,D0,P4] [(6,.lp [0] [] Qde Qrc),(19,.rg (.n 19 (.sp 37 5 [3,4] [4] ⟨[(42,zs7)],[]⟩ Fq Q14 (.n 1 (.sp 43 5 [3,4] [4] Jpn Fq Jgv Jg1))))),(28,.lp [3,4] [4] zs4 [(.x 2,zs6),(.r,⟨[(2,zs7)],[]⟩)])] Tryz.func79⟩
def Qd1(N:Nat):V:=⟨⟨41,(sD [Vw,.i]),[zs5],fun(x0,x1)=>E3 N x0 x1,[]⟩,kF N [Qdi,Qdo,Qdq,Qdz,Qd0,Nw] [(14,.lp [1,2] [2] zs4 zs8),(35,.lp [1,2] [2] zs9 Jk0),(56,.lp [1,2] [2] Qnd Jk1),(77,.lp [2] [2] Qkx Jq5),(87,.an (.dr 32 (.n 7 (.sp 111 7 [8] [] ⟨[(118,zs7)],[]⟩ Qax Qax (.n 1 (.sp 119 17 [8] [] ⟨[(136,zs7)],[]⟩ (.nl 16 Vp) (.nl 3 (.sp 122 13 [8,119] [] ⟨[(135,zs7)],[]⟩ Jlc Jlc Vp)) .done)))) .done)),(97,.rg (.n 3 (.sp 145 5 [2] [2] ⟨[(150,zs7)],[]⟩ (.nl 2 Jk5) Fq (.n 1 (.sp 151 5 [2] [2] ⟨[(156,zs7)],[]⟩ Jq6 Fq (.n 1 (.sp 157 4 [2] [2] ⟨[(161,zs7)],[]⟩ (.nl 2 (.call 4 Vp)) Sv (.n 1 (.sp 162 4 [2] [2] ⟨[(166,zs7)],[]⟩ Jmv Sv Vp)))))))))] Tryz.func41⟩
def Qcb(N:Nat):V:=⟨⟨42,(sD [J0]),[zs5],Ht N,[]⟩,kF N [] [] Tryz.func42⟩
def Qfd(N:Nat):V:=⟨⟨43,zs2,[zs5],Ae N,[]⟩,kF N [] [] Tryz.func43⟩
def Qa1(N:Nat):V:=⟨⟨44,(sD []),[(sD [Vw])],fun _=>Dm N,[]⟩,kF N [] [] Tryz.func44⟩
def Qxv(N:Nat):V:=⟨⟨47,Jhb,[Q18],Qad N,[]⟩,kF N [] [(3,.an (.dc 8 [6,7,8,9,10,11,12,3] [1] [] (.op ⟨.nl 1 .done,[],[],[],[1]⟩ (.op ⟨.nl 1 .done,[],[1],[],[]⟩ (.op ⟨.nl 1 .done,[],[],[8],[8]⟩ (.op ⟨.nl 1 .done,[],[],[],[1]⟩ (.op ⟨.nl 1 .done,[],[1],[],[]⟩ (.op ⟨.nl 1 .done,[],[],[11],[11]⟩ (.op ⟨.nl 1 .done,[],[],[],[8,11]⟩ Q81))))))))),(8,.lp [2,14,15] [1,2] ⟨[(3,Sy),(16,zs3)],[(100000,.var 37 Jpz),(100001,Um),(100002,Qbr),(100003,Qbs)]⟩ [(.x 0,⟨Qva,[(100100,.var 37 (.ag (sL [Qdf,Jgy,Jgz]))),(100101,Um),(100102,Qbr),(100103,Qbs)]⟩)]),(21,.rg (.n 3 (.fz 22 Qi2)))] Tryz.func47⟩
def Qk0(N:Nat):V:=⟨⟨369,Q1z,[Q6e],fun(x0,x1)=>Mg N x0 x1,[]⟩,kF N [] [(6,.lp [0,1] [] zs4 [(.x 0,zs4)]),(9,.rg (.n 5 (.sp 11 7 [5] [] Q10 Qax Qax .done)))] Tryz.func369⟩
def Qfe(N:Nat):V:=⟨⟨370,Q1z,[Q6e],fun(x0,x1)=>Af N x0 x1,[]⟩,kF N [] [(8,.lp [1,8,9] [] ⟨Jhc,[(100000,Qrd)]⟩ Jps),(16,.jn [10] [] Jpt)] Tryz.func370⟩
def Qk1(N:Nat):V:=⟨⟨324,Jrb,[(sD [Vf])],fun(x0,x1)=>Mh N x0 x1,[]⟩,kF N [Qk0,Qfe] [(3,.jn [] [3] [(.n,⟨[(2,Qf6),(4,Jhd)],[(100300,Jpv),(100301,Q82)]⟩),(.r,⟨[(4,Qkz)],[(100200,Q82)]⟩)]),(31,.jn [2,3,4,6] [2,4] Jmo),(39,.jn [2,3,4] [2,4] [(.n,Jk2)])] Tryz.func324⟩
def Qff(N:Nat):V:=⟨⟨226,Qvb,[⟨Qg6,[(1,Qmn)]⟩],fun(x0,x1)=>Ag N x0 x1,[]⟩,kF N [Qk1] [(10,.lp [1,10,11] [] ⟨[(5,Sx),(6,Q19),(12,zs3)],[(100000,Qmn),(100001,Jhf)]⟩ [(.x 0,⟨[(5,Qmm)],[(100300,Qmn)]⟩)]),(18,.jn [12] [] [(.n,⟨[(5,Qiy),(6,Jhg)],[(100200,Qmn),(100201,Jhf)]⟩)]),(32,.an (.dr 13 (.n 3 (.sp 31 10 [5,6,8,9,12] [8,100000,100001] Jgx Q83 Q83 .done)) .done))] Tryz.func226⟩
def Qi9(N:Nat):V:=⟨⟨228,(sD [Vf,Vf]),[zs5],fun(x0,x1)=>If N x0 x1,[]⟩,kF N [] [(14,.lp [3,43,44] [2,3] ⟨[(45,zs3)],[]⟩ zs8)] Tryz.func228⟩
def Qd2(N:Nat):V:=⟨⟨227,Jmx,[zs5],fun(x0,x1)=>E4 N x0 x1,[]⟩,kF N [Qi9] [] Tryz.func227⟩
def Qd3(N:Nat):V:=⟨⟨229,Jmx,[(sD [Vg])],fun(x0,x1)=>E5 N x0 x1,[]⟩,kF N [] [] Tryz.func229⟩
def H5(N:Nat):V:=⟨⟨225,⟨[(0,.d (.sl Vg)),(1,.f 227 .nil),(2,.f 229 .nil)],[]⟩,[⟨Qg6,[(1,Qmn)]⟩],Y7 N,[]⟩,kF N [Qd2,Qd3] [(8,.lp [1,2,11,12] [] ⟨Jmy,[(100000,Qmn)]⟩ [(.x 0,⟨[(7,Qiy)],[(100200,Qmn)]⟩)]),(16,.jn [13] [] [(.n,⟨[(7,Qe5)],[(100100,Qmn)]⟩)]),(22,.an (.dc 10 [19,20,21,22,23,24,25,26,27,28] [100000,9] [] (.op ⟨.nl 1 .done,[],[],[],[]⟩ (.op ⟨.nl 1 .done,[],[],[],[]⟩ (.op ⟨.nl 1 .done,[],[],[],[]⟩ (.so 21 (.op ⟨.nl 1 .done,[],[],[],[]⟩ (.op ⟨.nl 1 .done,[],[],[],[100000]⟩ (.op ⟨.nl 1 .done,[],[],[],[]⟩ (.op ⟨.nl 1 .done,[],[],[],[]⟩ (.op ⟨.nl 1 .done,[],[100000],[],[100000]⟩ (.op ⟨.nl 1 .done,[],[100000],[],[]⟩ (.op ⟨.nl 1 .done,[],[9],[],[]⟩ (.tl Qiz)))))))) Q84)))))),(24,.an (.dc 11 [31,32,33,34,35,36,37,38,39,40,41] [100000,9] [] (.op ⟨.nl 1 .done,[],[],[],[100000]⟩ (.op ⟨.nl 1 .done,[],[],[],[]⟩ (.op ⟨.nl 1 .done,[],[],[],[]⟩ (.op ⟨.nl 1 .done,[],[],[],[]⟩ (.op ⟨.nl 1 .done,[],[],[],[100000]⟩ (.op ⟨.nl 1 .done,[],[],[],[]⟩ (.op ⟨.nl 1 .done,[],[],[],[]⟩ (.op ⟨.nl 1 .done,[],[100000],[],[100000]⟩ (.op ⟨.nl 1 .done,[],[100000],[],[]⟩ (.op ⟨.nl 1 .done,[],[9],[],[]⟩ (.op ⟨.call 1 .done,[],[],[],[]⟩ Jcg)))))))))))))] Tryz.func225⟩
def Ni(N:Nat):V:=⟨⟨138,Qvb,[⟨Qg6,[(1,Q85)]⟩],fun(x0,x1)=>G3 N x0 x1,[]⟩,kF N [Qff,H5] [(10,.lp [5,14,15] [11201,11301] ⟨[(6,Sx),(16,zs3)],[(100000,Q85)]⟩ [(.x 0,⟨[(6,Qmm)],[(100300,Q85)]⟩)]),(18,.jn [16] [] [(.n,⟨[(6,Qiy)],[(100200,Q85)]⟩)]),(30,.jn [6,8,16] [8,100000] [(.n,⟨[(9,Qb4)],[(100100,Jhh)]⟩)]),(35,.an (.dc 17 [40,41,42,43,44,45,46,47,48,49,50,51,52,53,54,55,56] [100100,8] [] (.op ⟨.nl 1 .done,[],[],[],[100000]⟩ (.op ⟨.nl 1 .done,[],[100100],[],[]⟩ (.op ⟨.nl 1 .done,[],[],[],[8]⟩ (.op ⟨.nl 1 .done,[],[],[],[8]⟩ (.op ⟨.nl 1 .done,[],[8],[],[]⟩ (.op ⟨.nl 1 .done,[],[],[],[8]⟩ (.op ⟨.nl 1 .done,[],[],[],[8]⟩ (.op ⟨.nl 1 .done,[],[8],[],[]⟩ (.op ⟨.nl 1 .done,[],[],[48],[48]⟩ (.op ⟨.nl 1 .done,[],[],[],[8]⟩ (.op ⟨.nl 1 .done,[],[],[],[8]⟩ (.op ⟨.nl 1 .done,[],[8],[],[]⟩ (.op ⟨.nl 1 .done,[],[],[],[8]⟩ (.op ⟨.nl 1 .done,[],[],[],[8]⟩ (.op ⟨.nl 1 .done,[],[8],[],[]⟩ (.op ⟨.nl 1 .done,[],[],[],[48]⟩ (.op ⟨.fz 48 (.nl 1 .done),[48],[],[],[48]⟩ Jcg)))))))))))))))))))] Tryz.func138⟩
def Kw(N:Nat):V:=⟨⟨230,Q16,[zs5],V5 N,[]⟩,kF N [] [] Tryz.func230⟩
def La(N:Nat):V:=⟨⟨139,Jmr,[zs5],fun(x0,x1)=>Wk N x0 x1,[]⟩,kF N [Kw] [] Tryz.func139⟩
def Qrp(N:Nat):V:=⟨⟨84,Q86,[(sD [Ce,.bool])],fun(x0,x1,x2)=>Qae N x0 x1 x2,[]⟩,kF N [Ni,La] [(6,.lp [2,12,13] [11201] ⟨[(6,Sy),(14,zs3)],[(100000,Jm0)]⟩ [(.x 0,⟨[(6,Qb4)],[(100100,Jm0)]⟩),(.r,⟨Jhi,[(100200,.var 92 Au)]⟩)])] Tryz.func84⟩
def Qk2(N:Nat):V:=⟨⟨231,(sD []),[⟨[(0,.p 1 [])],[(1,.var 379 (.ag (sL [.m 2,.m 3,.m 4,.m 5,.m 6,.ns,.ns]))),(2,Q2a),(3,.map .i Vf),(4,Qmo),(5,.map .str .i),(6,Qbt)]⟩],fun _=>Mj N,[]⟩,kF N [] [] Tryz.func231⟩
def Qng(N:Nat):V:=⟨⟨232,Qvb,[⟨[(0,.f 325 (sL [.p 1 [],.p 2 []]))],[(1,.var 22 Jm1),(2,Or)]⟩],fun(x0,x1)=>Pd N x0 x1,[]⟩,kF N [] [] Tryz.func232⟩
def Qhb:AnY:=(.two (.reg (.n 3 .done)) (.un (.lp [2,6,7] [] ⟨[(8,.d .i)],[]⟩ [(.x 0,⟨[],[]⟩),(.r,⟨[],[]⟩)] (.two (.reg (.n 1 .done)) (.two (.two .nil .nil) (.two (.un (.two (.reg (.n 4 .done)) (.two (.yr (.h 5 (.n 5 .done) (.so 16 (.mv (.h 1 (.nl 1 .done) (.yl (.h 2 (.nl 1 (.n 1 .done)) .done)))) (.h 5 (.nl 4 (.n 1 .done)) .done)))) (.two .nil .nil)))) (.reg (.n 2 .done))))))))
def Nj(N:Nat):It:=⟨325,[(.sl Jv),(.int .i64)],Jv,fun(x1,x2)=>Ig N x1 x2⟩
theorem Qfg(N:Nat):IO (Nj N):=⟨Jkz (Y:=tx) (N:=N) (it:=Nj N) (an:=Qhb) Jgt Jgs (Q8v N []) Tryz.func325 rfl (fun x=>by kernel_rfl),I4 Tryz.func325 rfl⟩
def Qd4(N:Nat):V:=⟨⟨326,Q17,[Jg7],fun(x0,x1)=>Xi N x0 x1,[]⟩,kF N [] [(6,.lp [0,1] [] zs4 [(.x 0,zs4)]),(9,.rg (.n 5 (.sp 11 7 [5] [] Q10 Qax Qax .done)))] Tryz.func326⟩
def S7(N:Nat):V:=⟨⟨371,Q1z,[Q6e],fun(x0,x1)=>Zg N x0 x1,[]⟩,kF N [] [(6,.lp [0,1] [] zs4 [(.x 0,zs4)]),(9,.rg (.n 5 (.sp 11 7 [5] [] Q10 Qax Qax .done)))] Tryz.func371⟩
def Qja(N:Nat):V:=⟨⟨372,Q1z,[Q6e],fun(x0,x1)=>Ec N x0 x1,[]⟩,kF N [] [(8,.lp [1,8,9] [] ⟨Jhc,[(100000,Qrd)]⟩ Jps),(16,.jn [10] [] Jpt)] Tryz.func372⟩
def P5(N:Nat):V:=⟨⟨327,⟨[(0,Gr),(1,Jhe),(2,.d Jv)],Jhj⟩,[⟨[(0,Jhe)],Jhk⟩],fun(x1,x2,ce,cd,cg,ci,cj,ck,cm)=>Xj N x1 x2 ce cd cg ci cj ck cm,[5000,5001,5002,5003,5005,5006,5007]⟩,kF N [S7,Qja] [(3,.jn [6] [5,6] [(.n,⟨[(4,Q19)],[(5004,.map .str .i),(100001,Jpv)]⟩)]),(10,.an (.dr 8 Qi0 Vp)),(16,.an (.dr 6 Q13 Vp))] Tryz.func327⟩
def Nx(N:Nat):V:=⟨⟨233,⟨[(0,Gr),(1,.d Jv)],Jhj⟩,[⟨[],[(5000,.var 379 (.ag (sL [Q87,Qvc,Q88,Q89,Q9a,Sw,Q11]))),(5001,Q2a),(5002,.map .i Vf),(5003,Qmo),(5004,.map .str .i),(5005,Qbt),(1,H1),(2,H1)]⟩],fun(x1,ce,cd,cg,ci,cj,ck,cm)=>Kr N x1 ce cd cg ci cj ck cm,[]⟩,kF N [Qd4,P5] [(9,.jn [3] [3] [(.n,⟨Qbu,[(5000,.var 379 (.ag (sL [Q87,Qvc,Q88,Q89,Q9a,.s 100006,.s 100007]))),(5001,Q2a),(5002,.map .i Vf),(5003,Qmo),(5004,.map .str .i),(5005,Qbt),(100006,H1),(100007,H1)]⟩)]),(10,.an (.dc 12 [38,39,40,41,42,43,44,37,45,46,4,1000000011] [5000,5001] [3] (.op ⟨.nl 1 .done,[],[],[],[5000]⟩ (.op ⟨.nl 1 .done,[],[5000],[],[5000]⟩ (.op ⟨.nl 1 .done,[],[],[],[5000]⟩ (.op ⟨.nl 1 .done,[],[5000],[],[5001]⟩ (.op ⟨.nl 1 .done,[],[],[],[3]⟩ (.op ⟨.nl 1 .done,[],[3],[],[]⟩ (.op ⟨.nl 1 .done,[],[5001],[],[]⟩ (.op ⟨.nl 1 .done,[],[],[],[]⟩ (.op ⟨.nl 1 .done,[],[],[],[]⟩ (.op ⟨.nl 1 .done,[],[],[],[]⟩ (.op ⟨.nl 1 .done,[],[],[4],[4]⟩ (.op ⟨.nl 1 .done,[4],[],[],[4]⟩ Nf)))))))))))))),(14,.gh Jm2),(14,.an (.dc 8 [49,50,51,52,53,54,55,56] [5000] [3] (.op ⟨.nl 1 .done,[],[],[],[5000]⟩ (.op ⟨.nl 1 .done,[],[],[],[5000]⟩ (.op ⟨.nl 1 .done,[],[5000],[],[5000]⟩ (.op ⟨.nl 1 .done,[],[],[],[5000]⟩ (.op ⟨.nl 1 .done,[],[5000],[],[]⟩ (.op ⟨.nl 1 .done,[],[],[],[3]⟩ (.op ⟨.nl 1 .done,[],[3],[],[]⟩ (.op ⟨.call 0 .done,[],[],[15601],[15601]⟩ Qre)))))))))),(16,.an (.dr 16 (.n 16 .done) Vp)),(21,.an (.dc 8 [77,78,79,80,81,82,83,6] [5000,3,5001] [] (.op ⟨.nl 1 .done,[],[],[],[5000]⟩ (.op ⟨.nl 1 .done,[],[5000],[],[5000]⟩ (.op ⟨.nl 1 .done,[],[],[],[5000]⟩ (.op ⟨.nl 1 .done,[],[5000],[],[5001]⟩ (.op ⟨.nl 1 .done,[],[],[],[3]⟩ (.op ⟨.nl 1 .done,[],[3],[],[]⟩ (.op ⟨.nl 1 .done,[],[5001],[],[]⟩ (.op ⟨.nl 1 .done,[],[],[6],[6]⟩ Nf)))))))))),(24,.an (.dr 7 Q8x Vp)),(29,.jn [3] [3] [(.n,⟨Qbu,[(5000,.var 379 (.ag (sL [Q87,Qvc,Q88,Q89,Q9a,.s 100106,.s 100107]))),(5001,Q2a),(5002,.map .i Vf),(5003,Qmo),(5004,.map .str .i),(5005,Qbt),(100106,H1),(100107,H1)]⟩)]),(30,.an (.dr 8 Qi0 .done)),(32,.gh (.fz 5007 (.dt 5000 .done))),(32,.an (.dc 8 [102,103,104,105,106,107,108,109] [5000] [3] (.op ⟨.nl 1 .done,[],[],[],[5000]⟩ (.op ⟨.nl 1 .done,[],[],[],[5000]⟩ (.op ⟨.nl 1 .done,[],[5000],[],[5000]⟩ (.op ⟨.nl 1 .done,[],[],[],[5000]⟩ (.op ⟨.nl 1 .done,[],[5000],[],[]⟩ (.op ⟨.nl 1 .done,[],[],[],[3]⟩ (.op ⟨.nl 1 .done,[],[3],[],[]⟩ (.op ⟨.call 0 .done,[],[],[20901],[20901]⟩ Qre)))))))))),(35,.an (.dr 6 Q13 Vp)),(37,.an (.dr 8 Qi0 Vp)),(38,.an (.dr 15 Jpq Vp)),(43,.an (.dc 8 [143,144,145,146,147,148,149,7] [5000,3,5002] [] (.op ⟨.nl 1 .done,[],[],[],[5000]⟩ (.op ⟨.nl 1 .done,[],[5000],[],[5000]⟩ (.op ⟨.nl 1 .done,[],[],[],[5000]⟩ (.op ⟨.nl 1 .done,[],[5000],[],[5002]⟩ (.op ⟨.nl 1 .done,[],[],[],[3]⟩ (.op ⟨.nl 1 .done,[],[3],[],[]⟩ (.op ⟨.nl 1 .done,[],[5002],[],[]⟩ (.op ⟨.nl 1 .done,[],[],[7],[7]⟩ Nf)))))))))),(48,.lp [0,3,7,151,152] [3,7,5000,5001,5002,5003,5005,5006,5007] ⟨[(153,zs3)],Jhk⟩ [(.x 1,⟨[],Jhk⟩)]),(62,.an (.dr 8 Qi0 Vp)),(63,.an (.dr 6 Q13 Vp)),(65,.jn [0,3] [3,5000,5001,5002,5003,5004,5005,5006,5007] [(.n,⟨[(177,zs7)],[]⟩)]),(73,.an (.dc 12 [15,16,17,18,19,20,21,14,22,23,10,1000000011] [5000,3,5002] [] (.op ⟨.nl 1 .done,[],[],[],[5000]⟩ (.op ⟨.nl 1 .done,[],[5000],[],[5000]⟩ (.op ⟨.nl 1 .done,[],[],[],[5000]⟩ (.op ⟨.nl 1 .done,[],[5000],[],[5002]⟩ (.op ⟨.nl 1 .done,[],[],[],[3]⟩ (.op ⟨.nl 1 .done,[],[3],[],[]⟩ (.op ⟨.nl 1 .done,[],[5002],[],[]⟩ (.op ⟨.nl 1 .done,[],[],[],[]⟩ (.op ⟨.nl 1 .done,[],[],[],[]⟩ (.op ⟨.nl 1 .done,[],[],[],[]⟩ (.op ⟨.nl 1 .done,[],[],[10],[10]⟩ (.op ⟨.nl 1 .done,[10],[],[],[10]⟩ Nf)))))))))))))),(77,.an (.dc 10 [25,26,27,28,29,30,31,32,33,34] [5000,3,10,5004,5001,5002,5003,5005,5006,5007] [] (.op ⟨.nl 1 .done,[],[],[],[5000]⟩ (.op ⟨.nl 1 .done,[],[5000],[],[5000]⟩ (.op ⟨.nl 1 .done,[],[],[],[5000]⟩ (.op ⟨.nl 1 .done,[],[5000],[],[5002]⟩ (.op ⟨.nl 1 .done,[],[],[],[3]⟩ (.op ⟨.nl 1 .done,[],[3],[],[]⟩ (.op ⟨.nl 1 .done,[],[],[],[5000]⟩ (.op ⟨.nl 1 .done,[],[10],[],[]⟩ (.op ⟨.nl 1 .done,[],[3],[],[]⟩ (.op ⟨.call 1 .done,[5004],[5000,5001,5002,5003,5005,5006,5007],[],[5004]⟩ Nf))))))))))))] Tryz.func233⟩
def Nk(N:Nat):V:=⟨⟨234,⟨Qbu,Jhj⟩,[Jm3],fun(ce,cd,cg,ci,cj,ck,cm)=>Z6 N ce cd cg ci cj ck cm,[5000,5001,5002,5003,5004,5005,5006,5007]⟩,kF N [] [(5,.rg (.br Vp)),(10,.lp [0,2,16,17] [2] ⟨[(3,Sy),(4,.m 100001),(18,zs3)],[(100000,.var 219 (.ag (sL [.ns,Jla]))),(100001,Jhl),(100002,Qs4)]⟩ [(.x 0,⟨[(3,Qkz),(4,.m 100201)],[(100200,.var 219 (.ag (sL [.ns,Jk9]))),(100201,Jhl),(100202,Qs4)]⟩)]),(18,.jn [18] [] [(.n,⟨[(3,Qb4),(4,.m 100101)],[(100100,.var 219 (.ag (sL [.ns,Jgy]))),(100101,Jhl),(100102,Qs4)]⟩)]),(30,.gh (.op (.v 7 [.f 1 1]) 100001 700000 .done)),(30,.an (.dc 10 [33,34,35,36,37,38,39,40,41,42] [7,100001,700000] [] (.op ⟨.nl 1 .done,[],[],[],[100001]⟩ (.op ⟨.nl 1 .done,[],[],[],[7]⟩ (.op ⟨.nl 1 .done,[],[7],[],[]⟩ (.op ⟨.nl 1 .done,[],[],[],[100001]⟩ (.op ⟨.nl 1 .done,[],[],[],[7]⟩ (.op ⟨.nl 1 .done,[],[7],[],[]⟩ (.op ⟨.br .done,[],[100001,700000],[],[700000]⟩ (.op ⟨.nl 1 .done,[],[],[],[]⟩ (.op ⟨.nl 1 .done,[],[],[],[]⟩ (.op ⟨.nl 1 .done,[700000],[],[42],[42]⟩ (.tl (.br .done)))))))))))))),(37,.gh (.fm 100201 .done)),(37,.lp [0,2,4,53,54] [2,100201] ⟨[(3,Qf6),(55,zs3)],[(100300,.var 219 (.ag (sL [Q2b,Jhm]))),(100301,Q6f),(100302,Qs4)]⟩ [(.x 2,⟨[(3,Qvd)],[(100400,.var 219 (.ag (sL [Q9b,.s 100402]))),(100401,Q6f),(100402,Qs4)]⟩)])] Tryz.func234⟩
def Qjb:AnR:=(.pre (.reg (.n 1 .done)) (.pre (.reg (.call 0 (.n 2 .done))) (.inn (.pre (.reg (.n 2 (.call 1 .done))) (.un (.rf 0 [4,5] [4,5] ⟨[],[(10701,.var 379 (.ag (sL [.m 100001,.m 100002,.m 100003,.m 100004,.m 100005,.s 100006,.s 100007]))),(100001,.map .i V0),(100002,.map .i Vf),(100003,.map .i .bool),(100004,.map .str .i),(100005,.map .i .i),(100006,.row 3 .i),(100007,.row 3 .i)]⟩ (.reg (.n 2 .done)) (.un (.reg (.n 2 (.call 2 .done))))))) (.two (.reg (.n 1 (.call 3 (.n 1 .done)))) .nil))))
def S8(N:Nat):V:=⟨⟨140,Qvb,[Jm3],fun(x0,x1)=>Ah N x0 x1,[]⟩,kR N [Qk2,Qng,Nx,Nk] [⟨_,Qfg N⟩] Qjb Tryz.func140 rfl fun x=>by kernel_rfl⟩
def Qrq(N:Nat):V:=⟨⟨85,Q86,[(sD [Vf,.bool])],fun(x0,x1,x2)=>Qaf N x0 x1 x2,[]⟩,kF N [S8] [(6,.lp [1,13,14] [11201,11202] ⟨Jm4,[(100000,Q82)]⟩ [(.x 0,⟨[(6,Qb4)],[(100100,Q82)]⟩),(.r,⟨Jhi,[(100200,Jhf)]⟩)])] Tryz.func85⟩
def Qhc(N:Nat):V:=⟨⟨86,Q86,[(sD [V0,.bool])],fun(x0,x1,x2)=>Ch N x0 x1 x2,[]⟩,kF N [S8] [(6,.lp [1,13,14] [11201,11202] ⟨Jm4,[(100000,Jm5)]⟩ [(.x 0,⟨[(6,Qb4)],[(100100,Jm5)]⟩),(.r,⟨Jhi,[(100200,.var 94 By)]⟩)])] Tryz.func86⟩
def Qfh(N:Nat):V:=⟨⟨50,⟨Qbu,[(5000,.var 102 (.ag (sL [H2,Bz,V7,.ag (sL [Qdg,Yc,Qrj,zs7,zs7]),.ag (sL [zs3,zs3,zs3,zs7,zs7,Ot]),.ag (sL [Yc,zs3,zs7,S5,Qbv,Qmp,Qi3]),zs3,Jm6]))),(5001,Qrd),(5002,H1),(5003,B1),(5004,Ww),(5005,Hk),(5006,Fo),(5007,Ua),(5008,Ub),(5009,Uu)]⟩,[⟨Qi4,[(5000,Jm8),(1,B1),(2,Ww),(3,Hk),(4,Fo),(5,Ua),(6,Ub),(7,Uu)]⟩],fun(cx,dg,cq,je,jf,jg,jh,ji,jj,jk,jl,jm,gk,gm,gn,du,dv,dw,dy,dz,dl,g5,dx,dq,g6,g7,ce,cd,cg,ci,cj,ck,cm,dj,ge)=>Ai N cx dg cq je jf jg jh ji jj jk jl jm gk gm gn du dv dw dy dz dl g5 dx dq g6 g7 ce cd cg ci cj ck cm dj ge,[]⟩,kF N [Qrp,Qrq,Qhc] [(3,.an (.dc 21 [8,9,10,11,12,13,14,15,16,17,18,19,20,21,22,23,7,24,25,3,1000000020] [5000] [] (.op ⟨.nl 1 .done,[],[],[],[5000]⟩ (.op ⟨.nl 1 .done,[],[5000],[],[5000]⟩ (.op ⟨.nl 1 .done,[],[],[],[5000]⟩ (.op ⟨.nl 1 .done,[],[],[],[5000]⟩ (.op ⟨.nl 1 .done,[],[5000],[],[]⟩ (.op ⟨.nl 1 .done,[],[],[],[5000]⟩ (.op ⟨.nl 1 .done,[],[5000],[],[5000]⟩ (.op ⟨.nl 1 .done,[],[],[],[5000]⟩ (.op ⟨.nl 1 .done,[],[],[],[5000]⟩ (.op ⟨.nl 1 .done,[],[5000],[],[]⟩ (.op ⟨.nl 1 .done,[],[],[],[5000]⟩ (.op ⟨.nl 1 .done,[],[5000],[],[5000]⟩ (.op ⟨.nl 1 .done,[],[],[],[5000]⟩ (.op ⟨.nl 1 .done,[],[],[],[5000]⟩ (.op ⟨.nl 1 .done,[],[5000],[],[]⟩ (.op ⟨.call 0 .done,[],[],[],[]⟩ (.op ⟨.nl 1 .done,[],[],[],[]⟩ (.op ⟨.nl 1 .done,[],[],[],[]⟩ (.op ⟨.nl 1 .done,[],[],[],[]⟩ Jm9))))))))))))))))))))),(13,.an (.dc 21 [29,30,31,32,33,34,35,36,37,38,39,40,41,42,43,44,28,45,46,5,1000000020] [5000] [] (.op ⟨.nl 1 .done,[],[],[],[5000]⟩ (.op ⟨.nl 1 .done,[],[5000],[],[5000]⟩ (.op ⟨.nl 1 .done,[],[],[],[5000]⟩ (.op ⟨.nl 1 .done,[],[],[],[5000]⟩ (.op ⟨.nl 1 .done,[],[5000],[],[]⟩ (.op ⟨.nl 1 .done,[],[],[],[5000]⟩ (.op ⟨.nl 1 .done,[],[5000],[],[5000]⟩ (.op ⟨.nl 1 .done,[],[],[],[5000]⟩ (.op ⟨.nl 1 .done,[],[],[],[5000]⟩ (.op ⟨.nl 1 .done,[],[5000],[],[]⟩ (.op ⟨.nl 1 .done,[],[],[],[5000]⟩ (.op ⟨.nl 1 .done,[],[5000],[],[5000]⟩ (.op ⟨.nl 1 .done,[],[],[],[5000]⟩ (.op ⟨.nl 1 .done,[],[],[],[5000]⟩ (.op ⟨.nl 1 .done,[],[5000],[],[]⟩ (.op ⟨.call 1 .done,[],[],[],[]⟩ (.op ⟨.nl 1 .done,[],[],[],[]⟩ (.op ⟨.nl 1 .done,[],[],[],[]⟩ (.op ⟨.nl 1 .done,[],[],[],[]⟩ (.op ⟨.nl 1 .done,[],[],[5],[5]⟩ (.op ⟨.nl 1 .done,[5],[],[],[5]⟩ Nf))))))))))))))))))))))),(16,.an (.dr 8 Qi0 .done)),(33,.an (.dc 20 [62,63,64,65,66,67,68,69,70,71,72,73,74,75,61,76,77,78,79,1000000019] [5000,5] [] (.op ⟨.nl 1 .done,[],[],[],[5000]⟩ (.op ⟨.nl 1 .done,[],[],[],[5000]⟩ (.op ⟨.nl 1 .done,[],[5000],[],[5000]⟩ (.op ⟨.nl 1 .done,[],[],[],[5000]⟩ (.op ⟨.nl 1 .done,[],[],[],[5000]⟩ (.op ⟨.nl 1 .done,[],[5000],[],[]⟩ (.op ⟨.nl 1 .done,[],[],[],[5]⟩ (.op ⟨.nl 1 .done,[],[5],[],[]⟩ (.op ⟨.nl 1 .done,[],[],[],[5000]⟩ (.op ⟨.nl 1 .done,[],[5000],[],[5000]⟩ (.op ⟨.nl 1 .done,[],[],[],[5000]⟩ (.op ⟨.nl 1 .done,[],[],[],[5000]⟩ (.op ⟨.nl 1 .done,[],[5000],[],[]⟩ (.op ⟨.call 2 .done,[],[],[],[]⟩ (.op ⟨.nl 1 .done,[],[],[],[]⟩ (.op ⟨.nl 1 .done,[],[],[],[]⟩ (.op ⟨.nl 1 .done,[],[],[],[]⟩ (.op ⟨.nl 1 .done,[],[5000],[],[5000]⟩ (.op ⟨.nl 1 .done,[],[],[],[5000]⟩ (.op ⟨.nl 1 .done,[5000],[],[],[5000,5003,5004,5005,5006,5007,5008,5009]⟩ (.tl .done)))))))))))))))))))))))] Tryz.func50⟩
def Qxw(N:Nat):V:=⟨⟨49,⟨Qbu,[(5000,.var 90 I6),(5001,.var 102 (.ag (sL [H2,Bz,V7,.ag (sL [Qdg,Yc,Ot,zs7,zs7]),.ag (sL [zs3,zs3,zs3,zs7,zs7,S5]),.ag (sL [Yc,zs3,zs7,Qbv,Qmp,Qi3,Qri]),zs3,.ag (sL [V7,zs3,Yc,zs3,Yc,.s 5008,.s 5009,zs3,zs3,zs3,.s 5010,zs3,zs3])]))),(5002,Qrd),(5003,H1),(5004,B1),(5005,Ww),(5006,Hk),(5007,Fo),(5008,Ua),(5009,Ub),(5010,Uu)]⟩,[⟨Qi4,[(5001,.var 102 (.ag (sL [H2,Bz,V7,Au,By,Q2c,zs3,Jm7]))),(1,B1),(2,Ww),(3,Hk),(4,Fo),(5,Ua),(6,Ub),(7,Uu)]⟩],fun(ct,cp,cw,gw,gx,gy,gz,j9,ja,jb,jc,jd,gg,gi,gj,cy,cz,d4,d5,d6,d7,d8,d9,da,db,de,cd,cg,ci,cj,ck,cm,dj,ge,gt)=>Qgv N ct cp cw gw gx gy gz j9 ja jb jc jd gg gi gj cy cz d4 d5 d6 d7 d8 d9 da db de cd cg ci cj ck cm dj ge gt,[5000]⟩,kF N [Qfh] [] Tryz.func49⟩
def Qxx(N:Nat):V:=⟨⟨48,⟨[(0,.f 49 Qmq),(1,.p 5011 [])],[(5000,.var 90 I6),(5001,.var 102 (.ag (sL [H2,Bz,V7,.ag (sL [Qdg,Yc,Ot,zs7,zs7]),.ag (sL [zs3,zs3,zs3,zs7,zs7,S5]),.ag (sL [Yc,zs3,zs7,Qbv,Qmp,Qi3,Qri]),zs3,.ag (sL [V7,zs3,Yc,zs3,Yc,.s 5008,.s 5009,zs3,zs3,zs3,.s 5010,zs3,zs3])]))),(5002,Qrd),(5003,H1),(5004,B1),(5005,Ww),(5006,Hk),(5007,Fo),(5008,Ua),(5009,Ub),(5010,Uu),(5011,Qmr)]⟩,[⟨[],[(5001,Jm8),(5011,Qmr),(1,B1),(2,Ww),(3,Hk),(4,Fo),(5,Ua),(6,Ub),(7,Uu)]⟩],fun(ct,cp,cw,gw,gx,gy,gz,j9,ja,jb,jc,jd,gg,gi,gj,cy,cz,d4,d5,d6,d7,d8,d9,da,db,de,cd,cg,ci,cj,ck,cm,dj,ge,gt,jo)=>Qgw N ct cp cw gw gx gy gz j9 ja jb jc jd gg gi gj cy cz d4 d5 d6 d7 d8 d9 da db de cd cg ci cj ck cm dj ge gt jo,[5000]⟩,kF N [Qxw] [(3,.rg (.n 1 Qiz))] Tryz.func48⟩
def Qa2(N:Nat):V:=⟨⟨235,(sD [.sl .str]),[Q6e],Gi N,[]⟩,kF N [] [] Tryz.func235⟩
def P6(N:Nat):V:=⟨⟨236,Jna,[⟨Qg6,[(1,.row 319 Kn)]⟩],Xk N,[]⟩,kF N [] [] Tryz.func236⟩
def P7(N:Nat):V:=⟨⟨237,Jmn,[⟨Qg6,[(1,Q9c)]⟩],Xl N,[]⟩,kF N [] [] Tryz.func237⟩
def Ou(N n:Nat):Con:=⟨238,Qrg,[Qrg],fun x0=>Z7 N n x0,[]⟩
theorem Ta(N:Nat):∀n,KO (Ou N n)
 | 0=>⟨F2 fun _=>rfl,I4 Tryz.func238 rfl⟩
 | n+1=>have ih:=Ta N n; kF N [fun _=>⟨_,ih⟩] [(8,.lp [1,2,7,8] [1,2] ⟨[(3,Sx),(9,zs3)],[(100000,Q9d)]⟩ [(.x 0,⟨[(3,Qe5)],[(100100,Q9d)]⟩)])] Tryz.func238
def Qs5(N:Nat):V:=⟨Ou N N,Ta N N⟩
def Qrr(N:Nat):V:=⟨⟨141,Q15,[⟨[(0,Q2c)],Jhn⟩],Qag N,[]⟩,kF N [Qa2,P6,P7,Qs5] [(10,.lp [1,2,18,19] [1,2] ⟨[(3,Sy),(20,zs3)],Jnb⟩ Jnc),(21,.an (.dc 9 [24,25,26,27,28,29,30,31,32] [100000,5] [] (.op ⟨.nl 1 .done,[],[],[],[100000]⟩ (.op ⟨.nl 1 .done,[],[100000],[],[100001]⟩ (.op ⟨.nl 1 .done,[],[],[],[5]⟩ (.op ⟨.nl 1 .done,[],[5],[],[]⟩ (.op ⟨.nl 1 .done,[],[],[],[5]⟩ (.op ⟨.nl 1 .done,[],[5],[],[]⟩ (.op ⟨.call 0 .done,[],[],[13001],[13001]⟩ (.op ⟨.nl 1 .done,[],[],[],[13001]⟩ (.op ⟨.fz 13001 (.nl 1 .done),[13001],[],[],[13001]⟩ Qre))))))))))),(27,.lp [1,2,37,38] [1,2] ⟨[(3,Qkz),(39,zs3)],Jnd⟩ Jne),(38,.an (.dc 9 [43,44,45,46,47,48,49,50,51] [100200,7] [] (.op ⟨.nl 1 .done,[],[],[],[100200]⟩ (.op ⟨.nl 1 .done,[],[100200],[],[100202]⟩ (.op ⟨.nl 1 .done,[],[],[],[7]⟩ (.op ⟨.nl 1 .done,[],[7],[],[]⟩ (.op ⟨.nl 1 .done,[],[],[],[7]⟩ (.op ⟨.nl 1 .done,[],[7],[],[]⟩ (.op ⟨.call 1 .done,[],[],[14901],[14901]⟩ (.op ⟨.nl 1 .done,[],[],[],[14901]⟩ (.op ⟨.fz 14901 (.nl 1 .done),[14901],[],[],[14901]⟩ Qre))))))))))),(44,.lp [1,2,56,57] [1,2] ⟨[(3,Qvd),(58,zs3)],Jnf⟩ Jnh),(57,.rg (.n 3 (.fz 16401 Qi2))),(63,.lp [2,74,75] [1,2] ⟨[(3,.p 100600 []),(76,zs3)],Jni⟩ Jnk)] Tryz.func141⟩
def Q2i(N:Nat):V:=⟨⟨87,(sD [.sl J6,.str,.i]),[⟨[(0,Q2c),(1,zs7)],Jhn⟩],fun(x0,x1,x2)=>Qku N x0 x1 x2,[]⟩,kF N [Qrr] [(8,.lp [0,1,2,6,11,12] [6] ⟨[(8,zs3),(13,zs3)],[]⟩ [(.x 0,Qkx)]),(16,.jn [13] [] Jhr)] Tryz.func87⟩
def Qxy(N:Nat):V:=⟨⟨239,Qne,[zs5],Qgx N,[]⟩,kF N [] [(6,.lp [0,6] [] Qnd Qrc)] Tryz.func239⟩
def Qnh(N:Nat):V:=⟨⟨241,⟨[(0,.d V8),(1,Gr)],Jnl⟩,[zs5],fun(x0,ca)=>Pe N x0 ca,[5000]⟩,kF N [] [] Tryz.func241⟩
def Ll(N:Nat):V:=⟨⟨328,Jnm,[zs2],fun(x0,ca)=>Zl N x0 ca,[5000]⟩,kF N [Qnh] [(6,.lp [0,1,7] [] Qkx Qs2),(18,.rg (.n 5 (.call 0 .done)))] Tryz.func328⟩
def Cu(N:Nat):V:=⟨⟨240,Jnm,[zs5],fun(x0,ca)=>Uf N x0 ca,[5000]⟩,kF N [Ll] [] Tryz.func240⟩
def Qrs(N:Nat):V:=⟨⟨242,Jg2,[zs5],Qah N,[]⟩,kF N [] [] Tryz.func242⟩
def Qd5(N:Nat):V:=⟨⟨143,Qne,[zs5],Aj N,[]⟩,kF N [Qrs] [(6,.lp [0,5] [] zs9 Qrc)] Tryz.func143⟩
def Qs6(N:Nat):V:=⟨⟨142,Jmk,[⟨[(0,.m 1),(1,zs3)],[(1,Qve)]⟩,⟨[(0,.nm),(1,zs3)],[]⟩],Qc2 N,[]⟩,kF N [Qxy,Cu,Qd5] [(16,.lp [0,15,16] [] ⟨[(4,Q9e),(17,zs3)],[(100000,Qve)]⟩ [(.x 0,⟨[(4,.m 100400)],[(100400,Qve)]⟩),(.r,⟨[(2,.nm),(3,zs3)],[]⟩)]),(57,.lp [6,17,44,45] [6] ⟨[(4,Q9f),(46,zs3)],[(100100,Qve)]⟩ [(.x 3,⟨[(4,.m 100200)],[(100200,Qve)]⟩),(.r,⟨[(2,.nm),(3,zs3)],[]⟩)])] Tryz.func142⟩
def Qni(N:Nat):V:=⟨⟨144,⟨[(0,.m 5000),(1,Yc),(2,zs3)],[(5000,Qve)]⟩,[(sD [.str,.bool])],fun(x1,x2,ca)=>Pf N x1 x2 ca,[5000]⟩,kF N [] [(4,.lp [0,1] [] ⟨[(2,zs3)],[]⟩ [(.x 0,zs6),(.r,⟨[(6,Yc),(7,zs7)],[]⟩)])] Tryz.func144⟩
def Qjc(N:Nat):V:=⟨⟨88,(sD [.sl V8,.str]),[(sD [.str,.bool])],fun(x0,x1)=>Qai N x0 x1,[]⟩,kF N [Qs6,Qd5,Qni] [(4,.an (.cn 6 (.two (.two (.reg (.n 3 (.sp 15 4 [1,6] [] Jgu Sv Q2d .done))) (.two Jnn (.gh (.tl .done) .nil))) .nil) (.two (.two (.reg (.n 3 (.sp 15 4 [1,6] [11001] Jgu Sv Q2d .done))) (.two Jnn .nil)) (.two (.reg (.n 4 (.call 2 Qi2))) .nil))))] Tryz.func88⟩
def Qhd(N:Nat):V:=⟨⟨52,⟨Qbu,[(5000,.var 102 (.ag (sL [H2,Bz,V7,Au,By,.ag (sL [Yc,zs3,zs7,Qrj,Ot,S5,Qbv]),zs3,Jhs]))),(5001,B1),(5002,Ww),(5003,Hk),(5004,Fo),(5005,Ua),(5006,Ub),(5007,Uu)]⟩,[⟨Qi4,[(5000,Jht),(1,Ww),(2,Hk),(3,Fo),(4,Ua),(5,Ub),(6,Uu)]⟩],fun(cx,dg,cq,g8,g9,gk,gm,gn,du,dv,dw,dy,dz,dl,g5,dx,dq,g6,g7,ce,cd,cg,ci,cj,ck,cm)=>Ci N cx dg cq g8 g9 gk gm gn du dv dw dy dz dl g5 dx dq g6 g7 ce cd cg ci cj ck cm,[]⟩,kF N [Q2i,Qjc] [(3,.an (.dc 21 [6,7,8,9,10,11,12,13,14,15,16,17,18,19,20,21,5,22,23,3,1000000020] [5000] [] (.op ⟨.nl 1 .done,[],[],[],[5000]⟩ (.op ⟨.nl 1 .done,[],[5000],[],[5000]⟩ (.op ⟨.nl 1 .done,[],[],[],[5000]⟩ (.op ⟨.nl 1 .done,[],[],[],[5000]⟩ (.op ⟨.nl 1 .done,[],[5000],[],[]⟩ (.op ⟨.nl 1 .done,[],[],[],[5000]⟩ (.op ⟨.nl 1 .done,[],[5000],[],[5000]⟩ (.op ⟨.nl 1 .done,[],[],[],[5000]⟩ (.op ⟨.nl 1 .done,[],[],[],[5000]⟩ (.op ⟨.nl 1 .done,[],[5000],[],[]⟩ (.op ⟨.nl 1 .done,[],[],[],[5000]⟩ (.op ⟨.nl 1 .done,[],[5000],[],[5000]⟩ (.op ⟨.nl 1 .done,[],[],[],[5000]⟩ (.op ⟨.nl 1 .done,[],[],[],[5000]⟩ (.op ⟨.nl 1 .done,[],[5000],[],[]⟩ (.op ⟨.call 0 .done,[],[],[12104,12103,12102,12101],[12101,12102,12103,12104]⟩ (.op ⟨.nl 1 .done,[],[],[],[12101,12102,12103,12104]⟩ (.op ⟨.nl 1 .done,[],[],[],[12101,12102,12103,12104]⟩ (.op ⟨.nl 1 .done,[],[],[],[]⟩ (.op ⟨.nl 1 .done,[],[],[3],[3]⟩ (.op ⟨.nl 1 .done,[3],[12101,12102,12103,12104],[],[3,12101,12102,12103,12104]⟩ Nf))))))))))))))))))))))),(15,.an (.dc 10 [30,31,32,33,34,35,36,37,38,1000000009] [3,5000] [] (.op ⟨.nl 1 .done,[],[],[],[5000]⟩ (.op ⟨.nl 1 .done,[],[],[],[5000]⟩ (.op ⟨.nl 1 .done,[],[],[],[3]⟩ (.op ⟨.nl 1 .done,[],[3],[],[]⟩ (.op ⟨.nl 1 .done,[],[],[],[3]⟩ (.op ⟨.nl 1 .done,[],[3],[],[]⟩ (.op ⟨.nl 1 .done,[],[5000],[],[5000]⟩ (.op ⟨.nl 1 .done,[],[],[],[5000]⟩ (.op ⟨.nl 1 .done,[],[],[],[5000]⟩ (.op ⟨.nl 1 .done,[5000],[],[],[5000,5005,5006,5007,12101,12102,12103,12104]⟩ (.tl Qi2))))))))))))),(17,.gh (.fz 12101 (.dt 5000 (.dt 3 .done)))),(17,.an (.dc 16 [43,44,45,46,47,48,49,50,51,42,52,53,54,55,56,1000000015] [3,5000] [] (.op ⟨.nl 1 .done,[],[],[],[5000]⟩ (.op ⟨.nl 1 .done,[],[],[],[3]⟩ (.op ⟨.nl 1 .done,[],[3],[],[]⟩ (.op ⟨.nl 1 .done,[],[],[],[5000]⟩ (.op ⟨.nl 1 .done,[],[5000],[],[5000]⟩ (.op ⟨.nl 1 .done,[],[],[],[5000]⟩ (.op ⟨.nl 1 .done,[],[],[],[5000]⟩ (.op ⟨.nl 1 .done,[],[5000],[],[]⟩ (.op ⟨.call 1 .done,[],[],[],[]⟩ (.op ⟨.nl 1 .done,[],[],[],[]⟩ (.op ⟨.nl 1 .done,[],[],[],[]⟩ (.op ⟨.nl 1 .done,[],[],[],[]⟩ (.op ⟨.nl 1 .done,[],[5000],[],[5000]⟩ (.op ⟨.nl 1 .done,[],[],[],[5000]⟩ (.op ⟨.nl 1 .done,[],[],[],[5000]⟩ (.op ⟨.nl 1 .done,[5000],[],[],[5000,5005,5006,5007,12102,12103,12104]⟩ (.tl .done)))))))))))))))))))] Tryz.func52⟩
def Qxz(N:Nat):V:=⟨⟨51,⟨Qbu,[(5000,.var 90 I6),(5001,.var 102 (.ag (sL [H2,Bz,V7,Au,By,.ag (sL [Yc,zs3,zs7,Ot,S5,Qbv,Qmp]),zs3,.ag (sL [V7,zs3,Yc,zs3,Yc,Qi3,Qri,zs3,zs3,zs3,.s 5008,zs3,zs3])]))),(5002,B1),(5003,Ww),(5004,Hk),(5005,Fo),(5006,Ua),(5007,Ub),(5008,Uu)]⟩,[⟨Qi4,[(5001,Jht),(1,Ww),(2,Hk),(3,Fo),(4,Ua),(5,Ub),(6,Uu)]⟩],fun(ct,cp,cw,dh,di,gg,gi,gj,cy,cz,d4,d5,d6,d7,d8,d9,da,db,de,cd,cg,ci,cj,ck,cm,dj)=>Qgy N ct cp cw dh di gg gi gj cy cz d4 d5 d6 d7 d8 d9 da db de cd cg ci cj ck cm dj,[5000]⟩,kF N [Qhd] [] Tryz.func51⟩
def Qnj(N:Nat):V:=⟨⟨48,⟨[(0,.f 51 Qmq),(1,.p 5009 [])],[(5000,.var 90 I6),(5001,.var 102 (.ag (sL [H2,Bz,V7,Au,By,.ag (sL [Yc,zs3,zs7,Ot,S5,Qbv,Qmp]),zs3,.ag (sL [V7,zs3,Yc,zs3,Yc,Qi3,Qri,zs3,zs3,zs3,.s 5008,zs3,zs3])]))),(5002,B1),(5003,Ww),(5004,Hk),(5005,Fo),(5006,Ua),(5007,Ub),(5008,Uu),(5009,Qmr)]⟩,[⟨[],[(5001,Jht),(5009,Qmr),(1,Ww),(2,Hk),(3,Fo),(4,Ua),(5,Ub),(6,Uu)]⟩],fun(ct,cp,cw,dh,di,gg,gi,gj,cy,cz,d4,d5,d6,d7,d8,d9,da,db,de,cd,cg,ci,cj,ck,cm,dj,ge)=>Pg N ct cp cw dh di gg gi gj cy cz d4 d5 d6 d7 d8 d9 da db de cd cg ci cj ck cm dj ge,[5000]⟩,kF N [Qxz] [(3,.rg (.n 1 Qiz))] Tryz.func48⟩
def Qjd(N:Nat):V:=⟨⟨243,Jnp,[⟨Qg6,[(1,Um)]⟩],Ih N,[]⟩,kF N [] [(8,.lp [6,7] [] ⟨[(3,Sx),(8,zs3)],[(100000,Um)]⟩ [(.x 0,⟨[(3,Qe5)],[(100100,Um)]⟩)]),(21,.rg (.n 2 (.fz 14 Q6g)))] Tryz.func243⟩
def Im(N:Nat):V:=⟨⟨145,Jhb,[Q18],Hz N,[]⟩,kF N [Qjd] [(3,.an (.dc 8 [3,4,5,6,7,8,9,10] [1] [] (.op ⟨.nl 1 .done,[],[],[],[1]⟩ (.op ⟨.nl 1 .done,[],[1],[],[]⟩ (.op ⟨.call 0 .done,[],[],[10501],[10501]⟩ (.op ⟨.nl 1 .done,[],[],[],[1]⟩ (.op ⟨.nl 1 .done,[],[1],[],[]⟩ (.op ⟨.nl 1 .done,[],[],[8],[8]⟩ Jnq))))))))] Tryz.func145⟩
def Qk3(N:Nat):V:=⟨⟨146,Q86,[zs5],fun(x0,x1,x2)=>Mq N x0 x1 x2,[]⟩,kF N [] [(6,.lp [1,2,9,10] [] Jhu Jg4)] Tryz.func146⟩
def Qk4(N:Nat):V:=⟨⟨171,(sD [.sl Vq]),[Jnr],Ms N,[]⟩,kF N [] [(8,.lp [9,10] [] ⟨[(3,Q9e),(11,zs3)],[(100000,Qbt)]⟩ [(.x 0,⟨[(3,.m 100200)],[(100200,Qbt)]⟩)]),(16,.jn [11] [] [(.n,⟨[(3,Q9f)],[(100100,Qbt)]⟩)])] Tryz.func171⟩
def Qrt(N:Nat):V:=⟨⟨147,(sD [.sl Vq,.i]),[⟨[(0,Sw),(1,zs3)],[(1,Qbr)]⟩],fun(x0,x1)=>Qaj N x0 x1,[]⟩,kF N [Qk4] [(16,.lp [0,1] [11201] Qkx [(.x 0,Qkx)]),(19,.rg (.n 5 (.sp 25 8 [8] [] ⟨[(33,zs7)],[]⟩ Qmt Qmt .done)))] Tryz.func147⟩
def Kg(N:Nat):V:=⟨⟨246,Q9g,[zs5],fun(x0,x1,x2)=>Yq N x0 x1 x2,[]⟩,kF N [] [] Tryz.func246⟩
def Av(N:Nat):V:=⟨⟨247,zs2,[zs5],G4 N,[]⟩,kF N [] [] Tryz.func247⟩
def Aw(N:Nat):V:=⟨⟨244,(sD [Vq]),[zs2],G5 N,[]⟩,kF N [Kg,Av] [(5,.rg (.n 2 (.call 0 (.n 2 (.sp 8 5 [1] [1] ⟨[(13,zs7)],[]⟩ Fq Jgv (.n 1 (.sp 14 5 [1] [1] Jgu Fq Q14 Vp))))))),(11,.rg (.n 2 (.call 0 (.n 2 (.sp 25 5 [1] [1] ⟨[(30,zs7)],[]⟩ Fq Q14 Vp)))))] Tryz.func244⟩
def In(N:Nat):V:=⟨⟨245,Qmu,[Qmu],fun(x0,x1)=>Vc N x0 x1,[]⟩,kF N [] [] Tryz.func245⟩
def Qnk(N:Nat):V:=⟨⟨149,Qmu,[Qmu],fun(x0,x1)=>Ph N x0 x1,[]⟩,kF N [Aw,In,Kg,Av] [(14,.rg (.n 1 (.call 2 (.n 2 (.sp 19 7 [1,2,4] [2,4] ⟨[(26,zs7)],[]⟩ Qax (.nl 4 (.call 3 Qs1)) .done)))))] Tryz.func149⟩
def Qfi(N:Nat):V:=⟨⟨148,⟨[(0,.d Vq),(1,zs3),(2,Gr)],[(5000,Q2e)]⟩,[⟨[],[(5000,Q2e)]⟩],fun(x0,x1,ca)=>Wo N x0 x1 ca,[]⟩,kF N [] [] Tryz.func148⟩
def Qru(N:Nat):V:=⟨⟨150,Qmu,[Qmu],fun(x0,x1)=>Qak N x0 x1,[]⟩,kF N [Aw,In,Kg] [] Tryz.func150⟩
def Qje(N:Nat):V:=⟨⟨89,(sD [.sl Jv,Ud,.i,.i]),[Q18],fun(x0,x1,x2,x3)=>Ii N x0 x1 x2 x3,[]⟩,kF N [Im,Qk3,Qrt,Qnk,Qfi,Qru] [(6,.rg (.n 7 (.sp 24 6 [0,2,3,8,9] [5,8,9,11701,11702,11703] ⟨[(30,zs7)],[]⟩ Qs3 Jk7 .done))),(22,.lp [2,3,8,9,10,11,44,45] [5,8,9,11701,11702,11703,13601] ⟨[(12,Qb4),(13,.f 148 (sL [Qb4])),(46,zs3)],[(100100,Q2e)]⟩ [(.x 0,⟨[(12,Qvd)],[(100400,Q2e)]⟩)]),(30,.jn [46] [] [(.n,⟨[(12,Qf6),(13,.f 148 (sL [Qf6]))],[(100300,Q2e)]⟩)]),(35,.an (.dr 20 (.n 5 (.sp 54 9 [12,13,15,46] [15,100100] ⟨[(63,zs7)],[]⟩ Qky Qky Q13)) .done)),(45,.rg (.n 4 (.call 3 Jhv))),(49,.rg (.n 4 (.call 5 Jhv)))] Tryz.func89⟩
def Nl(N:Nat):V:=⟨⟨151,Q9h,[Jhw],Ak N,[]⟩,kF N [] [] Tryz.func151⟩
def Qmw(N:Nat):V:=⟨⟨152,Q9h,[(sD [Uw])],Sa N,[]⟩,kF N [] [] Tryz.func152⟩
def Qnl(N:Nat):V:=⟨⟨153,Qvb,[zs2],fun(x0,x1)=>Pi N x0 x1,[]⟩,kF N [] [(6,.lp [1,7,8] [] Qrk Qs2)] Tryz.func153⟩
def Qd6(N:Nat):V:=⟨⟨330,⟨[(0,Au),(1,Gr)],[(5000,Q2f)]⟩,[zs5],fun(x0,ca)=>E6 N x0 ca,[5000]⟩,kF N [] [(6,.lp [1,7,8] [2] Qrk [(.x 0,zs6),(.r,⟨[(3,zs7)],[]⟩)])] Tryz.func330⟩
def Qd7(N:Nat):V:=⟨⟨374,Q80,[zs5],fun(x0,x1)=>E7 N x0 x1,[]⟩,kF N [] [] Tryz.func374⟩
def Qd8(N:Nat):V:=⟨⟨375,Q80,[Q16],fun(x0,x1)=>E8 N x0 x1,[]⟩,kF N [] [] Tryz.func375⟩
def D2(N:Nat):V:=⟨⟨373,⟨[(0,Q9i),(1,.f 374 .nil),(2,.f 375 .nil)],[]⟩,[Qi1],Uo N,[]⟩,kF N [Qd7,Qd8] [(8,.lp [1,2,11,12] [] ⟨Jmy,Q8z⟩ Jns),(16,.jn [13] [] Jnt),(22,.an (.dc 10 [19,20,21,22,23,24,25,26,27,28] [100000,9] [] (.op ⟨.nl 1 .done,[],[],[],[]⟩ (.op ⟨.nl 1 .done,[],[],[],[]⟩ (.op ⟨.nl 1 .done,[],[],[],[]⟩ (.so 21 (.op ⟨.nl 1 .done,[],[],[],[]⟩ (.op ⟨.nl 1 .done,[],[],[],[100000]⟩ (.op ⟨.nl 1 .done,[],[],[],[]⟩ (.op ⟨.nl 1 .done,[],[],[],[]⟩ (.op ⟨.nl 1 .done,[],[100000],[],[100000]⟩ (.op ⟨.nl 1 .done,[],[100000],[],[]⟩ (.op ⟨.nl 1 .done,[],[9],[],[]⟩ (.tl Qiz)))))))) Q84)))))),(24,.an (.dc 11 [31,32,33,34,35,36,37,38,39,40,41] [100000,9] [] (.op ⟨.nl 1 .done,[],[],[],[100000]⟩ (.op ⟨.nl 1 .done,[],[],[],[]⟩ (.op ⟨.nl 1 .done,[],[],[],[]⟩ (.op ⟨.nl 1 .done,[],[],[],[]⟩ (.op ⟨.nl 1 .done,[],[],[],[100000]⟩ (.op ⟨.nl 1 .done,[],[],[],[]⟩ (.op ⟨.nl 1 .done,[],[],[],[]⟩ (.op ⟨.nl 1 .done,[],[100000],[],[100000]⟩ (.op ⟨.nl 1 .done,[],[100000],[],[]⟩ (.op ⟨.nl 1 .done,[],[9],[],[]⟩ (.op ⟨.call 1 .done,[],[],[],[]⟩ Jcg)))))))))))))] Tryz.func373⟩
def Qhe(N:Nat):V:=⟨⟨329,⟨[(0,Jm1),(1,zs3),(2,.f 330 Qmq)],[(5000,Q2f)]⟩,[Qi1],fun(x0,x1,ca)=>Cj N x0 x1 ca,[5000]⟩,kF N [Ni,Qd6,D2] [(8,.lp [2,12,13] [11201] ⟨[(7,Sx),(14,zs3)],Q8z⟩ Jns),(16,.jn [14] [] Jnt),(20,.rg (.n 2 (.call 1 .done)))] Tryz.func329⟩
def Qhf(N:Nat):V:=⟨⟨248,(sD [.sl Jv,.i,.str]),[Qi1],fun(x0,x1,x2)=>Ck N x0 x1 x2,[]⟩,kF N [Qhe] [] Tryz.func248⟩
def Qnm(N:Nat):V:=⟨⟨249,(sD [Ue,Ue]),[zs5],fun(x0,x1)=>Pj N x0 x1,[]⟩,kF N [] [] Tryz.func249⟩
def Qjf(N:Nat):V:=⟨⟨154,Qvb,[⟨Qg6,[(1,Q9j)]⟩],fun(x0,x1)=>Ij N x0 x1,[]⟩,kF N [Qhf,Qnm] [(5,.rg (.br Vp)),(12,.lp [0,1,15,16] [] ⟨[(5,Q9e),(6,.m 100001),(7,Jla),(17,zs3)],[(100000,Qmo),(100001,Qvf),(100002,Q9j)]⟩ [(.x 0,⟨[(7,.s 101100)],[(101100,Q9j)]⟩)]),(20,.jn [17] [] [(.n,⟨[(5,.m 101000),(6,.m 101001),(7,.s 101002)],[(101000,Qmo),(101001,Qvf),(101002,Q9j)]⟩)]),(24,.jn [6,7,9,17] [9,100001,100002] [(.n,⟨[(5,Q9f)],[(100100,Qmo)]⟩)]),(31,.jn [5,7,9,17] [9,100002,100100] [(.n,⟨[(6,.m 100300),(51,zs7)],[(100300,Qvf)]⟩)]),(31,.gh (.op (.v 9 [.f 5 5]) 100001 700000 .done)),(31,.rg (.n 11 (.sp 43 8 [5,6,7,9,17] [100001,700000] ⟨[(51,zs7)],[]⟩ Qmt (.nl 3 (.br (.nl 2 (.br Vp)))) (.cl 100001 .done)))),(36,.jn [5,7,9,17] [9,100002,100100] [(.n,⟨[(6,.m 100500)],[(100500,Qvf)]⟩)]),(37,.jn [5,7,9,17] [] [(.n,⟨[(6,.m 100400),(56,zs7)],[(100400,Qvf)]⟩)]),(37,.gh (.op (.v 9 [.f 5 5]) 100300 700001 .done)),(37,.rg (.n 3 (.br (.n 1 (.cl 100300 .done))))),(39,.rg (.n 4 (.br .done))),(42,.jn [5,7,9,17] [9,100002,100100] [(.n,⟨[(6,.m 100600)],[(100600,Qvf)]⟩)]),(42,.gh (.op (.v 9 [.f 5 5]) 100500 700002 .done)),(42,.rg (.n 3 (.br (.n 3 (.cl 100500 .done))))),(44,.an (.dc 13 [67,68,69,70,71,72,73,74,75,76,77,78,10] [9] [] (.op ⟨.nl 1 .done,[],[],[],[]⟩ (.op ⟨.nl 1 .done,[],[],[],[9]⟩ (.op ⟨.nl 1 .done,[],[9],[],[]⟩ (.op ⟨.nl 1 .done,[],[],[],[9]⟩ (.op ⟨.nl 1 .done,[],[9],[],[]⟩ (.op ⟨.nl 1 .done,[],[],[],[]⟩ (.op ⟨.nl 1 .done,[],[],[],[9]⟩ (.op ⟨.nl 1 .done,[],[9],[],[]⟩ (.op ⟨.nl 1 .done,[],[],[],[9]⟩ (.op ⟨.nl 1 .done,[],[9],[],[]⟩ (.op ⟨.call 0 .done,[],[],[17701],[17701]⟩ (.op ⟨.nl 1 .done,[],[],[],[17701]⟩ (.op ⟨.nl 1 .done,[],[],[10],[10]⟩ Nf))))))))))))))),(49,.gh (.fz 17701 .done)),(49,.lp [5,6,7,10,17] [9,10,17701,100002,100100,100600] Jhu [(.x 2,Jhu)]),(52,.jn [11] [] Jrc),(52,.an (.dc 10 [79,80,81,82,83,84,85,86,87,88] [] [100002,10] (.op ⟨.nl 1 .done,[],[],[],[]⟩ (.op ⟨.nl 1 .done,[],[],[],[100002]⟩ (.op ⟨.nl 1 .done,[],[100002],[],[]⟩ (.op ⟨.nl 1 .done,[],[],[],[]⟩ (.op ⟨.nl 1 .done,[],[],[],[]⟩ (.so 83 (.op ⟨.nl 1 .done,[],[],[],[100002]⟩ (.op ⟨.nl 1 .done,[],[],[],[]⟩ (.op ⟨.nl 1 .done,[],[100002],[],[100002]⟩ (.op ⟨.nl 1 .done,[],[100002],[],[]⟩ (.op ⟨.nl 1 .done,[],[10],[],[17701]⟩ (.tl Jg0)))))) Jmz)))))))),(59,.rg (.n 2 (.fz 100002 Q6g)))] Tryz.func154⟩
def Gt(N:Nat):V:=⟨⟨251,Q80,[Jmu],fun(x0,x1)=>U8 N x0 x1,[]⟩,kF N [Kw] [(6,.rg (.n 1 (.call 0 (.n 2 (.sp 21 4 [3,4,6] [2,3,4,6] Jhx Sv (.nl 1 Jgw) Q8x)))))] Tryz.func251⟩
def Ov(N:Nat):V:=⟨⟨385,zs2,[zs2],Zq N,[]⟩,kF N [] [(7,.jn [] [] [(.n,Q6d)])] Tryz.func385⟩
def Qnn(N:Nat):V:=⟨⟨403,zs2,[zs5],Pk N,[]⟩,kF N [] [] Tryz.func403⟩
def Io(N:Nat):V:=⟨⟨386,Ng,[zs2],fun(x0,x1)=>Z8 N x0 x1,[]⟩,kF N [Qnn] [(6,.rg (.n 3 (.sp 9 3 [0,1,5] [5] ⟨[(12,zs7)],[]⟩ Jhy Jce .done)))] Tryz.func386⟩
def Qno(N:Nat):V:=⟨⟨341,zs2,[(sD [Qeu])],Pl N,[]⟩,kF N [Ov,Io] [(14,.lp [0,2] [2] ⟨[(3,Sy)],[(100000,Q9k)]⟩ [(.x 0,⟨Qva,[(100100,Q9k)]⟩)]),(27,.lp [2] [2] ⟨[(0,zs3),(3,Qkz)],[(100200,Q9k)]⟩ [(.x 2,⟨[(0,zs3),(3,Qf6)],[(100300,Q9k)]⟩)])] Tryz.func341⟩
def Tb(N:Nat):V:=⟨⟨268,Ng,[zs2],fun(x0,x1)=>Gj N x0 x1,[]⟩,kF N [Qno] [(7,.jn [] [5] [(.n,zs9)])] Tryz.func268⟩
def Qjg(N:Nat):V:=⟨⟨402,Ng,[zs2],fun(x0,x1)=>Ik N x0 x1,[]⟩,kF N [Io] [] Tryz.func402⟩
def Qrv(N:Nat):V:=⟨⟨384,(sD [Qeu]),[Ng],Qal N,[]⟩,kF N [Qjg,Ov,Io] [(4,.jn [1] [1] [(.n,Q10)]),(4,.an (.dc 11 [6,7,8,9,10,11,12,13,14,15,16] [] [1] (.op ⟨.nl 1 .done,[],[],[],[1]⟩ (.op ⟨.nl 1 .done,[],[1],[],[]⟩ (.op ⟨.nl 1 .done,[],[],[],[]⟩ (.op ⟨.nl 1 .done,[],[],[],[]⟩ (.so 9 Q84 (.op ⟨.nl 1 .done,[],[],[],[1]⟩ (.op ⟨.nl 1 .done,[],[1],[],[]⟩ (.op ⟨.nl 1 .done,[],[],[],[1]⟩ (.op ⟨.nl 1 .done,[],[1],[],[]⟩ (.op ⟨.nl 1 .done,[],[],[],[1]⟩ (.op ⟨.nl 1 .done,[],[1],[],[]⟩ (.op ⟨.call 0 .done,[],[],[],[]⟩ (.tl Qs1))))))))))))))),(11,.an (.dc 5 [19,20,21,22,23] [1] [] (.op ⟨.nl 1 .done,[],[],[],[1]⟩ (.op ⟨.nl 1 .done,[],[1],[],[]⟩ (.op ⟨.call 1 .done,[],[],[],[]⟩ Jnq))))),(16,.lp [1] [1] Jg6 [(.x 0,Q6d)])] Tryz.func384⟩
def Qk5(N:Nat):V:=⟨⟨340,Ng,[zs2],fun(x0,x1)=>Al N x0 x1,[]⟩,kF N [Qrv] [] Tryz.func340⟩
def Lb(N:Nat):V:=⟨⟨267,Ng,[Q16],fun(x0,x1)=>Wp N x0 x1,[]⟩,kF N [Qk5] [(5,.jn [4] [4] [(.n,⟨[(5,Sy)],[(100000,Jhh)]⟩)])] Tryz.func267⟩
def Ow(N:Nat):V:=⟨⟨252,(sD [.i,Q8]),[Qi1],fun(x0,x1)=>Ed N x0 x1,[]⟩,kF N [Tb,Lb] [(16,.lp [0,3] [3] ⟨[(5,Sx),(6,zs3)],Q8z⟩ [(.x 0,⟨[(5,Qe5)],[(100100,Dw)]⟩)])] Tryz.func252⟩
def Qd9(N:Nat):V:=⟨⟨250,⟨[(0,Qdg),(1,Gr),(2,I6),(3,.p 5003 [])],[(5000,Or),(5001,.var 242 Ot),(5002,Dw),(5003,Or)]⟩,[⟨[],[(5001,.var 242 Sw),(1,Dw)]⟩],fun(x0,ca,cd,cg)=>E9 N x0 ca cd cg,[5000,5003]⟩,kF N [Gt,Ow] [(7,.an (.dc 4 [16,17,18,19] [5001,5] [5003] (.op ⟨.nl 1 .done,[],[5001],[],[5002]⟩ (.op ⟨.nl 1 .done,[],[5003],[],[]⟩ (.op ⟨.nl 1 .done,[],[5],[],[]⟩ (.op ⟨.call 1 .done,[],[],[11901],[11901]⟩ Jcg))))))] Tryz.func250⟩
def Qea(N:Nat):V:=⟨⟨376,Jnu,[Jnv],fun(x0,x1,ce)=>Fa N x0 x1 ce,[]⟩,kF N [Kw] [(3,.lp [1,7,8] [] ⟨[(2,Gr),(9,zs3)],[(5000,.var 413 Qrf),(100001,Qmv)]⟩ [(.x 0,⟨[],[(5000,.var 413 Q12),(100201,Qmv)]⟩)]),(11,.jn [9] [] [(.n,⟨[(2,Gr)],[(5000,.var 413 Qdf),(100101,Qmv)]⟩)])] Tryz.func376⟩
def Tc(N:Nat):V:=⟨⟨376,Jnu,[Jnv],fun(x0,x1,ce)=>Wa N x0 x1 ce,[]⟩,kF N [Kw] [(3,.lp [1,7,8] [] ⟨[(2,Gr),(9,zs3)],[(5000,.var 413 Qrf),(100001,Qmv)]⟩ [(.x 0,⟨[],[(5000,.var 413 Q12),(100201,Qmv)]⟩)]),(11,.jn [9] [] [(.n,⟨[(2,Gr)],[(5000,.var 413 Qdf),(100101,Qmv)]⟩)])] Tryz.func376⟩
def Qhg(N:Nat):V:=⟨⟨332,(sD [.bool,.bool]),[zs5],fun(x0,x1)=>Cl N x0 x1,[]⟩,kF N [] [] Tryz.func332⟩
def Qhh(N:Nat):V:=⟨⟨331,⟨[(0,Q9i),(1,Q9i),(2,.f 332 .nil)],[]⟩,[Qi1],fun(x0,x1)=>Cm N x0 x1,[]⟩,kF N [Qea,Tc,fun _=>⟨_,Gq⟩,Qhg] [(7,.rg (.n 2 (.call 0 .done))),(9,.rg (.n 2 (.call 1 .done))),(22,.lp [2,7,24,25] [7,12101] ⟨[(9,Sx),(10,Q19),(11,zs7),(26,zs3)],[(100000,Dw),(100001,Q9l)]⟩ [(.x 0,⟨[(9,Qrh)],Jha⟩)]),(30,.jn [26] [] [(.n,⟨[(9,Qmm),(10,Jhd),(11,zs7)],[(100300,Dw),(100301,Q9l)]⟩)]),(34,.an (.dr 8 Qi0 Vp)),(37,.an (.dr 16 (.n 6 (.sp 44 10 [9,10,11,12,13,26] [13,100000,100001] ⟨[(54,zs7)],[]⟩ Q83 Q83 .done)) .done)),(42,.rg (.n 7 (.call 3 Vp))),(44,.jn [10,14,26] [13,100001] [(.n,⟨[(9,Qiy)],[(100200,Dw)]⟩)])] Tryz.func331⟩
def Qk6(N:Nat):V:=⟨⟨253,(sD [.sl Q8]),[Qi1],Mx N,[]⟩,kF N [Qhh] [] Tryz.func253⟩
def Qnp(N:Nat):V:=⟨⟨155,(sD [.sl Ue,.i,.i]),[Qi1],fun(x0,x1,x2)=>Pm N x0 x1 x2,[]⟩,kF N [Qd9,Qk6,Ow] [(10,.lp [17,18] [] ⟨[(4,Sy),(7,Q19),(8,.f 250 (sL [.p 100002 [],Q19,Sy])),(19,zs3)],[(100000,Or),(100001,.var 242 Jpy),(100002,Or),(100003,Dw)]⟩ [(.x 0,⟨[(4,Qf6),(7,Jhd)],[(100300,Or),(100301,.var 242 Jhm),(100302,Dw)]⟩)]),(24,.lp [19,24,25] [10] ⟨[(4,Qb4),(7,Jpw),(8,.f 250 (sL [.p 100102 [],Jpw,Qb4])),(26,zs3)],[(100100,Or),(100101,.var 242 Jgz),(100102,Or),(100103,Dw)]⟩ [(.x 2,⟨[(4,Qkz),(7,Jhg),(8,.f 250 (sL [.p 100202 [],Jhg,Qkz]))],[(100200,Or),(100201,.var 242 Jpx),(100202,Or),(100203,Dw)]⟩)]),(35,.rg (.n 2 (.call 0 .done))),(44,.lp [4,36,37] [13601,100300,100301,100302] ⟨[(13,Qrh),(38,zs3)],Jha⟩ [(.x 4,⟨[(13,Q8y)],[(100500,Dw)]⟩)])] Tryz.func155⟩
def Qrw(N:Nat):V:=⟨⟨334,⟨[(0,.d Yo),(1,Gr),(2,I6)],Jnw⟩,[zs5],fun(x0,ca,ce)=>Qam N x0 ca ce,[5000,5001]⟩,kF N [] [] Tryz.func334⟩
def Ip(N:Nat):V:=⟨⟨333,⟨[(0,.d (.sl Yo)),(1,.f 334 (sL [Gr,I6]))],Jnw⟩,[⟨Qg6,[(1,Qi5)]⟩],fun(x0,ca,ce)=>U9 N x0 ca ce,[5000,5001]⟩,kF N [Qrw] [(8,.lp [1,8,9] [] ⟨Jhc,[(100000,Qi5)]⟩ [(.x 0,⟨Jk8,[(100200,Qi5)]⟩)]),(16,.jn [10] [] [(.n,⟨[(5,Qe5)],[(100100,Qi5)]⟩)]),(20,.rg (.n 2 (.call 0 .done)))] Tryz.func333⟩
def Qnq(N:Nat):V:=⟨⟨335,Jre,[⟨[(0,.ag (sL [Yc,zs3,zs3,Yc,zs7,Sw]))],[(1,Qvg)]⟩],Pn N,[]⟩,kF N [] [(8,.lp [1,2,7,8] [1,2] ⟨[(3,Sx),(9,zs3)],[(100000,Qvg)]⟩ [(.x 0,⟨[(3,Qe5)],[(100100,Qvg)]⟩)]),(21,.rg (.n 2 (.fz 15 Q6g)))] Tryz.func335⟩
def Qx0(N:Nat):V:=⟨⟨254,(sD [.sl Yo,.str,.i]),[⟨[(0,.ag (sL [Yc,zs3,zs3,Yc,zs7,Sw])),(1,zs7)],[(1,Qvg)]⟩],fun(x0,x1,x2)=>Qgz N x0 x1 x2,[]⟩,kF N [Ip,Qnq] [] Tryz.func254⟩
def Qa3(N:Nat):V:=⟨⟨156,(sD [Ue,.sl Yo,Q8]),[⟨Qg6,[(1,Q9m)]⟩],fun(x0,x1,x2)=>Gk N x0 x1 x2,[]⟩,kF N [Gt,Qx0] [(6,.lp [1,3,5,18,19] [3,5] ⟨[(20,zs3)],[]⟩ [(.x 0,zs6),(.r,⟨[(6,Qrh)],[(100400,Q9m)]⟩)]),(33,.lp [9,42,43] [8,9,11,13801] ⟨[(13,Qe5),(44,zs3)],[(100100,Q9m)]⟩ [(.x 2,⟨[(13,Qiy)],[(100200,Q9m)]⟩)])] Tryz.func156⟩
def Ox(N:Nat):V:=⟨⟨255,Q9n,[zs5],fun(x0,x1)=>Ee N x0 x1,[]⟩,kF N [] [] Tryz.func255⟩
def Qrx(N:Nat):V:=⟨⟨256,(sD [Ym,Ym,.i]),[Jhw],fun(x0,x1,x2)=>Qan N x0 x1 x2,[]⟩,kF N [Nl,Ox] [(5,.jn [6] [3,4,6] [(.n,⟨[(7,Sy)],[(100000,.var 68 (.ag (sL [zs3,zs3,Yc,zs3,zs3,Qrf,Qdg,zs3,zs3,zs3,zs7]))),(100001,Qrd)]⟩)])] Tryz.func256⟩
def Qnr(N:Nat):V:=⟨⟨257,Q9n,[zs5],fun(x0,x1)=>Po N x0 x1,[]⟩,kF N [] [] Tryz.func257⟩
def Qhi(N:Nat):V:=⟨⟨157,⟨[(0,Gr),(1,.d H9)],[(5000,.var 234 (.ag (sL [Qrj,Qvc]))),(5001,Um),(5002,Qbw)]⟩,[⟨[],[(5000,.var 234 (.ag (sL [Sw,Qvc]))),(5002,Qbw),(1,Um)]⟩],fun(x1,ce,cd)=>Cn N x1 ce cd,[]⟩,kF N [Qmw,Nl,Ox,Qrx,Qnr] [(4,.an (.dc 7 [9,10,11,12,13,14,15] [5000,3] [] (.op ⟨.nl 1 .done,[],[],[],[5000]⟩ (.op ⟨.nl 1 .done,[],[5000],[],[5000]⟩ (.op ⟨.nl 1 .done,[],[],[],[5000]⟩ (.op ⟨.nl 1 .done,[],[5000],[],[5002]⟩ (.op ⟨.nl 1 .done,[],[],[],[3]⟩ (.op ⟨.nl 1 .done,[],[3],[],[]⟩ Jnx)))))))),(14,.gh (.fz 11901 .done)),(14,.lp [0,3,23,24] [3,5000,5001,5002] ⟨[(4,Sy),(25,zs3)],[(100000,.var 68 (.ag (sL [zs3,zs3,Yc,zs3,zs3,Qrf,Qdg,zs3,zs3,zs3,zs7]))),(100001,.tail 9 .str)]⟩ [(.x 0,⟨[(4,Qb4)],[(100100,.var 68 (.ag (sL [zs3,zs3,Yc,zs3,zs3,Qdf,Qdg,zs3,zs3,zs3,zs7]))),(100101,.tail 9 .str)]⟩)]),(37,.lp [0,4] [3,5000,5001,5002,100100,100101] Qnd [(.x 2,Qnd)]),(40,.jn [7] [] [(.n,Jpp)]),(40,.an (.dc 16 [38,39,40,41,42,43,44,45,46,47,48,49,50,51,52,53] [] [5000,5001,100100] (.op ⟨.nl 1 .done,[],[],[],[]⟩ (.op ⟨.nl 1 .done,[],[],[],[5000]⟩ (.op ⟨.nl 1 .done,[],[5000],[],[5000]⟩ (.op ⟨.nl 1 .done,[],[],[],[5000]⟩ (.op ⟨.nl 1 .done,[],[5000],[],[5001]⟩ (.op ⟨.nl 1 .done,[],[5001],[],[]⟩ (.op ⟨.nl 1 .done,[],[],[],[]⟩ (.op ⟨.nl 1 .done,[],[],[],[]⟩ (.so 45 (.op ⟨.nl 1 .done,[],[],[],[5000]⟩ (.op ⟨.nl 1 .done,[],[5000],[],[5000]⟩ (.op ⟨.nl 1 .done,[],[],[],[5000]⟩ (.op ⟨.nl 1 .done,[],[5000],[],[5001]⟩ (.op ⟨.nl 1 .done,[],[],[],[]⟩ (.op ⟨.nl 1 .done,[],[5001],[],[5001]⟩ (.op ⟨.nl 1 .done,[],[5001],[],[]⟩ (.op ⟨.nl 1 .done,[],[100100],[],[100101]⟩ (.tl (.call 4 Vp)))))))))) (.op ⟨.nl 1 .done,[],[],[],[]⟩ Q84)))))))))))),(47,.rg (.n 5 (.fz 5001 Q6g))),(52,.gh (.dt 100100 .done)),(52,.an (.dc 6 [80,81,82,83,84,85] [5000,100100] [] (.op ⟨.nl 1 .done,[],[],[],[5000]⟩ (.op ⟨.nl 1 .done,[],[5000],[],[5000]⟩ (.op ⟨.nl 1 .done,[],[],[],[5000]⟩ (.op ⟨.nl 1 .done,[],[5000],[],[5002]⟩ (.op ⟨.nl 1 .done,[],[100100],[],[]⟩ Jnx)))))))] Tryz.func157⟩
def Qk7(N:Nat):V:=⟨⟨90,(sD [.sl Jv,.sl Yo,Ud,.i,.i]),[Q18],fun(x0,x1,x2,x3,x4)=>My N x0 x1 x2 x3 x4,[]⟩,kF N [Nl,Qmw,Qnl,Qjf,Qnp,Qa3,Qhi] [(8,.lp [0,1,3,4,7,10,27,28] [7,10] ⟨[(11,Sy),(29,zs3)],[(100000,.var 234 (.ag (sL [Qrf,.m 100002]))),(100001,Um),(100002,Qbw)]⟩ [(.x 0,⟨[(11,Qb4)],[(100100,.var 234 (.ag (sL [Qdf,.m 100102]))),(100101,Um),(100102,Qbw)]⟩)]),(20,.an (.dc 9 [33,34,35,36,37,38,39,40,41] [100000,13,100001] [] (.op ⟨.nl 1 .done,[],[],[],[100000]⟩ (.op ⟨.nl 1 .done,[],[],[],[100000]⟩ (.op ⟨.nl 1 .done,[],[100000],[],[100000]⟩ (.op ⟨.nl 1 .done,[],[],[],[100000]⟩ (.op ⟨.nl 1 .done,[],[100000],[],[100001]⟩ (.op ⟨.nl 1 .done,[],[13],[],[]⟩ (.op ⟨.call 0 .done,[],[],[13901],[13901]⟩ (.op ⟨.fz 13901 (.nl 1 .done),[13901],[],[],[13901]⟩ (.op ⟨.nl 1 .done,[100001],[],[41],[41]⟩ Qre))))))))))),(21,.an (.dc 6 [44,45,46,47,48,49] [100000,13] [] (.op ⟨.nl 1 .done,[],[],[],[100000]⟩ (.op ⟨.nl 1 .done,[],[100000],[],[100000]⟩ (.op ⟨.nl 1 .done,[],[],[],[100000]⟩ (.op ⟨.nl 1 .done,[],[100000],[],[100002]⟩ (.op ⟨.nl 1 .done,[],[13],[],[]⟩ (.op ⟨.call 1 .done,[],[],[],[]⟩ Nf)))))))),(24,.an (.dc 8 [51,52,53,54,55,56,57,14] [7] [] (.op ⟨.nl 1 .done,[],[],[],[7]⟩ (.op ⟨.nl 1 .done,[],[7],[],[]⟩ (.op ⟨.nl 1 .done,[],[],[53],[53]⟩ (.op ⟨.nl 1 .done,[],[],[],[7]⟩ (.op ⟨.nl 1 .done,[],[7],[],[]⟩ (.op ⟨.nl 1 .done,[],[],[56],[56]⟩ (.op ⟨.nl 1 .done,[],[],[],[53,56]⟩ (.op ⟨.nl 1 .done,[],[],[14],[14]⟩ Nf)))))))))),(28,.jn [10,14] [7,10,14,53,56] [(.n,⟨[(11,.p 100900 [])],[(100900,.var 234 (.ag (sL [.s 100901,.m 100902]))),(100901,Um),(100902,Qbw)]⟩)]),(36,.lp [1,4,10,14,16,77,78] [17301,17701] ⟨[(11,Qkz),(79,zs3)],[(100200,.var 234 (.ag (sL [Q12,.m 100202]))),(100201,Um),(100202,Qbw)]⟩ [(.x 2,⟨[(11,.p 100800 [])],[(100800,.var 234 (.ag (sL [.s 100801,.m 100802]))),(100801,Um),(100802,Qbw)]⟩)]),(50,.lp [18,79,83,84] [18] ⟨[(11,Qf6),(85,zs3)],[(100300,.var 234 (.ag (sL [Q2b,.m 100302]))),(100301,Um),(100302,Qbw)]⟩ [(.x 4,⟨[(11,.p 100700 [])],[(100700,.var 234 (.ag (sL [Jhq,.m 100702]))),(100701,Um),(100702,Qbw)]⟩)]),(64,.lp [85,92,93] [20,19201] ⟨[(11,Qvd),(94,zs3)],[(100400,.var 234 (.ag (sL [Q9b,.m 100402]))),(100401,Um),(100402,Qbw)]⟩ [(.x 6,⟨[(11,.p 100600 [])],[(100600,.var 234 (.ag (sL [Jhp,.m 100602]))),(100601,Um),(100602,Qbw)]⟩)]),(72,.jn [94] [] [(.n,⟨[(11,.p 100500 [])],[(100500,.var 234 (.ag (sL [Jho,.m 100502]))),(100501,Um),(100502,Qbw)]⟩)])] Tryz.func90⟩
def Qry(N:Nat):V:=⟨⟨336,Q9h,[Jhw],Qao N,[]⟩,kF N [] [] Tryz.func336⟩
def Qns(N:Nat):V:=⟨⟨258,Jnp,[⟨Qg6,[(1,Um)]⟩],Pp N,[]⟩,kF N [Qry] [(8,.lp [6,7] [] ⟨[(3,Sx),(8,zs3)],[(100000,Um)]⟩ [(.x 0,⟨[(3,Qe5)],[(100100,Um)]⟩)]),(19,.rg (.n 2 (.call 0 (.fz 11401 Q6g))))] Tryz.func258⟩
def Qk8(N:Nat):V:=⟨⟨379,Ng,[zs2],fun(x0,x1)=>Kt N x0 x1,[]⟩,kF N [] [] Tryz.func379⟩
def Qk9(N:Nat):V:=⟨⟨337,Q9n,[zs5],fun(x0,x1)=>Mz N x0 x1,[]⟩,kF N [Qk8] [] Tryz.func337⟩
def Lc(N n:Nat):Con:=⟨259,(sD [.sl Ym,.i,.i]),[(sD [.sl .i])],fun(x0,x1,x2)=>Ug N n x0 x1 x2,[]⟩
theorem Nm(N:Nat):∀n,KO (Lc N n)
 | 0=>⟨F2 fun _=>rfl,I4 Tryz.func259 rfl⟩
 | n+1=>have ih:=Nm N n; kF N [fun _=>⟨_,ih⟩,Qk9] [(12,.lp [2] [] Jmp [(.x 0,⟨[(7,Qe5)],[(100100,H1)]⟩)]),(37,.lp [0,10,11] [] ⟨[(12,Qiy),(13,zs3),(14,zs3)],Jg9⟩ [(.x 2,⟨[(12,Qrh)],Jg8⟩)]),(46,.jn [12,13,14] [100200] [(.n,⟨[(85,zs7)],[]⟩)]),(46,.an (.dc 24 [58,59,60,61,62,63,64,65,66,67,68,69,70,71,72,73,74,75,76,77,78,79,80,81] [] [] (.op ⟨.nl 1 .done,[],[],[],[]⟩ (.op ⟨.nl 1 .done,[],[],[],[]⟩ (.op ⟨.nl 1 .done,[],[],[],[]⟩ (.op ⟨.nl 1 .done,[],[],[],[]⟩ (.op ⟨.nl 1 .done,[],[],[],[]⟩ (.so 62 (.op ⟨.nl 1 .done,[],[],[],[]⟩ (.op ⟨.nl 1 .done,[],[],[],[]⟩ (.op ⟨.nl 1 .done,[],[],[],[]⟩ (.op ⟨.nl 1 .done,[],[],[],[]⟩ (.op ⟨.nl 1 .done,[],[],[],[]⟩ Jny))))) (.op ⟨.nl 1 .done,[],[],[],[]⟩ (.op ⟨.nl 1 .done,[],[],[],[]⟩ (.op ⟨.nl 1 .done,[],[],[],[]⟩ (.op ⟨.nl 1 .done,[],[],[],[]⟩ (.op ⟨.nl 1 .done,[],[],[],[]⟩ (.so 67 (.op ⟨.nl 1 .done,[],[],[],[]⟩ (.op ⟨.nl 1 .done,[],[],[],[]⟩ (.op ⟨.nl 1 .done,[],[],[],[]⟩ (.op ⟨.nl 1 .done,[],[],[],[]⟩ (.op ⟨.nl 1 .done,[],[],[],[]⟩ (.op ⟨.nl 1 .done,[],[],[],[]⟩ (.op ⟨.nl 1 .done,[],[],[],[]⟩ (.op ⟨.nl 1 .done,[],[],[],[]⟩ (.op ⟨.nl 1 .done,[],[],[],[]⟩ (.op ⟨.nl 1 .done,[],[],[],[]⟩ (.op ⟨.nl 1 .done,[],[],[],[]⟩ (.op ⟨.nl 1 .done,[],[],[],[]⟩ (.op ⟨.nl 1 .done,[],[],[],[]⟩ (.op ⟨.nl 1 .done,[],[],[],[]⟩ (.tl (.call 1 Jce)))))))))))))))) Jny))))))))))))))] Tryz.func259
def Qnt(N:Nat):V:=⟨Lc N N,Nm N N⟩
def Qnu(N:Nat):V:=⟨⟨260,(sD [Ym,.i,.i,.i,.str,.bool,.i]),[zs5],fun(x0,x1,x2,x3,x4,x5,x6)=>Pq N x0 x1 x2 x3 x4 x5 x6,[]⟩,kF N [La] [(4,.rg (.n 10 (.sp 26 6 [1,2,4,5,6,7] [7] ⟨[(32,zs7)],[]⟩ Qs3 (.nl 3 Jgw) .done))),(22,.lp [4,7,53,54] [7] ⟨[(55,zs3)],[]⟩ [(.x 0,zs6),(.r,⟨[(14,zs7)],[]⟩)])] Tryz.func260⟩
def Q2j(N:Nat):V:=⟨⟨261,Q9h,[(sD [R8])],Qkv N,[]⟩,kF N [] [] Tryz.func261⟩
def Qs7(N:Nat):V:=⟨⟨158,(sD [.sl Ym,.i,.i,.i,.str,.bool,.i,.i]),[⟨[(0,Sw),(1,Q11),(2,zs3)],[(1,Um),(2,Ua)]⟩],fun(x0,x1,x2,x3,x4,x5,x6,x7)=>Qc4 N x0 x1 x2 x3 x4 x5 x6 x7,[]⟩,kF N [Qns,Qnt,Qnu,Q2j] [(12,.lp [0,1,2,3,4,5,6,32,33] [] ⟨[(7,zs3),(19,Sx),(20,Qrf),(34,zs3)],[(100000,Um),(100001,Ua)]⟩ [(.x 0,⟨[(7,zs3),(19,Qmm),(20,Q2b)],[(100300,Um),(100301,Ua)]⟩)]),(20,.jn [34] [] [(.n,⟨[(7,zs3),(19,Qiy),(20,Q12)],[(100200,Um),(100201,Ua)]⟩),(.x 0,⟨[(7,zs3),(19,Qe5),(20,Qdf)],[(100100,Um),(100101,Ua)]⟩)])] Tryz.func158⟩
def Qnv(N:Nat):V:=⟨⟨91,(sD [Ud,J0,.str,.bool]),[⟨[(0,Jcf),(1,.s 4),(2,zs3)],[(1,Um),(2,Qbr),(3,Qbs),(4,Ua)]⟩],fun(x0,x1,x2,x3)=>Pr N x0 x1 x2 x3,[]⟩,kF N [Im,Qs7] [] Tryz.func91⟩
def Qla(N:Nat):V:=⟨⟨54,⟨Qbu,[(5000,.var 102 (.ag (sL [H2,Bz,V7,Au,By,.ag (sL [Yc,zs3,zs7,Qms,Qrj,Ot,S5]),zs3,.ag (sL [V7,zs3,Yc,zs3,Yc,Qbv,Qmp,zs3,zs3,zs3,Qi3,zs3,zs3])]))),(5001,Ww),(5002,Hk),(5003,Fo),(5004,Ua),(5005,Ub),(5006,Uu)]⟩,[⟨[],[(5000,.var 102 (.ag (sL [H2,Jcf,V7,Au,By,.ag (sL [Yc,zs3,zs7,Qms,.s 4,.s 5,.s 6]),zs3,.ag (sL [V7,zs3,Yc,zs3,Yc,.s 7,.s 8,zs3,zs3,zs3,.s 9,zs3,zs3])]))),(1,Um),(2,Qbr),(3,Qbs),(4,Ww),(5,Hk),(6,Fo),(7,Ua),(8,Ub),(9,Uu)]⟩],fun(cx,dg,cq,g8,g9,gk,gm,gn,gq,du,dv,dw,dy,dz,dl,g5,dx,dq,g6,g7,ce,cd,cg,ci,cj,ck)=>M2 N cx dg cq g8 g9 gk gm gn gq du dv dw dy dz dl g5 dx dq g6 g7 ce cd cg ci cj ck,[5004]⟩,kF N [Qje,Qk7,Qnv] [(1,.an (.dc 21 [5,6,7,8,9,10,11,12,13,14,15,16,17,18,19,20,21,22,23,24,2] [5000] [] (.op ⟨.nl 1 .done,[],[],[],[5000]⟩ (.op ⟨.nl 1 .done,[],[5000],[],[5000]⟩ (.op ⟨.nl 1 .done,[],[],[],[5000]⟩ (.op ⟨.nl 1 .done,[],[],[],[5000]⟩ (.op ⟨.nl 1 .done,[],[5000],[],[]⟩ (.op ⟨.nl 1 .done,[],[],[],[5000]⟩ (.op ⟨.nl 1 .done,[],[5000],[],[5000]⟩ (.op ⟨.nl 1 .done,[],[],[],[5000]⟩ (.op ⟨.nl 1 .done,[],[5000],[],[]⟩ (.op ⟨.nl 1 .done,[],[],[],[5000]⟩ (.op ⟨.nl 1 .done,[],[5000],[],[5000]⟩ (.op ⟨.nl 1 .done,[],[],[],[5000]⟩ (.op ⟨.nl 1 .done,[],[],[],[5000]⟩ (.op ⟨.nl 1 .done,[],[5000],[],[]⟩ (.op ⟨.nl 1 .done,[],[],[],[5000]⟩ (.op ⟨.nl 1 .done,[],[5000],[],[5000]⟩ (.op ⟨.nl 1 .done,[],[],[],[5000]⟩ (.op ⟨.nl 1 .done,[],[],[],[5000]⟩ (.op ⟨.nl 1 .done,[],[5000],[],[]⟩ (.op ⟨.call 0 .done,[],[],[12403,12402,12401],[12401,12402,12403]⟩ (.op ⟨.nl 1 .done,[],[],[2],[2]⟩ Nf))))))))))))))))))))))),(3,.an (.dr 21 (.n 21 .done) Jg0)),(5,.gh (.fz 14601 (.dt 2 (.fz 14602 (.dt 2 (.fz 14603 (.dt 2 .done))))))),(5,.an (.dc 22 [48,49,50,51,52,53,54,55,56,57,58,59,60,61,62,63,47,64,65,66,1000000020,3] [2,5000] [] (.op ⟨.nl 1 .done,[],[2],[],[]⟩ (.op ⟨.nl 1 .done,[],[],[],[5000]⟩ (.op ⟨.nl 1 .done,[],[5000],[],[5000]⟩ (.op ⟨.nl 1 .done,[],[],[],[5000]⟩ (.op ⟨.nl 1 .done,[],[5000],[],[]⟩ (.op ⟨.nl 1 .done,[],[],[],[5000]⟩ (.op ⟨.nl 1 .done,[],[5000],[],[5000]⟩ (.op ⟨.nl 1 .done,[],[],[],[5000]⟩ (.op ⟨.nl 1 .done,[],[],[],[5000]⟩ (.op ⟨.nl 1 .done,[],[5000],[],[]⟩ (.op ⟨.nl 1 .done,[],[],[],[5000]⟩ (.op ⟨.nl 1 .done,[],[5000],[],[5000]⟩ (.op ⟨.nl 1 .done,[],[],[],[5000]⟩ (.op ⟨.nl 1 .done,[],[],[],[5000]⟩ (.op ⟨.nl 1 .done,[],[5000],[],[]⟩ (.op ⟨.call 2 .done,[],[],[16304,16303,16302,16301],[16301,16302,16303,16304]⟩ (.op ⟨.nl 1 .done,[],[],[],[16301,16302,16303,16304]⟩ (.op ⟨.nl 1 .done,[],[],[],[16301,16302,16303]⟩ (.op ⟨.nl 1 .done,[],[],[],[16304]⟩ (.op ⟨.nl 1 .done,[],[],[],[]⟩ (.op ⟨.nl 1 .done,[2],[16301,16302,16303],[],[2,16301,16302,16303]⟩ (.op ⟨.nl 1 .done,[],[],[],[16304]⟩ Nf))))))))))))))))))))))))] Tryz.func54⟩
def Qlb(N:Nat):V:=⟨⟨262,(sD [J0,.i]),[zs5],fun(x0,x1)=>M3 N x0 x1,[]⟩,kF N [] [] Tryz.func262⟩
def Qx1(N:Nat):V:=⟨⟨269,Qne,[zs5],Qg0 N,[]⟩,kF N [] [(6,.lp [0,6] [] Qnd Qrc)] Tryz.func269⟩
def Qnw(N:Nat):V:=⟨⟨271,⟨[(0,.d Vv),(1,Gr)],Jnz⟩,[zs5],fun(x0,ca)=>Ps N x0 ca,[5000]⟩,kF N [] [] Tryz.func271⟩
def Lm(N:Nat):V:=⟨⟨342,Jn1,[zs2],fun(x0,ca)=>Zm N x0 ca,[5000]⟩,kF N [Qnw] [(6,.lp [0,1,7] [] Qkx Qs2),(18,.rg (.n 5 (.call 0 .done)))] Tryz.func342⟩
def Cv(N:Nat):V:=⟨⟨270,Jn1,[zs5],fun(x0,ca)=>Uh N x0 ca,[5000]⟩,kF N [Lm] [] Tryz.func270⟩
def Qs8(N:Nat):V:=⟨⟨272,Jna,[zs2],Qc6 N,[]⟩,kF N [] [(22,.lp [11,12] [] ⟨[(13,zs3)],[]⟩ Qnf)] Tryz.func272⟩
def P8(N:Nat):V:=⟨⟨164,Jml,[zs2],Dp N,[]⟩,kF N [Qx1,Cv,Qs8] [(22,.lp [0,12,13] [] ⟨[(14,zs3)],[]⟩ Qnf),(30,.jn [14] [] [(.n,zs6),(.r,⟨[(2,zs3)],[]⟩)])] Tryz.func164⟩
def Qhj(N:Nat):V:=⟨⟨344,Q17,[zs2],fun(x0,x1)=>Cp N x0 x1,[]⟩,kF N [] [(6,.lp [0,1,7] [] Qkx Qs2)] Tryz.func344⟩
def Qcc(N:Nat):V:=⟨⟨275,Q17,[zs5],fun(x0,x1)=>Hu N x0 x1,[]⟩,kF N [Qhj] [] Tryz.func275⟩
def Nn(N:Nat):V:=⟨⟨170,zs2,[zs2],G6 N,[]⟩,kF N [] [] Tryz.func170⟩
def Qmx(N:Nat):V:=⟨⟨166,Q17,[zs2],fun(x0,x1)=>Qev N x0 x1,[]⟩,kF N [Qcc,Nn] [] Tryz.func166⟩
def Qrz(N:Nat):V:=⟨⟨273,⟨[(0,.d Kn),(1,Gr),(2,I6)],Jn2⟩,[zs5],fun(x0,ca,ce)=>Qap N x0 ca ce,[5000,5001]⟩,kF N [] [] Tryz.func273⟩
def Ln(N:Nat):V:=⟨⟨343,Jn3,[zs2],fun(x0,ca,ce)=>Zn N x0 ca ce,[5000,5001]⟩,kF N [Qrz] [(6,.lp [0,1,7] [] Qkx Qs2),(18,.rg (.n 5 (.call 0 .done)))] Tryz.func343⟩
def Cw(N:Nat):V:=⟨⟨274,Jn3,[zs5],fun(x0,ca,ce)=>Ui N x0 ca ce,[5000,5001]⟩,kF N [Ln] [] Tryz.func274⟩
def Qjh(N:Nat):V:=⟨⟨165,(sD [.sl Vv,.i,.i]),[Qne],fun(x0,x1,x2)=>Qaq N x0 x1 x2,[]⟩,kF N [Cw] [(8,.lp [0,7,11,12] [4,5] ⟨[(13,zs3)],[]⟩ [(.x 0,zs6),(.r,⟨[(6,Yc)],[]⟩)])] Tryz.func165⟩
def Qr0(N:Nat):V:=⟨⟨95,(sD [.sl Vv,.sl .i,.i]),[Qne],fun(x0,x1,x2)=>Qit N x0 x1 x2,[]⟩,kF N [P8,Qmx,Qjh] [] Tryz.func95⟩
def Qr1(N:Nat):V:=⟨⟨338,(sD [.sl Vv,.i]),[Jg7],fun(x0,x1)=>Qar N x0 x1,[]⟩,kF N [fun _=>⟨_,Qg5⟩,fun _=>⟨_,Qb3⟩,fun _=>⟨_,Il⟩] [(3,.rg (.br Vp)),(8,.lp [1,11,12] [] ⟨[(5,Sx),(13,zs3)],Jg5⟩ [(.x 0,⟨[(5,Qrh)],Jg8⟩)]),(22,.lp [13,18,19] [7] ⟨[(5,Qe5),(20,zs3)],[(100100,H1)]⟩ [(.x 2,⟨[(5,Qmm)],[(100300,H1)]⟩)]),(30,.jn [20] [] [(.n,⟨Jk8,Jg9⟩)]),(36,.rg (.n 5 (.br Q6h)))] Tryz.func338⟩
def Q2k(N:Nat):V:=⟨⟨263,(sD [.sl Vv,.sl .i,Q8]),[⟨Qg6,[(1,Qvh)]⟩],fun(x0,x1,x2)=>Qkw N x0 x1 x2,[]⟩,kF N [P8,Kw,Qmx,Qr1,Gt,Qjh] [(4,.rg (.n 1 (.call 0 (.n 2 (.sp 21 4 [0,1,5] [5] Jhx Sv Q2d Qi0))))),(16,.lp [0,1,5] [5] ⟨[(7,Qe5),(8,zs3)],[(100100,Qvh)]⟩ [(.x 0,⟨[(7,.s 100700)],[(100700,Qvh)]⟩)]),(32,.lp [8,9,10,51,52] [15001] ⟨[(7,Qiy),(53,zs3)],[(100200,Qvh)]⟩ [(.x 2,⟨[(7,.s 100600)],[(100600,Qvh)]⟩)]),(40,.jn [53] [] [(.n,⟨[(7,Q8y)],[(100500,Qvh)]⟩)]),(46,.jn [7,12,53] [100200] [(.n,⟨[(13,Qf6)],[(100300,Jhh)]⟩)]),(60,.an (.dc 7 [90,91,92,93,94,95,16] [14] [] (.op ⟨.nl 1 .done,[],[],[],[]⟩ (.op ⟨.nl 1 .done,[],[],[],[]⟩ (.op ⟨.nl 1 .done,[],[],[],[]⟩ (.op ⟨.call 5 .done,[],[],[],[]⟩ (.op ⟨.nl 1 .done,[],[14],[],[]⟩ (.op ⟨.nl 1 .done,[],[],[],[]⟩ (.op ⟨.nl 1 .done,[],[],[16],[16]⟩ Nf))))))))),(64,.an (.dr 12 (.n 3 (.sp 101 9 [7,14,16,17,53] [14,16,100200,100300] ⟨[(110,zs7)],[]⟩ Qky Qky .done)) .done))] Tryz.func263⟩
def Qlc(N:Nat):V:=⟨⟨264,⟨[(0,.d G0),(1,Gr),(2,I6),(3,.p 5002 [])],[(5000,Or),(5001,Q2f),(5002,Q2f)]⟩,[zs5],fun(x0,ca,ce,cd)=>M4 N x0 ca ce cd,[5000,5001,5002]⟩,kF N [] [] Tryz.func264⟩
def Qr2(N:Nat):V:=⟨⟨160,(sD [J6,.i,.str,.str]),[⟨[(0,.ag (sL [zs3,Yc,Yc,zs3,Sw])),(1,zs7)],[(1,Q9c)]⟩],fun(x0,x1,x2,x3)=>Qas N x0 x1 x2 x3,[]⟩,kF N [Qlc] [(8,.lp [10,15,16] [4,5,6,7] ⟨[(8,Sy),(17,zs3)],[(100000,Jn4)]⟩ [(.x 0,⟨[(8,Qb4)],[(100100,Jn4)]⟩),(.r,⟨[(8,Qkz),(9,zs7)],[(100200,.var 142 (.ag (sL [zs3,Yc,Yc,zs3,Q12]))),(100201,Q9c)]⟩)]),(20,.rg (.n 2 (.call 0 .done)))] Tryz.func160⟩
def Td(N:Nat):V:=⟨⟨339,(sD [.i,.sl .i]),[zs5],fun(x0,x1)=>Gl N x0 x1,[]⟩,kF N [] [(6,.lp [0,7,8] [] Qrk zs8)] Tryz.func339⟩
def Qhk(N:Nat):V:=⟨⟨265,⟨[(0,.s 5000)],Jhz⟩,[zs2],Cq N,[5000]⟩,kF N [Td] [(24,.lp [0,12,13] [] ⟨[(3,zs3),(14,zs3)],[]⟩ Qnf),(37,.rg (.n 5 (.call 0 (.n 7 (.sp 31 6 [3,4,5,14] [5] Jpm Qs3 (.nl 3 Jgw) .done)))))] Tryz.func265⟩
def Qji(N:Nat):V:=⟨⟨266,⟨[(0,.s 5000),(1,zs3)],Jhz⟩,[Qrl],fun(x1,ca)=>Ef N x1 ca,[5000]⟩,kF N [] [(8,.lp [1,12,13] [] ⟨[(6,zs3),(7,zs3),(14,zs3)],[]⟩ [(.x 0,zs9),(.r,⟨[(4,zs3),(5,zs7)],[]⟩)]),(22,.jn [6,7,9,14] [9] [(.n,⟨[(10,zs3)],[]⟩)]),(37,.an (.dr 7 Q8x .done))] Tryz.func266⟩
def Qfj(N:Nat):V:=⟨⟨161,⟨[(0,.s 5000),(1,zs3),(2,zs3)],Jhz⟩,[Ng],fun(x1,x2,ca)=>Am N x1 x2 ca,[5000]⟩,kF N [Qhk,Qji] [] Tryz.func161⟩
def Qld(N:Nat):V:=⟨⟨159,Jn5,[⟨Qg6,[(1,Ub)]⟩],fun(x0,x1,x2,x3)=>M6 N x0 x1 x2 x3,[]⟩,kF N [Qlb,P8,Qr0,Q2k] [(4,.rg (.n 2 (.call 0 (.n 2 (.sp 17 5 [1,3,4,6] [4,6] ⟨[(22,zs7)],[]⟩ Fq Jgv .done))))),(13,.jn [1,3,4,6] [4,6] [(.n,Qrk)]),(23,.an (.dc 10 [39,40,41,42,43,44,45,46,47,48] [4,6] [] (.op ⟨.nl 1 .done,[],[],[],[4]⟩ (.op ⟨.nl 1 .done,[],[4],[],[]⟩ (.op ⟨.nl 1 .done,[],[],[],[]⟩ (.op ⟨.nl 1 .done,[],[],[],[]⟩ (.op ⟨.call 2 .done,[],[],[],[]⟩ (.op ⟨.nl 1 .done,[],[],[],[]⟩ (.op ⟨.nl 1 .done,[],[],[],[6]⟩ (.op ⟨.nl 1 .done,[],[6],[],[]⟩ (.op ⟨.nl 1 .done,[],[],[],[]⟩ (.op ⟨.nl 1 .done,[],[],[],[]⟩ (.tl (.n 1 (.br Vp))))))))))))))),(32,.lp [61,62] [4,6,16101] ⟨[(10,Qiy),(63,zs3)],[(100200,Ub)]⟩ [(.x 0,⟨[(10,Qmm)],[(100300,Ub)]⟩)]),(43,.rg (.n 14 (.br Q6h)))] Tryz.func159⟩
def Qnx(N:Nat):V:=⟨⟨92,Jn5,[⟨Jn6,[(1,Ub)]⟩],fun(x0,x1,x2,x3)=>Pt N x0 x1 x2 x3,[]⟩,kF N [Qjc,Qld,Qr2,Qfj] [(15,.lp [4,6,11,37] [4,6] ⟨[(13,Sx),(14,zs3),(15,zs3),(16,zs3),(17,zs3),(38,zs3)],[(100000,Ub)]⟩ [(.x 0,⟨[(13,Qiy),(14,zs3),(15,zs3),(17,zs3)],[(100200,Ub)]⟩)]),(27,.an (.dc 15 [42,43,44,45,46,47,48,49,50,51,41,52,53,19,1000000014] [100000] [4,6] (.op ⟨.nl 1 .done,[],[4],[],[]⟩ (.op ⟨.nl 1 .done,[],[],[],[6]⟩ (.op ⟨.nl 1 .done,[],[6],[],[]⟩ (.op ⟨.nl 1 .done,[],[],[],[]⟩ (.op ⟨.nl 1 .done,[],[],[],[100000]⟩ (.op ⟨.nl 1 .done,[],[],[],[]⟩ (.op ⟨.nl 1 .done,[],[100000],[],[100000]⟩ (.op ⟨.nl 1 .done,[],[],[],[100000]⟩ (.op ⟨.nl 1 .done,[],[100000],[],[]⟩ (.op ⟨.call 2 .done,[],[],[15101],[15101]⟩ (.op ⟨.nl 1 .done,[],[],[],[15101]⟩ (.op ⟨.nl 1 .done,[],[],[],[15101]⟩ (.op ⟨.nl 1 .done,[],[],[],[]⟩ (.op ⟨.nl 1 .done,[],[],[19],[19]⟩ (.op ⟨.nl 1 .done,[19],[15101],[],[19,15101]⟩ Nf))))))))))))))))),(37,.jn [13,15,16,17,18,19,38] [19,15101,100000] [(.n,⟨[(14,zs3)],[]⟩)]),(43,.an (.dc 13 [61,62,63,64,65,66,67,68,69,60,70,71,21] [19,100000,15101] [] (.op ⟨.nl 1 .done,[],[],[],[19]⟩ (.op ⟨.nl 1 .done,[],[19],[],[15101]⟩ (.op ⟨.nl 1 .done,[],[],[],[]⟩ (.op ⟨.nl 1 .done,[],[],[],[100000]⟩ (.op ⟨.nl 1 .done,[],[],[],[]⟩ (.op ⟨.nl 1 .done,[],[100000],[],[100000]⟩ (.op ⟨.nl 1 .done,[],[],[],[100000]⟩ (.op ⟨.nl 1 .done,[],[100000],[],[]⟩ (.op ⟨.call 3 .done,[],[15101],[],[]⟩ Jn7))))))))))),(59,.jn [13,14] [4,6,100200] [(.n,⟨[(17,zs3)],[]⟩)])] Tryz.func92⟩
def Qle(N:Nat):V:=⟨⟨55,⟨Qbu,[(5000,.var 102 (.ag (sL [H2,.ag (sL [Qrj,Ot,S5]),V7,Au,By,.ag (sL [Yc,zs3,zs7,Qms,Qbv,Qmp,Qi3]),zs3,Jm6]))),(5001,Um),(5002,Qbr),(5003,Qbs),(5004,Ww),(5005,Hk),(5006,Fo),(5007,Ua),(5008,Ub),(5009,Uu)]⟩,[⟨Qi4,[(5000,Jn8),(1,Um),(2,Qbr),(3,Qbs),(4,Ua),(5,Ub),(6,Uu)]⟩],fun(cx,cq,g8,g9,gk,gm,gn,gq,du,dv,dw,dy,dz,dl,g5,dx,dq,g6,g7,ce,cd,cg,ci,cj,ck,cm,dj,ge)=>M7 N cx cq g8 g9 gk gm gn gq du dv dw dy dz dl g5 dx dq g6 g7 ce cd cg ci cj ck cm dj ge,[]⟩,kF N [Qnx] [(3,.gh (.fz 5004 (.dt 5000 (.fz 5005 (.dt 5000 Jm2))))),(3,.an (.dc 24 [10,11,12,13,14,15,16,17,18,19,20,21,22,23,24,25,26,27,9,28,29,30,3,4] [5000] [] (.op ⟨.nl 1 .done,[],[],[],[5000]⟩ (.op ⟨.nl 1 .done,[],[5000],[],[5000]⟩ (.op ⟨.nl 1 .done,[],[],[],[5000]⟩ (.op ⟨.nl 1 .done,[],[5000],[],[]⟩ (.op ⟨.nl 1 .done,[],[],[],[5000]⟩ (.op ⟨.nl 1 .done,[],[5000],[],[5000]⟩ (.op ⟨.nl 1 .done,[],[],[],[5000]⟩ (.op ⟨.nl 1 .done,[],[],[],[5000]⟩ (.op ⟨.nl 1 .done,[],[5000],[],[]⟩ (.op ⟨.nl 1 .done,[],[],[],[5000]⟩ (.op ⟨.nl 1 .done,[],[5000],[],[5000]⟩ (.op ⟨.nl 1 .done,[],[],[],[5000]⟩ (.op ⟨.nl 1 .done,[],[5000],[],[]⟩ (.op ⟨.nl 1 .done,[],[],[],[5000]⟩ (.op ⟨.nl 1 .done,[],[5000],[],[5000]⟩ (.op ⟨.nl 1 .done,[],[],[],[5000]⟩ (.op ⟨.nl 1 .done,[],[5000],[],[]⟩ (.op ⟨.call 0 .done,[],[],[12701],[12701]⟩ (.op ⟨.nl 1 .done,[],[],[],[12701]⟩ (.op ⟨.nl 1 .done,[],[],[],[12701]⟩ (.op ⟨.nl 1 .done,[],[],[],[]⟩ (.op ⟨.nl 1 .done,[],[],[],[]⟩ (.op ⟨.nl 1 .done,[],[],[],[12701]⟩ Qu9))))))))))))))))))))))))),(18,.lp [0,3,4,35,36] [5000,5001,5002,5003,5004,5005,5006,5007,5008,5009,12701] ⟨[(6,zs3),(37,zs3)],[]⟩ [(.x 0,zs9)]),(26,.jn [37] [] [(.n,zs9)])] Tryz.func55⟩
def Qx2(N:Nat):V:=⟨⟨53,⟨Qbu,[(5000,.var 90 I6),(5001,.var 102 (.ag (sL [H2,Bz,V7,Au,By,.ag (sL [Yc,zs3,zs7,Qms,Ot,S5,Qbv]),zs3,Jhs]))),(5002,Ww),(5003,Hk),(5004,Fo),(5005,Ua),(5006,Ub),(5007,Uu)]⟩,[⟨Qi4,[(5001,Jn8),(1,Um),(2,Qbr),(3,Qbs),(4,Ua),(5,Ub),(6,Uu)]⟩],fun(ct,cp,cw,dh,di,gg,gi,gj,gr,cy,cz,d4,d5,d6,d7,d8,d9,da,db,de,cd,cg,ci,cj,ck,cm)=>Qg1 N ct cp cw dh di gg gi gj gr cy cz d4 d5 d6 d7 d8 d9 da db de cd cg ci cj ck cm,[5000,5005]⟩,kF N [Qla,Qle] [] Tryz.func53⟩
def Qny(N:Nat):V:=⟨⟨48,⟨[(0,.f 53 Qmq),(1,.p 5008 [])],[(5000,.var 90 I6),(5001,.var 102 (.ag (sL [H2,Bz,V7,Au,By,.ag (sL [Yc,zs3,zs7,Qms,Ot,S5,Qbv]),zs3,Jhs]))),(5002,Ww),(5003,Hk),(5004,Fo),(5005,Ua),(5006,Ub),(5007,Uu),(5008,Qmr)]⟩,[⟨[],[(5001,.var 102 (.ag (sL [H2,Q9o,V7,Au,By,.ag (sL [Yc,zs3,zs7,Qms,Jn0,.d (.sl G0),.d (.sl Vb)]),zs3,Q9p]))),(5008,Qmr),(1,Ua),(2,Ub),(3,Uu)]⟩],fun(ct,cp,cw,dh,di,gg,gi,gj,gr,cy,cz,d4,d5,d6,d7,d8,d9,da,db,de,cd,cg,ci,cj,ck,cm,dj)=>Pu N ct cp cw dh di gg gi gj gr cy cz d4 d5 d6 d7 d8 d9 da db de cd cg ci cj ck cm dj,[5000]⟩,kF N [Qx2] [(3,.rg (.n 1 Qiz))] Tryz.func48⟩
def Qlf(N:Nat):V:=⟨⟨163,Ng,[Q16],fun(x0,x1)=>M8 N x0 x1,[]⟩,kF N [Tb,Lb] [] Tryz.func163⟩
def Te(N:Nat):V:=⟨⟨94,Jh0,[zs2],fun(cx,dg,cq,g8,g9,gp,du,dv,dw,dy,dz,dl,g5,dx,dq,g6,g7,ce,cd,cg)=>Ao N cx dg cq g8 g9 gp du dv dw dy dz dl g5 dx dq g6 g7 ce cd cg,[5000,5001,5002,5003]⟩,kF N [Qlf] [(3,.an (.dr 10 Jg1 Jh1))] Tryz.func94⟩
def Ax(N:Nat):V:=⟨⟨162,(sD [Yp,Yp]),[zs2],fun(x0,x1)=>Xu N x0 x1,[]⟩,kF N [] [(6,.lp [22] [2,3] ⟨[(23,zs3)],[]⟩ Qs2)] Tryz.func162⟩
def Qs9(N:Nat):V:=⟨⟨93,(sD [.sl Yp,.i,.i,.i]),[Jh2],fun(x0,x1,x2,x3)=>Qc9 N x0 x1 x2 x3,[]⟩,kF N [Ax] [(8,.lp [9,16,17] [9] ⟨[(8,Sy),(18,zs3)],[(100000,Q2g)]⟩ [(.x 0,⟨[(8,Qb4)],[(100100,Q2g)]⟩),(.r,⟨[(8,Qkz)],[(100200,Q2g)]⟩)])] Tryz.func93⟩
def Qr3(N:Nat):V:=⟨⟨97,(sD [J0,.str,.str,Yp,.bool]),[(sD [R7])],fun(x0,x1,x2,x3,x4)=>Li N x0 x1 x2 x3 x4,[]⟩,kF N [Nn] [(17,.an (.dr 9 (.n 9 .done) Vp))] Tryz.func97⟩
def Qhl(N:Nat):V:=⟨⟨387,zs2,[zs2],Ku N,[]⟩,kF N [] [] Tryz.func387⟩
def Qfk(N:Nat):V:=⟨⟨388,Qne,[zs2],Yb N,[]⟩,kF N [] [(7,.jn [3] [] [(.n,⟨[(4,zs7)],[]⟩)]),(33,.jn [3] [] [(.n,⟨[(11,zs7)],[]⟩)])] Tryz.func388⟩
def Qhm(N:Nat):V:=⟨⟨389,(sD [.i,.arr 2 .i]),[Ng],fun(x0,x1)=>Cr N x0 x1,[]⟩,kF N [] [(3,.an (.dr 6 Q13 .done)),(7,.jn [] [3] [(.n,⟨[(8,zs3),(9,zs7)],[]⟩)]),(15,.jn [6,7,8,14] [] [(.n,Jhx)]),(23,.jn [6,7,8,14] [] [(.n,⟨[(34,zs7)],[]⟩)]),(31,.jn [6,7,8] [] [(.n,⟨[(44,zs7)],[]⟩)])] Tryz.func389⟩
def No(N n:Nat):Con:=⟨345,zs1,[Ng],fun(x0,x1)=>V6 N n x0 x1,[]⟩
theorem Oy(N:Nat):∀n,KO (No N n)
 | 0=>⟨F2 fun _=>rfl,I4 Tryz.func345 rfl⟩
 | n+1=>have ih:=Oy N n; kF N [Qhl,Td,Qfk,fun _=>⟨_,ih⟩,Qhm] [(12,.an (.dc 6 [14,15,16,17,18,19] [2] [] (.op ⟨.nl 1 .done,[],[],[],[2]⟩ (.op ⟨.nl 1 .done,[],[2],[],[]⟩ (.op ⟨.call 0 .done,[],[],[],[]⟩ (.op ⟨.nl 1 .done,[],[],[],[2]⟩ (.op ⟨.nl 1 .done,[],[2],[],[]⟩ Qu9))))))),(73,.lp [1,2,46,47] [2] ⟨[(7,Sy),(48,zs3)],[(100000,Q9l)]⟩ [(.x 1,⟨[(7,Qb4)],[(100100,Q9l)]⟩),(.r,Jg6)])] Tryz.func345
def Qr4(N:Nat):V:=⟨No N N,Oy N N⟩
def Qeb(N:Nat):V:=⟨⟨276,Qrg,[Ng],G7 N,[]⟩,kF N [Qr4] [] Tryz.func276⟩
def Hv(N n:Nat):Con:=⟨277,Q2h,[zs5],fun(x0,x1)=>Yk N n x0 x1,[]⟩
theorem Qnz(N n:Nat)(ih:KO (Hv N n)):KO ⟨346,Job,[zs5],fun(x0,ca,ce)=>Up N (Yk N n) x0 ca ce,[5000,5001]⟩:=kF N [fun _=>⟨_,ih⟩] [(3,.an (.dr 6 Q13 Qiz))] Tryz.func346
def Q2l(N:Nat):V:=⟨⟨390,Q2h,[Qne],fun(x0,x1)=>Qew N x0 x1,[]⟩,kF N [] [] Tryz.func390⟩
def Qta(N:Nat):V:=⟨⟨404,zs2,[Qrl],Fn N,[]⟩,kF N [] [] Tryz.func404⟩
def Qlg(N:Nat):V:=⟨⟨405,(sD [.str,R7]),[zs2],fun(x0,x1)=>M9 N x0 x1,[]⟩,kF N [] [] Tryz.func405⟩
def Ay(N n:Nat):Con:=⟨391,Q2h,[Qrl],fun(x0,x1)=>Us N n x0 x1,[]⟩
theorem Qlh(N n:Nat)(ih:KO (Ay N n)):KO ⟨406,Job,[Qrl],fun(x0,ca,ce)=>X5 N (Us N n) x0 ca ce,[5000,5001]⟩:=kF N [fun _=>⟨_,ih⟩] [(3,.an (.dc 9 [6,7,8,9,10,11,12,13,14] [] [5000,5001] (.op ⟨.nl 1 .done,[],[],[],[5000]⟩ (.op ⟨.nl 1 .done,[],[5000],[],[]⟩ (.op ⟨.nl 1 .done,[],[],[],[]⟩ (.op ⟨.nl 1 .done,[],[],[],[]⟩ (.op ⟨.nl 1 .done,[],[],[],[]⟩ (.op ⟨.nl 1 .done,[],[5001],[],[]⟩ (.op ⟨.call 0 .done,[],[],[],[]⟩ Jms)))))))))] Tryz.func406
def Q6i(N:Nat):V:=⟨⟨407,Ng,[Qrl],fun(x0,x1)=>Qiw N x0 x1,[]⟩,kF N [] [] Tryz.func407⟩
def Qr5(N:Nat):V:=⟨⟨408,Ng,[Qrl],fun(x0,x1)=>Lj N x0 x1,[]⟩,kF N [] [] Tryz.func408⟩
theorem Tf(N:Nat):∀n,KO (Ay N n)
 | 0=>⟨F2 fun _=>rfl,I4 Tryz.func391 rfl⟩
 | n+1=>have ih:=Tf N n; kF N [Qta,Qlg,fun _=>⟨_,Qlh N n ih⟩,Q6i,Qr5] [(22,.rg (.n 1 (.call 2 Jlb))),(24,.rg (.n 1 (.call 2 Jlb))),(40,.jn [2,7] [2,3] [(.n,Qrk),(.x 1,Qrk),(.x 4,Qrk)])] Tryz.func391
def Qtb(N:Nat):V:=⟨Ay N N,Tf N N⟩
def Qr6(N:Nat):V:=⟨⟨347,Q2h,[Qrl],fun(x0,x1)=>Lk N x0 x1,[]⟩,kF N [Qeb,Q2l,Qtb] [(9,.an (.dc 11 [24,25,26,27,28,29,30,31,32,33,34] [2,3] [] (.op ⟨.nl 1 .done,[],[],[],[2]⟩ (.op ⟨.nl 1 .done,[],[2],[],[]⟩ (.op ⟨.nl 1 .done,[],[],[],[]⟩ (.op ⟨.nl 1 .done,[],[],[],[]⟩ (.op ⟨.nl 1 .done,[],[3],[],[]⟩ (.op ⟨.call 1 .done,[],[],[],[]⟩ (.op ⟨.nl 1 .done,[],[],[],[2]⟩ (.op ⟨.nl 1 .done,[],[2],[],[]⟩ (.op ⟨.nl 1 .done,[],[],[],[]⟩ (.op ⟨.nl 1 .done,[],[],[],[]⟩ (.op ⟨.nl 1 .done,[],[3],[],[]⟩ (.tl (.call 1 Q6h))))))))))))))),(30,.an (.dc 10 [45,46,47,48,49,50,44,51,52,10] [2,3] [] Joc)),(32,.an (.dc 10 [54,55,56,57,58,59,53,60,61,12] [2,3] [] Joc))] Tryz.func347⟩
theorem Np(N:Nat):∀n,KO (Hv N n)
 | 0=>⟨F2 fun _=>rfl,I4 Tryz.func277 rfl⟩
 | n+1=>have ih:=Np N n; kF N [fun _=>⟨_,Qnz N n ih⟩,Qr6] [(18,.rg (.n 1 Jh1)),(24,.rg (.n 1 (.call 0 (.n 1 (.sp 24 3 [5] [2,3] ⟨[(27,zs7)],[]⟩ Jhy Jce Vp))))),(30,.rg (.n 1 (.call 0 (.n 1 (.sp 32 3 [5] [2,3] Jg3 Jce Jhy Vp)))))] Tryz.func277
def Qn0(N:Nat):V:=⟨Hv N N,Np N N⟩
def Qx3(N:Nat):V:=⟨⟨168,Q2h,[zs5],fun(x0,x1)=>Qg2 N x0 x1,[]⟩,kF N [Qeb,Qn0] [] Tryz.func168⟩
def Qhn(N:Nat):V:=⟨⟨167,⟨[(0,.d Vb),(1,Gr)],[(5000,Joa)]⟩,[zs5],fun(x0,ca)=>Cs N x0 ca,[5000]⟩,kF N [Qx3] [] Tryz.func167⟩
def Qn1(N:Nat):V:=⟨⟨348,Q9g,[Ng],fun(x0,x1,x2)=>Pv N x0 x1 x2,[]⟩,kF N [] [(8,.lp [0,1,2] [] ⟨[(8,zs3),(9,zs3),(10,zs3)],[]⟩ [(.x 0,Jod),(.r,⟨[(6,zs3),(7,zs3)],[]⟩)]),(20,.jn [10] [] [(.n,Jod)])] Tryz.func348⟩
def Qli(N:Nat):V:=⟨⟨349,zs2,[Ng],Na N,[]⟩,kF N [Av] [] Tryz.func349⟩
def Qr7(N:Nat):V:=⟨⟨278,Q9g,[Ng],fun(x0,x1,x2)=>Qau N x0 x1 x2,[]⟩,kF N [Av,Qn1,Qli] [(13,.jn [0] [] Jhr),(19,.jn [] [] Jhr)] Tryz.func278⟩
def Qlj(N:Nat):V:=⟨⟨169,Ng,[Ng],fun(x0,x1)=>Nb N x0 x1,[]⟩,kF N [Qr7] [] Tryz.func169⟩
def Qlk(N:Nat):V:=⟨⟨96,(sD [.sl Vb,R7,.i]),[⟨Jn6,[(1,Uu)]⟩],fun(x0,x1,x2)=>Nc N x0 x1 x2,[]⟩,kF N [Qhn,Qlj] [(20,.lp [9,24,25] [4] ⟨[(10,Sx),(11,zs3),(26,zs3)],[(100000,Uu)]⟩ [(.x 0,⟨[(10,Qmm),(11,zs3)],[(100300,Uu)]⟩),(.r,⟨[(6,.ns),(7,zs3),(8,zs3)],[]⟩)]),(28,.jn [26] [] [(.n,⟨[(10,Qe5),(11,zs3)],[(100100,Uu)]⟩),(.r,⟨[(6,.ns),(7,zs3),(8,zs3)],[]⟩)]),(33,.rg (.n 2 Qiz))] Tryz.func96⟩
def Qec(N:Nat):V:=⟨⟨57,Jh0,[⟨Qi4,[(5000,Jh3),(1,Ua),(2,Ub),(3,Uu)]⟩],fun(cx,dg,cq,g8,g9,gp,du,dv,dw,dy,dz,dl,g5,dx,dq,g6,g7,ce,cd,cg)=>Fb N cx dg cq g8 g9 gp du dv dw dy dz dl g5 dx dq g6 g7 ce cd cg,[]⟩,kF N [Te,Qs9,Qr0,Qr3,Qlk] [(3,.an (.dc 19 [8,9,10,11,12,13,14,15,16,17,18,19,20,21,22,23,24,25,3] [5000,5001,5002,5003] [] (.op ⟨.nl 1 .done,[],[],[],[5000]⟩ (.op ⟨.nl 1 .done,[],[5000],[],[5000]⟩ (.op ⟨.nl 1 .done,[],[],[],[5000]⟩ (.op ⟨.nl 1 .done,[],[],[],[5000]⟩ (.op ⟨.nl 1 .done,[],[5000],[],[]⟩ (.op ⟨.nl 1 .done,[],[],[],[5000]⟩ (.op ⟨.nl 1 .done,[],[5000],[],[5000]⟩ (.op ⟨.nl 1 .done,[],[],[],[5000]⟩ (.op ⟨.nl 1 .done,[],[],[],[5000]⟩ (.op ⟨.nl 1 .done,[],[5000],[],[]⟩ (.op ⟨.nl 1 .done,[],[],[],[5000]⟩ (.op ⟨.nl 1 .done,[],[5000],[],[5000]⟩ (.op ⟨.nl 1 .done,[],[],[],[5000]⟩ (.op ⟨.nl 1 .done,[],[],[],[5000]⟩ (.op ⟨.nl 1 .done,[],[5000],[],[]⟩ (.op ⟨.nl 1 .done,[],[],[],[5000]⟩ (.op ⟨.call 0 .done,[],[5000,5001,5002,5003],[],[]⟩ (.op ⟨.call 1 .done,[],[],[],[]⟩ Q81)))))))))))))))))))),(5,.an (.dr 15 Jpq (.call 2 Vp))),(7,.an (.dc 34 [43,44,45,46,47,48,49,50,51,52,53,54,55,56,57,58,59,60,61,62,63,64,65,66,67,68,69,70,42,71,72,73,5,6] [5000,3] [] (.op ⟨.nl 1 .done,[],[],[],[5000]⟩ (.op ⟨.nl 1 .done,[],[5000],[],[5000]⟩ (.op ⟨.nl 1 .done,[],[],[],[5000]⟩ (.op ⟨.nl 1 .done,[],[],[],[5000]⟩ (.op ⟨.nl 1 .done,[],[5000],[],[]⟩ (.op ⟨.nl 1 .done,[],[],[],[5000]⟩ (.op ⟨.nl 1 .done,[],[5000],[],[5000]⟩ (.op ⟨.nl 1 .done,[],[],[],[5000]⟩ (.op ⟨.nl 1 .done,[],[5000],[],[]⟩ (.op ⟨.nl 1 .done,[],[],[],[5000]⟩ (.op ⟨.nl 1 .done,[],[5000],[],[5000]⟩ (.op ⟨.nl 1 .done,[],[],[],[5000]⟩ (.op ⟨.nl 1 .done,[],[],[],[5000]⟩ (.op ⟨.nl 1 .done,[],[5000],[],[]⟩ (.op ⟨.nl 1 .done,[],[],[],[]⟩ (.op ⟨.nl 1 .done,[],[3],[],[]⟩ (.op ⟨.nl 1 .done,[],[],[],[5000]⟩ (.op ⟨.nl 1 .done,[],[5000],[],[5000]⟩ (.op ⟨.nl 1 .done,[],[],[],[5000]⟩ (.op ⟨.nl 1 .done,[],[],[],[5000]⟩ (.op ⟨.nl 1 .done,[],[5000],[],[]⟩ (.op ⟨.call 3 .done,[],[],[],[]⟩ (.op ⟨.nl 1 .done,[],[],[],[5000]⟩ (.op ⟨.nl 1 .done,[],[5000],[],[5000]⟩ (.op ⟨.nl 1 .done,[],[],[],[5000]⟩ (.op ⟨.nl 1 .done,[],[],[],[5000]⟩ (.op ⟨.nl 1 .done,[],[5000],[],[]⟩ (.op ⟨.call 4 .done,[],[],[17001],[17001]⟩ (.op ⟨.nl 1 .done,[],[],[],[17001]⟩ (.op ⟨.nl 1 .done,[],[],[],[17001]⟩ (.op ⟨.nl 1 .done,[],[],[],[]⟩ (.op ⟨.nl 1 .done,[],[],[],[]⟩ (.op ⟨.nl 1 .done,[],[],[],[17001]⟩ Qu9)))))))))))))))))))))))))))))))))))] Tryz.func57⟩
def Qx4(N:Nat):V:=⟨⟨56,Joe,[Jof],fun(ct,cp,cw,dh,di,gc,cy,cz,d4,d5,d6,d7,d8,d9,da,db,de,cd,cg,ci)=>Qg3 N ct cp cw dh di gc cy cz d4 d5 d6 d7 d8 d9 da db de cd cg ci,[5000]⟩,kF N [Qec] [] Tryz.func56⟩
def Qn2(N:Nat):V:=⟨⟨48,⟨[(0,.f 56 Qmq),(1,.p 5005 [])],Jog⟩,[Joh],fun(ct,cp,cw,dh,di,gc,cy,cz,d4,d5,d6,d7,d8,d9,da,db,de,cd,cg,ci,cj)=>Pw N ct cp cw dh di gc cy cz d4 d5 d6 d7 d8 d9 da db de cd cg ci cj,[5000]⟩,kF N [Qx4] [(3,.rg (.n 1 Qiz))] Tryz.func48⟩
def Qf7(N:Nat):V:=⟨⟨172,(sD [Vq]),[zs2],Oq N,[]⟩,kF N [Aw] [] Tryz.func172⟩
def Qr8(N:Nat):V:=⟨⟨173,Qmu,[Qmu],fun(x0,x1)=>Qav N x0 x1,[]⟩,kF N [Aw,In,Kg,Qf7] [] Tryz.func173⟩
def Qfl(N:Nat):V:=⟨⟨171,⟨[(0,.s 5000)],[(5000,Qbr)]⟩,[Jnr],Ap N,[5000]⟩,kF N [] [(8,.lp [9,10] [] ⟨[(3,Q9e),(11,zs3)],[(100000,Qbt)]⟩ [(.x 0,⟨[(3,.m 100200)],[(100200,Qbt)]⟩)]),(16,.jn [11] [] [(.n,⟨[(3,Q9f)],[(100100,Qbt)]⟩)])] Tryz.func171⟩
def Qtc(N:Nat):V:=⟨⟨98,(sD [Ud,.i,.i,.bool]),[⟨[(0,Jcf),(1,zs3),(2,zs3)],Jmw⟩],fun(x0,x1,x2,x3)=>Qdb N x0 x1 x2 x3,[]⟩,kF N [Im,Qfl,Qf7,Qr8] [] Tryz.func98⟩
def Qn3(N:Nat):V:=⟨⟨279,zs2,[zs5],Px N,[]⟩,kF N [] [(6,.lp [0,5] [] zs9 Qrc)] Tryz.func279⟩
def Ld(N:Nat):V:=⟨⟨175,Jh2,[zs5],Wq N,[]⟩,kF N [Qn3] [(3,.rg (.n 9 (.sp 11 4 [1] [1] ⟨[(15,zs7)],[]⟩ (.nl 2 Qiz) Sv (.n 11 .done))))] Tryz.func175⟩
def Tg(N:Nat):V:=⟨⟨176,Jh2,[zs5],Gm N,[]⟩,kF N [] [] Tryz.func176⟩
def Qn4(N:Nat):V:=⟨⟨174,(sD [.sl Yp]),[zs5],Py N,[]⟩,kF N [Ld,Tg,Ax] [(6,.lp [0,5,6] [] Qnd Qrc),(19,.rg (.n 1 (.call 0 (.n 2 (.sp 15 4 [3,4,7] [4] Jgu Sv Q2d Jg1))))),(26,.jn [7] [4] [(.n,Jgx)]),(26,.an (.dc 9 [30,31,32,33,34,35,36,37,38] [] [4] (.op ⟨.nl 1 .done,[],[],[],[]⟩ (.op ⟨.nl 1 .done,[],[],[],[]⟩ (.op ⟨.nl 1 .done,[],[],[],[]⟩ (.so 32 (.op ⟨.nl 1 .done,[],[],[],[]⟩ (.op ⟨.nl 1 .done,[],[],[],[]⟩ (.op ⟨.nl 1 .done,[],[],[],[]⟩ (.op ⟨.nl 1 .done,[],[],[],[]⟩ (.op ⟨.nl 1 .done,[],[],[],[]⟩ (.op ⟨.nl 1 .done,[],[4],[],[]⟩ (.tl Jk5))))))) Jq7))))))] Tryz.func174⟩
def Qn5(N:Nat):V:=⟨⟨177,⟨[(0,Gr),(1,I6)],[(5000,.var 35 Jn9),(5001,Q2g)]⟩,[Ng],fun(ca,ce)=>Pz N ca ce,[5000,5001]⟩,kF N [Ax] [(6,.lp [0,1,6,7] [] Qkx Jrd),(35,.an (.dr 6 Q13 .done))] Tryz.func177⟩
def Qtd(N:Nat):V:=⟨⟨99,(sD [.sl Yp,Yp]),[⟨[(0,Sw),(1,zs3)],[(1,Qbs)]⟩],fun(x0,x1)=>Qdc N x0 x1,[]⟩,kF N [Qn4,Ld,Tg,Qn5] [(4,.rg (.n 1 (.call 0 (.n 2 (.sp 14 4 [2,3] [2,3] Q10 Sv Q2d .done))))),(21,.rg (.n 1 (.call 3 Jlb))),(25,.jn [2,7,8] [2,3] [(.n,⟨[(9,Qb4)],[(100100,Q2g)]⟩)]),(29,.an (.dr 9 (.n 9 .done) Vp)),(30,.an (.dr 9 (.n 9 .done) Vp)),(43,.jn [2,8] [2,3,100100] [(.n,⟨[(10,Qiy)],[(100200,Qbs)]⟩)])] Tryz.func99⟩
def Qr9(N:Nat):V:=⟨⟨59,Jh0,[⟨Qi4,[(5000,.var 102 (.ag (sL [H2,Q9o,V7,Au,By,Qvi,zs3,Q9p]))),(1,Ua),(2,Ub),(3,Uu)]⟩],fun(cx,dg,cq,g8,g9,gp,du,dv,dw,dy,dz,dl,g5,dx,dq,g6,g7,ce,cd,cg)=>Qaw N cx dg cq g8 g9 gp du dv dw dy dz dl g5 dx dq g6 g7 ce cd cg,[]⟩,kF N [Qtc,Te,Qtd] [(3,.an (.dc 27 [9,10,11,12,13,14,15,16,17,18,19,20,21,22,23,24,25,26,27,28,8,29,30,31,3,1000000025,4] [5000] [] (.op ⟨.nl 1 .done,[],[],[],[5000]⟩ (.op ⟨.nl 1 .done,[],[5000],[],[5000]⟩ (.op ⟨.nl 1 .done,[],[],[],[5000]⟩ (.op ⟨.nl 1 .done,[],[5000],[],[]⟩ (.op ⟨.nl 1 .done,[],[],[],[5000]⟩ (.op ⟨.nl 1 .done,[],[5000],[],[5000]⟩ (.op ⟨.nl 1 .done,[],[],[],[5000]⟩ (.op ⟨.nl 1 .done,[],[],[],[5000]⟩ (.op ⟨.nl 1 .done,[],[5000],[],[]⟩ (.op ⟨.nl 1 .done,[],[],[],[5000]⟩ (.op ⟨.nl 1 .done,[],[5000],[],[5000]⟩ (.op ⟨.nl 1 .done,[],[],[],[5000]⟩ (.op ⟨.nl 1 .done,[],[],[],[5000]⟩ (.op ⟨.nl 1 .done,[],[5000],[],[]⟩ (.op ⟨.nl 1 .done,[],[],[],[5000]⟩ (.op ⟨.nl 1 .done,[],[5000],[],[5000]⟩ (.op ⟨.nl 1 .done,[],[],[],[5000]⟩ (.op ⟨.nl 1 .done,[],[],[],[5000]⟩ (.op ⟨.nl 1 .done,[],[5000],[],[]⟩ (.op ⟨.call 0 .done,[],[],[12803,12802,12801],[12801,12802,12803]⟩ (.op ⟨.nl 1 .done,[],[],[],[12801,12802,12803]⟩ (.op ⟨.nl 1 .done,[],[],[],[12801,12802,12803]⟩ (.op ⟨.nl 1 .done,[],[],[],[]⟩ (.op ⟨.nl 1 .done,[],[],[],[]⟩ (.op ⟨.nl 1 .done,[],[],[3],[3]⟩ (.op ⟨.nl 1 .done,[3],[12801,12802,12803],[],[3,12801,12802,12803]⟩ Qu9)))))))))))))))))))))))))))),(5,.gh (.fz 12803 (.dt 3 .done))),(5,.an (.dc 30 [33,34,35,36,37,38,39,40,41,42,43,44,45,46,47,48,49,50,51,52,53,54,55,56,57,58,32,59,60,6] [3,5000,5001,5002,5003] [] (.op ⟨.nl 1 .done,[],[],[],[3]⟩ (.op ⟨.nl 1 .done,[],[3],[],[]⟩ (.op ⟨.nl 1 .done,[],[],[],[5000]⟩ (.op ⟨.nl 1 .done,[],[5000],[],[5000]⟩ (.op ⟨.nl 1 .done,[],[],[],[5000]⟩ (.op ⟨.nl 1 .done,[],[],[],[5000]⟩ (.op ⟨.nl 1 .done,[],[5000],[],[]⟩ (.op ⟨.nl 1 .done,[],[],[],[5000]⟩ (.op ⟨.nl 1 .done,[],[5000],[],[5000]⟩ (.op ⟨.nl 1 .done,[],[],[],[5000]⟩ (.op ⟨.nl 1 .done,[],[],[],[5000]⟩ (.op ⟨.nl 1 .done,[],[5000],[],[]⟩ (.op ⟨.nl 1 .done,[],[],[],[5000]⟩ (.op ⟨.call 1 .done,[],[5000,5001,5002,5003],[],[]⟩ (.op ⟨.nl 1 .done,[],[],[],[5000]⟩ (.op ⟨.nl 1 .done,[],[5000],[],[5000]⟩ (.op ⟨.nl 1 .done,[],[],[],[5000]⟩ (.op ⟨.nl 1 .done,[],[],[],[5000]⟩ (.op ⟨.nl 1 .done,[],[5000],[],[]⟩ (.op ⟨.nl 1 .done,[],[],[],[5000]⟩ (.op ⟨.nl 1 .done,[],[5000],[],[5000]⟩ (.op ⟨.nl 1 .done,[],[],[],[5000]⟩ (.op ⟨.nl 1 .done,[],[],[],[5000]⟩ (.op ⟨.nl 1 .done,[],[5000],[],[]⟩ (.op ⟨.nl 1 .done,[],[],[],[]⟩ (.op ⟨.call 2 .done,[],[],[15801],[15801]⟩ (.op ⟨.nl 1 .done,[],[],[],[15801]⟩ (.op ⟨.nl 1 .done,[],[],[],[15801]⟩ (.op ⟨.nl 1 .done,[],[],[],[]⟩ (.op ⟨.nl 1 .done,[],[],[],[15801]⟩ Nf))))))))))))))))))))))))))))))))] Tryz.func59⟩
def Qx5(N:Nat):V:=⟨⟨58,Joe,[Jof],fun(ct,cp,cw,dh,di,gc,cy,cz,d4,d5,d6,d7,d8,d9,da,db,de,cd,cg,ci)=>Qg4 N ct cp cw dh di gc cy cz d4 d5 d6 d7 d8 d9 da db de cd cg ci,[5000]⟩,kF N [Qr9] [] Tryz.func58⟩
def Qn6(N:Nat):V:=⟨⟨48,⟨[(0,.f 58 Qmq),(1,.p 5005 [])],Jog⟩,[Joh],fun(ct,cp,cw,dh,di,gc,cy,cz,d4,d5,d6,d7,d8,d9,da,db,de,cd,cg,ci,cj)=>P0 N ct cp cw dh di gc cy cz d4 d5 d6 d7 d8 d9 da db de cd cg ci cj,[5000]⟩,kF N [Qx5] [(3,.rg (.n 1 Qiz))] Tryz.func48⟩
def Q6j(N:Nat):V:=⟨⟨17,(sD [Vw,Ud,J0]),[⟨[(0,Q9o),(1,Q9p)],[(1,Ua),(2,Ub),(3,Uu)]⟩],fun(x0,x1,x2)=>Nd N x0 x1 x2,[]⟩,kF N [Qxv,Qxx,Qnj,Qny,Qn2,Qn6] [(7,.an (.dc 5 [18,19,20,21,1000000004] [4,5,6] [] (.op ⟨.nl 1 .done,[],[4],[],[]⟩ (.op ⟨.call 0 .done,[],[],[11903,11902,11901],[11901,11902,11903]⟩ (.op ⟨.nl 1 .done,[],[5],[],[]⟩ (.op ⟨.nl 1 .done,[],[],[],[]⟩ (.op ⟨.nl 1 .done,[6],[11901,11902,11903],[],[6,11901,11902,11903]⟩ Nf))))))),(17,.rg (.n 2 (.call 1 .done))),(19,.rg (.n 2 (.call 2 .done))),(21,.rg (.n 2 (.call 3 .done))),(23,.rg Jhv),(25,.rg (.n 2 (.call 5 .done))),(31,.an (.dc 6 [47,48,49,50,51,1000000005] [4,5,9,6] [] (.op ⟨.nl 1 .done,[],[4],[],[]⟩ (.op ⟨.call 0 .done,[],[],[14803,14802,14801],[14801,14802,14803]⟩ (.op ⟨.nl 1 .done,[],[5],[],[]⟩ (.op ⟨.nl 1 .done,[],[9],[],[]⟩ (.op ⟨.nl 1 .done,[],[],[],[]⟩ (.op ⟨.nl 1 .done,[6],[14801,14802,14803],[],[6,14801,14802,14803]⟩ Nf)))))))),(35,.an (.dc 9 [52,53,54,55,56,57,58,59,1000000008] [8,28,6] [] (.op ⟨.nl 1 .done,[],[8],[],[28]⟩ (.op ⟨.nl 1 .done,[],[28],[],[28]⟩ (.op ⟨.nl 1 .done,[],[],[],[28]⟩ (.op ⟨.nl 1 .done,[],[28],[],[]⟩ (.op ⟨.nl 1 .done,[],[8],[],[28]⟩ (.op ⟨.nl 1 .done,[],[28],[],[28]⟩ (.op ⟨.nl 1 .done,[],[],[],[28]⟩ (.op ⟨.nl 1 .done,[],[28],[],[14401,14402,14403]⟩ (.op ⟨.nl 1 .done,[6],[],[],[6]⟩ Nf)))))))))))] Tryz.func17⟩
def Xv(N n:Nat):Con:=⟨100,Qrg,[Qrg],fun x0=>J2 N n x0,[]⟩
theorem Wx(N:Nat):∀n,KO (Xv N n)
 | 0=>⟨F2 fun _=>rfl,I4 Tryz.func100 rfl⟩
 | n+1=>have ih:=Wx N n; kF N [fun _=>⟨_,ih⟩] [(8,.lp [1,2] [1,2] ⟨Jh4,[(100000,.var 180 (.ag (sL [zs3,zs3,Yc,Qrf]))),(100001,Q9d)]⟩ [(.x 0,⟨Qva,[(100100,.var 180 (.ag (sL [zs3,zs3,Yc,Qdf]))),(100101,Q9d)]⟩)]),(17,.an (.dc 9 [19,20,21,22,23,24,25,26,27] [100000] [1] (.op ⟨.nl 1 .done,[],[],[],[100000]⟩ (.op ⟨.nl 1 .done,[],[100000],[],[100001]⟩ (.op ⟨.nl 1 .done,[],[],[],[1]⟩ (.op ⟨.nl 1 .done,[],[1],[],[]⟩ (.op ⟨.nl 1 .done,[],[],[],[]⟩ (.op ⟨.nl 1 .done,[],[],[],[]⟩ (.op ⟨.nl 1 .done,[],[],[],[]⟩ (.op ⟨.call 0 .done,[],[],[],[]⟩ (.op ⟨.nl 1 .done,[],[],[],[]⟩ Qre)))))))))))] Tryz.func100
def P9(N:Nat):V:=⟨Xv N N,Wx N N⟩
def Nq(N:Nat):V:=⟨⟨60,Q15,[⟨[(0,Q2c)],Jhn⟩],Z9 N,[]⟩,kF N [P9] [(8,.lp [1,2] [1,2] ⟨Jh4,Jnb⟩ Jnc),(17,.an (.dc 18 [24,25,26,27,28,29,30,31,32,33,34,35,36,37,38,39,40,41] [100000] [1] (.op ⟨.nl 1 .done,[],[],[],[100000]⟩ (.op ⟨.nl 1 .done,[],[100000],[],[100001]⟩ (.op ⟨.nl 1 .done,[],[],[],[1]⟩ (.op ⟨.nl 1 .done,[],[1],[],[]⟩ (.op ⟨.nl 1 .done,[],[],[],[]⟩ (.op ⟨.nl 1 .done,[],[],[],[]⟩ (.op ⟨.nl 1 .done,[],[],[],[]⟩ (.op ⟨.nl 1 .done,[],[],[],[]⟩ (.op ⟨.nl 1 .done,[],[],[32],[32]⟩ (.op ⟨.nl 1 .done,[],[],[],[1]⟩ (.op ⟨.nl 1 .done,[],[1],[],[]⟩ (.op ⟨.nl 1 .done,[],[],[],[]⟩ (.op ⟨.nl 1 .done,[],[],[],[]⟩ (.op ⟨.nl 1 .done,[],[],[],[]⟩ (.op ⟨.nl 1 .done,[],[],[],[]⟩ (.op ⟨.nl 1 .done,[32],[],[39],[39]⟩ (.op ⟨.nl 1 .done,[],[],[],[39]⟩ (.op ⟨.fz 39 (.nl 1 .done),[39],[],[],[39]⟩ Qre)))))))))))))))))))),(23,.lp [1,2] [1,2] ⟨[(3,Qkz),(5,zs3)],Jnd⟩ Jne),(32,.an (.dc 18 [51,52,53,54,55,56,57,58,59,60,61,62,63,64,65,66,67,68] [100200] [1] (.op ⟨.nl 1 .done,[],[],[],[100200]⟩ (.op ⟨.nl 1 .done,[],[100200],[],[100202]⟩ (.op ⟨.nl 1 .done,[],[],[],[1]⟩ (.op ⟨.nl 1 .done,[],[1],[],[]⟩ (.op ⟨.nl 1 .done,[],[],[],[]⟩ (.op ⟨.nl 1 .done,[],[],[],[]⟩ (.op ⟨.nl 1 .done,[],[],[],[]⟩ (.op ⟨.nl 1 .done,[],[],[],[]⟩ (.op ⟨.nl 1 .done,[],[],[59],[59]⟩ (.op ⟨.nl 1 .done,[],[],[],[1]⟩ (.op ⟨.nl 1 .done,[],[1],[],[]⟩ (.op ⟨.nl 1 .done,[],[],[],[]⟩ (.op ⟨.nl 1 .done,[],[],[],[]⟩ (.op ⟨.nl 1 .done,[],[],[],[]⟩ (.op ⟨.nl 1 .done,[],[],[],[]⟩ (.op ⟨.nl 1 .done,[59],[],[66],[66]⟩ (.op ⟨.nl 1 .done,[],[],[],[66]⟩ (.op ⟨.fz 66 (.nl 1 .done),[66],[],[],[66]⟩ Qre)))))))))))))))))))),(38,.lp [1,2] [1,2] ⟨[(3,Qvd),(6,zs3)],Jnf⟩ Jnh),(51,.rg (.n 3 (.fz 86 Qi2))),(57,.lp [1,2] [1,2] ⟨[(3,.p 100600 []),(8,zs3)],Jni⟩ Jnk)] Tryz.func60⟩
def Ra(N:Nat):V:=⟨⟨18,(sD [Vw]),[⟨[(0,.ag (sL [Sw,Q11,.s 3,.s 4,.s 5,.s 6]))],[(1,Qrm),(2,Qrn),(3,Qi5),(4,Qro),(5,H1),(6,Jh5)]⟩],Vj N,[]⟩,kF N [Nq] [(3,.an (.dc 14 [11,12,13,14,15,16,17,18,19,20,21,22,23,3] [1] [] (.op ⟨.nl 1 .done,[],[],[11],[11]⟩ (.op ⟨.nl 1 .done,[],[],[],[1]⟩ (.op ⟨.nl 1 .done,[],[1],[],[]⟩ (.op ⟨.nl 1 .done,[11],[],[14],[14]⟩ (.op ⟨.nl 1 .done,[],[],[15],[15]⟩ (.op ⟨.nl 1 .done,[],[],[],[1]⟩ (.op ⟨.nl 1 .done,[],[1],[],[]⟩ (.op ⟨.nl 1 .done,[15],[],[18],[18]⟩ (.op ⟨.nl 1 .done,[],[],[19],[19]⟩ (.op ⟨.nl 1 .done,[],[],[],[1]⟩ (.op ⟨.nl 1 .done,[],[1],[],[]⟩ (.op ⟨.nl 1 .done,[19],[],[22],[22]⟩ (.op ⟨.nl 1 .done,[],[],[],[14,18,22]⟩ Q81))))))))))))))),(8,.lp [1,2] [1,2] ⟨Jh4,[(100000,.var 29 (.ag (sL [Qrf,Jla,.ns,Jpy,.s 100004,.ns]))),(100001,Qrm),(100002,Qrn),(100003,Qro),(100004,H1)]⟩ [(.x 0,⟨Qva,[(100100,.var 29 (.ag (sL [Qdf,Jgy,.ns,Jgz,.s 100104,.ns]))),(100101,Qrm),(100102,Qrn),(100103,Qro),(100104,H1)]⟩)]),(17,.an (.dc 9 [31,32,33,34,35,36,37,38,39] [100000] [1] (.op ⟨.nl 1 .done,[],[],[],[100000]⟩ (.op ⟨.nl 1 .done,[],[100000],[],[100002]⟩ (.op ⟨.nl 1 .done,[],[],[],[1]⟩ (.op ⟨.nl 1 .done,[],[1],[],[]⟩ (.op ⟨.nl 1 .done,[],[],[],[]⟩ (.op ⟨.nl 1 .done,[],[],[],[]⟩ (.op ⟨.nl 1 .done,[],[],[],[]⟩ (.op ⟨.call 0 .done,[],[],[13804,13803,13802,13801],[13801,13802,13803,13804]⟩ (.op ⟨.fz 13801 (.fz 13802 (.fz 13803 (.fz 13804 (.nl 1 .done)))),[13801,13802,13803,13804],[],[],[13801,13802,13803,13804]⟩ Qre))))))))))),(23,.lp [1,2] [1,2] ⟨[(3,Qkz),(5,zs3)],[(100200,.var 29 (.ag (sL [Q12,Jk9,Jpx,.s 100204,.s 100205,.ns]))),(100201,Qrm),(100202,Qrn),(100203,Qi5),(100204,Qro),(100205,H1)]⟩ [(.x 2,⟨Jng,[(100500,.var 29 (.ag (sL [Jho,.s 100502,.s 100503,.s 100504,.s 100505,.ns]))),(100501,Qrm),(100502,Qrn),(100503,Qi5),(100504,Qro),(100505,H1)]⟩)]),(40,.lp [3,5] [100200,100201,100202,100203,100204,100205] ⟨[(6,Qf6),(7,zs3)],[(100300,.var 108 (.ag (sL [Yc,zs3,zs3,Yc,zs7,Q2b]))),(100301,Qvg)]⟩ [(.x 4,⟨[(6,Qvd)],[(100400,.var 108 (.ag (sL [Yc,zs3,zs3,Yc,zs7,Q9b]))),(100401,Qvg)]⟩)]),(53,.rg (.n 3 (.fz 78 Qi2))),(55,.rg (.n 3 (.fz 100401 Qi2))),(61,.lp [1,2] [1,2] ⟨[(3,.p 100600 []),(9,zs3)],[(100600,.var 29 (.ag (sL [Jhp,.s 100602,.s 100603,.s 100604,.s 100605,.s 100606]))),(100601,Qrm),(100602,Qrn),(100603,Qi5),(100604,Qro),(100605,H1),(100606,Jh5)]⟩ [(.x 6,⟨Jnj,[(100700,.var 29 (.ag (sL [Jhq,.s 100702,.s 100703,.s 100704,.s 100705,.s 100706]))),(100701,Qrm),(100702,Qrn),(100703,Qi5),(100704,Qro),(100705,H1),(100706,Jh5)]⟩)]),(74,.rg (.n 3 (.fz 107 Qi2)))] Tryz.func18⟩
def Qfm(N:Nat):V:=⟨⟨22,(sD [Xa,Xa]),[zs5],fun(x0,x1)=>Ar N x0 x1,[]⟩,kF N [] [(22,.lp [2,3] [2,3] zs4 zs8),(32,.an (.dr 11 (.n 11 .done) .done)),(43,.lp [2,3] [2,3] zs9 Jk0),(53,.an (.dr 11 (.n 11 .done) .done)),(64,.lp [2,3] [2,3] Qnd Jk1),(74,.an (.dr 11 (.n 11 .done) .done))] Tryz.func22⟩
def Ny(N:Nat):V:=⟨⟨63,Q9n,[zs5],fun(x0,x1)=>Kv N x0 x1,[]⟩,kF N [] [(14,.lp [2,3] [2,3] zs4 zs8),(24,.an (.dr 11 (.n 11 .done) .done))] Tryz.func63⟩
def Rb(N:Nat):V:=⟨⟨21,(sD [Ud,Ud]),[zs5],fun(x0,x1)=>Uq N x0 x1,[]⟩,kF N [Ny] [(14,.lp [2,3] [2,3] zs4 zs8),(24,.an (.dr 10 Jg1 Qiz)),(35,.lp [2,3] [2,3] zs9 Jk0),(45,.an (.dr 11 (.n 11 .done) .done)),(56,.lp [2,3] [2,3] Qnd Jk1),(66,.an (.dr 11 (.n 11 .done) .done))] Tryz.func21⟩
def Qfn(N:Nat):V:=⟨⟨25,Joi,[zs5],fun(x0,x1,x2)=>Wv N x0 x1 x2,[]⟩,kF N [Qd1,Qcb,Qfd] [(4,.rg (.n 5 (.sp 13 5 [1,2,3] [3] Q10 Fq Q14 .done))),(14,.lp [1] [3] Qnd Jg4),(25,.rg (.n 4 (.call 1 (.n 2 (.sp 31 8 [7] [] ⟨[(39,zs7)],[]⟩ Qmt (.nl 5 Jk5) (.n 1 (.sp 40 8 [7] [] Jpn Qmt Qmt (.n 1 (.sp 49 8 [7] [] ⟨[(57,zs7)],[]⟩ Qmt Qmt .done))))))))),(34,.lp [7] [] Qkx [(.x 2,zs6),(.r,⟨[(6,zs7)],[]⟩)]),(44,.an (.dr 11 (.n 11 .done) .done))] Tryz.func25⟩
def Qn7(N:Nat):V:=⟨⟨66,Jhb,[Q18],P1 N,[]⟩,kF N [] [(3,.an (.dc 8 [6,7,8,9,10,11,12,3] [1] [] (.op ⟨.nl 1 .done,[],[],[],[1]⟩ (.op ⟨.nl 1 .done,[],[1],[],[]⟩ (.op ⟨.nl 1 .done,[],[],[8],[8]⟩ (.op ⟨.nl 1 .done,[],[],[],[1]⟩ (.op ⟨.nl 1 .done,[],[1],[],[]⟩ (.op ⟨.nl 1 .done,[],[],[11],[11]⟩ (.op ⟨.nl 1 .done,[],[],[],[8,11]⟩ Q81))))))))),(8,.lp [2,14,15] [1,2] ⟨[(3,Sy),(16,zs3)],[(100000,.var 37 Jpz),(100001,Um),(100002,Qbr),(100003,Qbs)]⟩ [(.x 0,⟨Qva,[(100100,.var 37 (.ag (sL [Qdf,Jgy,Jgz]))),(100101,Um),(100102,Qbr),(100103,Qbs)]⟩)]),(21,.rg (.n 3 (.fz 22 Qi2)))] Tryz.func66⟩
def Qx6(N:Nat):V:=⟨⟨119,(sD [J0]),[(sD [Lh])],Ct N,[]⟩,kF N [] [] Tryz.func119⟩
def Qll(N:Nat):V:=⟨⟨118,(sD [Lh,Lh]),[zs5],fun(x0,x1)=>Gp N x0 x1,[]⟩,kF N [] [] Tryz.func118⟩
def Le(N n:Nat):Con:=⟨67,Joj,[Joj],fun x0=>Zr N n x0,[]⟩
theorem Nr(N:Nat):∀n,KO (Le N n)
 | 0=>⟨F2 fun _=>rfl,I4 Tryz.func67 rfl⟩
 | n+1=>have ih:=Nr N n; kF N [fun _=>⟨_,ih⟩,Qx6,Qll] [(11,.an (.dc 11 [11,12,13,14,15,16,17,18,19,20,21] [] [] (.op ⟨.nl 1 .done,[],[],[],[]⟩ (.op ⟨.nl 1 .done,[],[],[],[]⟩ (.op ⟨.nl 1 .done,[],[],[],[]⟩ (.op ⟨.nl 1 .done,[],[],[],[]⟩ (.op ⟨.nl 1 .done,[],[],[],[]⟩ (.op ⟨.call 0 .done,[],[],[],[]⟩ (.op ⟨.nl 1 .done,[],[],[],[]⟩ (.op ⟨.nl 1 .done,[],[],[],[]⟩ (.op ⟨.nl 1 .done,[],[],[],[]⟩ (.op ⟨.nl 1 .done,[],[],[],[]⟩ (.op ⟨.nl 1 .done,[],[],[],[]⟩ (.tl Jh1)))))))))))))),(16,.lp [] [] ⟨[(3,Jok),(4,Jok),(5,Sx)],[(100000,Jol)]⟩ [(.x 0,⟨Jk8,[(100200,Jol)]⟩)]),(25,.jn [3,4,5] [100000] Jra),(25,.an (.dc 15 [34,35,36,37,38,39,40,41,42,43,44,45,46,47,48] [] [] (.op ⟨.nl 1 .done,[],[],[],[]⟩ (.op ⟨.nl 1 .done,[],[],[],[]⟩ (.op ⟨.nl 1 .done,[],[],[],[]⟩ (.op ⟨.nl 1 .done,[],[],[],[]⟩ (.so 37 (.op ⟨.nl 1 .done,[],[],[],[]⟩ (.op ⟨.nl 1 .done,[],[],[],[]⟩ (.op ⟨.nl 1 .done,[],[],[],[]⟩ (.op ⟨.nl 1 .done,[],[],[],[]⟩ Jom)))) (.op ⟨.nl 1 .done,[],[],[],[]⟩ (.op ⟨.nl 1 .done,[],[],[],[]⟩ (.op ⟨.nl 1 .done,[],[],[],[]⟩ (.op ⟨.nl 1 .done,[],[],[],[]⟩ (.so 41 (.op ⟨.nl 1 .done,[],[],[],[]⟩ (.op ⟨.nl 1 .done,[],[],[],[]⟩ (.op ⟨.nl 1 .done,[],[],[],[]⟩ (.op ⟨.call 1 .done,[],[],[],[]⟩ (.op ⟨.nl 1 .done,[],[],[],[]⟩ (.op ⟨.nl 1 .done,[],[],[],[]⟩ (.op ⟨.nl 1 .done,[],[],[],[]⟩ (.tl (.call 1 (.call 2 Jce)))))))))) Jom))))))))))))] Tryz.func67
def Qn8(N:Nat):V:=⟨Le N N,Nr N N⟩
def Qlm(N:Nat):V:=⟨⟨30,(sD [Vw,Ud,.sl J0]),[Jon],fun(x0,x1,x2)=>As N x0 x1 x2,[]⟩,kF N [Qn7,Qn8,Q6j] [(10,.gh (.fz 11501 (.fz 11502 (.fz 11503 .done)))),(10,.lp [3,6,17,18] [3,4,6] ⟨[(8,Sy),(9,Qrf),(19,zs3)],[(100000,.var 37 Q9o),(100001,Jh6)]⟩ [(.x 0,⟨[(8,Qb4),(9,Qdf)],[(100100,.var 37 Bz),(100101,Jh6)]⟩)]),(25,.rg (.n 2 (.fz 12701 (.fz 12702 (.fz 12703 Q6g)))))] Tryz.func30⟩
def Qf8(N:Nat):V:=⟨⟨27,(sD [Vw,.sl J0]),[Jon],fun(x0,x1)=>Ut N x0 x1,[]⟩,kF N [Qlm] [] Tryz.func27⟩
def Qln(N:Nat):V:=⟨⟨64,(sD [.sl Xa]),[Q9g],Qdd N,[]⟩,kF N [] [(8,.lp [10,11] [] ⟨[(5,zs3),(6,zs3),(7,zs3),(12,zs3)],[]⟩ [(.x 0,⟨[(5,zs3),(6,zs3),(7,zs3)],[]⟩)])] Tryz.func64⟩
def Qed(N:Nat):V:=⟨⟨26,(sD []),[zs5],fun _=>Zb N,[]⟩,kF N [Qa1,Qf8,Qln] [(13,.an (.dc 10 [14,15,16,17,18,13,19,20,3,1000000009] [1,2] [] (.op ⟨.call 0 .done,[],[],[],[]⟩ (.op ⟨.nl 1 .done,[],[1],[],[]⟩ (.op ⟨.nl 1 .done,[],[2],[],[]⟩ (.op ⟨.nl 1 .done,[],[],[],[]⟩ (.op ⟨.call 1 .done,[],[],[11801],[11801]⟩ (.op ⟨.nl 1 .done,[],[],[],[11801]⟩ (.op ⟨.nl 1 .done,[],[],[],[]⟩ (.op ⟨.nl 1 .done,[],[],[],[11801]⟩ Jm9)))))))))),(16,.rg (.n 10 (.sp 30 7 [3,4] [1,2,3,11801] Jpm Qax Qax (.n 1 (.sp 38 7 [3,4] [1,2,3,11801] ⟨[(45,zs7)],[]⟩ Qax Qax .done))))),(25,.rg (.n 7 (.sp 58 6 [3,4,5,6,7] [1,2,3,11801] ⟨[(64,zs7)],[]⟩ Qs3 Qs3 (.n 1 (.sp 65 9 [3,4,5,6,7] [1,2,3,11801] ⟨[(74,zs7)],[]⟩ Qky Qky (.n 1 (.sp 75 6 [3,4,5,6,7] [1,2,3,11801] ⟨[(81,zs7)],[]⟩ Qs3 Qs3 (.n 1 (.sp 82 9 [3,4,5,6,7] [1,2,3,11801] ⟨[(91,zs7)],[]⟩ Qky Qky (.n 13 (.sp 104 7 [3] [1,2,3,11801] ⟨[(111,zs7)],[]⟩ Qax Qax Vp)))))))))))] Tryz.func26⟩
def Rc(N:Nat):V:=⟨⟨29,(sD [.sl Xa,.sl Xa]),[zs5],fun(x0,x1)=>Ur N x0 x1,[]⟩,kF N [Qfm] [(14,.lp [0,1] [] zs4 zs8),(24,.an (.dr 8 Qi0 Qiz))] Tryz.func29⟩
def Xw(N:Nat):V:=⟨⟨8,Joi,[zs5],fun(x0,x1,x2)=>Vl N x0 x1 x2,[]⟩,kF N [Qfn,Qed,Ra,Qf8,Rb,Rc] [(11,.an (.dc 8 [27,28,29,30,31,32,33,34] [] [] (.op ⟨.nl 1 .done,[],[],[27],[27]⟩ (.op ⟨.nl 1 .done,[],[],[],[]⟩ (.op ⟨.nl 1 .done,[],[],[],[]⟩ (.op ⟨.nl 1 .done,[],[],[],[]⟩ (.op ⟨.nl 1 .done,[27],[],[31],[31]⟩ Jmt))))))),(17,.rg (.n 2 (.call 4 (.n 1 (.fz 14001 (.fz 14901 (.sp 55 4 [9,11] [3,8,10,35,48,13801,13802,13803,13804,13805,13806,14001,14501,14502,14503,14504,14505,14506,14901] ⟨[(59,zs7)],[]⟩ Jmv Sv (.n 1 (.sp 60 2 [] [3,8,10,35,48,13801,13802,13803,13804,13805,13806,14001,14501,14502,14503,14504,14505,14506,14901] ⟨[(62,zs7)],[]⟩ Jg0 Qs1 Vp)))))))))] Tryz.func8⟩
end Gx
