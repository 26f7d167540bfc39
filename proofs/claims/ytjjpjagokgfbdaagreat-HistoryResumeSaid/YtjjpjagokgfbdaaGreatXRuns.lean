/- The interpreter gives these functions. -/
import Derived.Test.YtjjpjagokgfbdaaGreatXFns
import Derived.Test.YtjjpjagokgfbdaaGreatProg
import Derived.Test.YtjjpjagokgfbdaaGreatXRn
import Derived.Test.YtjjpjagokgfbdaaGreatXShelf
namespace Gx
open Go Gd Go.Proofs
set_option linter.unusedVariables false
def tab:Tab:=[
 ⟨1,.func ⟨[]⟩ ⟨[]⟩ false,.nilFunc,1,8⟩,
 ⟨2,.int .i64,.int .i64 0,1,8⟩,
 ⟨3,.int .i64,.int .i64 0,1,8⟩,
 ⟨4,.bool,.bool false,1,1⟩,
 ⟨5,.int .u8,.int .u8 0,1,1⟩,
 ⟨6,.int .u8,.int .u8 0,1,1⟩,
 ⟨9,.string,Ye [],1,16⟩,
 ⟨22,.slice 144,.slice none 0 0,1,24⟩,
 ⟨23,.slice 100,.slice none 0 0,1,24⟩,
 ⟨24,.slice 108,.slice none 0 0,1,24⟩,
 ⟨25,.slice 209,.slice none 0 0,1,24⟩,
 ⟨26,.slice 3,.slice none 0 0,1,24⟩,
 ⟨27,.slice 113,.slice none 0 0,1,24⟩,
 ⟨29,.struct ⟨[⟨"Events",22,0,false, "", "",0⟩,⟨"Tariffs",23,1,false, "", "",24⟩,⟨"Products",24,2,false, "", "",48⟩,⟨"Taxes",25,3,false, "", "",72⟩,⟨"Holidays",26,4,false, "", "",96⟩,⟨"Agreements",27,5,false, "", "",120⟩]⟩,.agg ⟨[.slice none 0 0,.slice none 0 0,.slice none 0 0,.slice none 0 0,.slice none 0 0,.slice none 0 0]⟩,6,144⟩,
 ⟨30,.slice 40,.slice none 0 0,1,24⟩,
 ⟨33,.slice 68,.slice none 0 0,1,24⟩,
 ⟨34,.slice 63,.slice none 0 0,1,24⟩,
 ⟨35,.slice 88,.slice none 0 0,1,24⟩,
 ⟨37,.struct ⟨[⟨"Buckets",33,0,false, "", "",0⟩,⟨"Wallets",34,1,false, "", "",24⟩,⟨"Counters",35,2,false, "", "",48⟩]⟩,.agg ⟨[.slice none 0 0,.slice none 0 0,.slice none 0 0]⟩,3,72⟩,
 ⟨40,.struct ⟨[⟨"Id",3,0,false, "", "",0⟩,⟨"Kind",3,1,false, "", "",8⟩,⟨"Account",3,2,false, "", "",16⟩,⟨"Sub",3,3,false, "", "",24⟩,⟨"A",9,4,false, "", "",32⟩,⟨"B",9,5,false, "", "",48⟩,⟨"Start",3,6,false, "", "",64⟩,⟨"Units",3,7,false, "", "",72⟩,⟨"Trunk",3,8,false, "", "",80⟩,⟨"Inbound",4,9,false, "", "",88⟩,⟨"Source",3,10,false, "", "",96⟩,⟨"Serial",3,11,false, "", "",104⟩]⟩,.agg ⟨[.int .i64 0,.int .i64 0,.int .i64 0,.int .i64 0,Ye [],Ye [],.int .i64 0,.int .i64 0,.int .i64 0,.bool false,.int .i64 0,.int .i64 0]⟩,12,112⟩,
 ⟨41,.int .i64,.int .i64 0,1,8⟩,
 ⟨42,.slice 70,.slice none 0 0,1,24⟩,
 ⟨43,.slice 86,.slice none 0 0,1,24⟩,
 ⟨44,.slice 116,.slice none 0 0,1,24⟩,
 ⟨46,.struct ⟨[⟨"Usage",40,0,false, "", "",0⟩,⟨"Err",41,12,false, "", "",112⟩,⟨"Plan",9,13,false, "", "",120⟩,⟨"Version",3,14,false, "", "",136⟩,⟨"Zone",9,15,false, "", "",144⟩,⟨"Takes",42,16,false, "", "",160⟩,⟨"Segments",43,17,false, "", "",184⟩,⟨"Setup",3,18,false, "", "",208⟩,⟨"Gross",3,19,false, "", "",216⟩,⟨"Net",3,20,false, "", "",224⟩,⟨"Given",44,21,false, "", "",232⟩,⟨"Paid",3,22,false, "", "",256⟩,⟨"Owed",3,23,false, "", "",264⟩]⟩,.agg ⟨[.int .i64 0,.int .i64 0,.int .i64 0,.int .i64 0,Ye [],Ye [],.int .i64 0,.int .i64 0,.int .i64 0,.bool false,.int .i64 0,.int .i64 0,.int .i64 0,Ye [],.int .i64 0,Ye [],.slice none 0 0,.slice none 0 0,.int .i64 0,.int .i64 0,.int .i64 0,.slice none 0 0,.int .i64 0,.int .i64 0]⟩,24,272⟩,
 ⟨56,.slice 46,.slice none 0 0,1,24⟩,
 ⟨63,.struct ⟨[⟨"Account",3,0,false, "", "",0⟩,⟨"Balance",3,1,false, "", "",8⟩,⟨"Floor",3,2,false, "", "",16⟩,⟨"Held",3,3,false, "", "",24⟩,⟨"Until",3,4,false, "", "",32⟩]⟩,.agg ⟨[.int .i64 0,.int .i64 0,.int .i64 0,.int .i64 0,.int .i64 0]⟩,5,40⟩,
 ⟨64,.slice 9,.slice none 0 0,1,24⟩,
 ⟨66,.struct ⟨[⟨"From",3,0,false, "", "",0⟩,⟨"To",3,1,false, "", "",8⟩]⟩,.agg ⟨[.int .i64 0,.int .i64 0]⟩,2,16⟩,
 ⟨68,.struct ⟨[⟨"Account",3,0,false, "", "",0⟩,⟨"Sub",3,1,false, "", "",8⟩,⟨"Product",9,2,false, "", "",16⟩,⟨"Index",3,3,false, "", "",32⟩,⟨"Kind",3,4,false, "", "",40⟩,⟨"Zones",64,5,false, "", "",48⟩,⟨"Valid",66,6,false, "", "",72⟩,⟨"Units",3,8,false, "", "",88⟩,⟨"Left",3,9,false, "", "",96⟩,⟨"Priority",3,10,false, "", "",104⟩,⟨"Shared",4,11,false, "", "",112⟩]⟩,.agg ⟨[.int .i64 0,.int .i64 0,Ye [],.int .i64 0,.int .i64 0,.slice none 0 0,.int .i64 0,.int .i64 0,.int .i64 0,.int .i64 0,.int .i64 0,.bool false]⟩,12,120⟩,
 ⟨70,.struct ⟨[⟨"Sub",3,0,false, "", "",0⟩,⟨"Product",9,1,false, "", "",8⟩,⟨"Index",3,2,false, "", "",24⟩,⟨"From",3,3,false, "", "",32⟩,⟨"Units",3,4,false, "", "",40⟩]⟩,.agg ⟨[.int .i64 0,Ye [],.int .i64 0,.int .i64 0,.int .i64 0]⟩,5,48⟩,
 ⟨73,.slice 122,.slice none 0 0,1,24⟩,
 ⟨83,.func ⟨[3]⟩ ⟨[4]⟩ false,.nilFunc,1,8⟩,
 ⟨86,.struct ⟨[⟨"Band",9,0,false, "", "",0⟩,⟨"Start",3,1,false, "", "",16⟩,⟨"Units",3,2,false, "", "",24⟩,⟨"Amount",3,3,false, "", "",32⟩]⟩,.agg ⟨[Ye [],.int .i64 0,.int .i64 0,.int .i64 0]⟩,4,40⟩,
 ⟨88,.struct ⟨[⟨"Sub",3,0,false, "", "",0⟩,⟨"Kind",3,1,false, "", "",8⟩,⟨"From",3,2,false, "", "",16⟩,⟨"Units",3,3,false, "", "",24⟩,⟨"Spent",3,4,false, "", "",32⟩]⟩,.agg ⟨[.int .i64 0,.int .i64 0,.int .i64 0,.int .i64 0,.int .i64 0]⟩,5,40⟩,
 ⟨90,.pointer 102,.pointer none,1,8⟩,
 ⟨92,.struct ⟨[⟨"Period",66,0,false, "", "",0⟩,⟨"Plan",9,2,false, "", "",16⟩,⟨"Products",64,3,false, "", "",32⟩,⟨"Suspended",4,4,false, "", "",56⟩,⟨"Family",4,5,false, "", "",57⟩]⟩,.agg ⟨[.int .i64 0,.int .i64 0,Ye [],.slice none 0 0,.bool false,.bool false]⟩,6,64⟩,
 ⟨94,.struct ⟨[⟨"Id",3,0,false, "", "",0⟩,⟨"Since",3,1,false, "", "",8⟩,⟨"Anchor",3,2,false, "", "",16⟩,⟨"Prepaid",4,3,false, "", "",24⟩,⟨"Closed",4,4,false, "", "",25⟩,⟨"Subs",26,5,false, "", "",32⟩]⟩,.agg ⟨[.int .i64 0,.int .i64 0,.int .i64 0,.bool false,.bool false,.slice none 0 0]⟩,6,56⟩,
 ⟨95,.slice 135,.slice none 0 0,1,24⟩,
 ⟨96,.slice 138,.slice none 0 0,1,24⟩,
 ⟨97,.slice 142,.slice none 0 0,1,24⟩,
 ⟨98,.slice 182,.slice none 0 0,1,24⟩,
 ⟨100,.struct ⟨[⟨"Name",9,0,false, "", "",0⟩,⟨"From",3,1,false, "", "",16⟩,⟨"Split",4,2,false, "", "",24⟩,⟨"Zones",95,3,false, "", "",32⟩,⟨"Bands",96,4,false, "", "",56⟩,⟨"Rates",97,5,false, "", "",80⟩,⟨"Discounts",98,6,false, "", "",104⟩]⟩,.agg ⟨[Ye [],.int .i64 0,.bool false,.slice none 0 0,.slice none 0 0,.slice none 0 0,.slice none 0 0]⟩,7,128⟩,
 ⟨102,.struct ⟨[⟨"book",29,0,false, "", "billing/rate",0⟩,⟨"state",37,6,false, "", "billing/rate",144⟩,⟨"u",40,9,false, "", "billing/rate",216⟩,⟨"spell",92,21,false, "", "billing/rate",328⟩,⟨"account",94,27,false, "", "billing/rate",392⟩,⟨"tariff",100,33,false, "", "billing/rate",448⟩,⟨"free",3,40,false, "", "billing/rate",576⟩,⟨"r",46,41,false, "", "billing/rate",584⟩]⟩,.agg ⟨[.slice none 0 0,.slice none 0 0,.slice none 0 0,.slice none 0 0,.slice none 0 0,.slice none 0 0,.slice none 0 0,.slice none 0 0,.slice none 0 0,.int .i64 0,.int .i64 0,.int .i64 0,.int .i64 0,Ye [],Ye [],.int .i64 0,.int .i64 0,.int .i64 0,.bool false,.int .i64 0,.int .i64 0,.int .i64 0,.int .i64 0,Ye [],.slice none 0 0,.bool false,.bool false,.int .i64 0,.int .i64 0,.int .i64 0,.bool false,.bool false,.slice none 0 0,Ye [],.int .i64 0,.bool false,.slice none 0 0,.slice none 0 0,.slice none 0 0,.slice none 0 0,.int .i64 0,.int .i64 0,.int .i64 0,.int .i64 0,.int .i64 0,Ye [],Ye [],.int .i64 0,.int .i64 0,.int .i64 0,.bool false,.int .i64 0,.int .i64 0,.int .i64 0,Ye [],.int .i64 0,Ye [],.slice none 0 0,.slice none 0 0,.int .i64 0,.int .i64 0,.int .i64 0,.slice none 0 0,.int .i64 0,.int .i64 0]⟩,65,856⟩,
 ⟨103,.func ⟨[]⟩ ⟨[41]⟩ false,.nilFunc,1,8⟩,
 ⟨106,.slice 110,.slice none 0 0,1,24⟩,
 ⟨108,.struct ⟨[⟨"Name",9,0,false, "", "",0⟩,⟨"From",3,1,false, "", "",16⟩,⟨"Fee",3,2,false, "", "",24⟩,⟨"Category",9,3,false, "", "",32⟩,⟨"Prorate",4,4,false, "", "",48⟩,⟨"Bundles",106,5,false, "", "",56⟩]⟩,.agg ⟨[Ye [],.int .i64 0,.int .i64 0,Ye [],.bool false,.slice none 0 0]⟩,6,80⟩,
 ⟨110,.struct ⟨[⟨"Kind",3,0,false, "", "",0⟩,⟨"Zones",64,1,false, "", "",8⟩,⟨"Units",3,2,false, "", "",32⟩,⟨"Rollover",3,3,false, "", "",40⟩,⟨"Priority",3,4,false, "", "",48⟩,⟨"Shared",4,5,false, "", "",56⟩]⟩,.agg ⟨[.int .i64 0,.slice none 0 0,.int .i64 0,.int .i64 0,.int .i64 0,.bool false]⟩,6,64⟩,
 ⟨111,.slice 140,.slice none 0 0,1,24⟩,
 ⟨113,.struct ⟨[⟨"Partner",3,0,false, "", "",0⟩,⟨"Kind",3,1,false, "", "",8⟩,⟨"Inbound",4,2,false, "", "",16⟩,⟨"Valid",66,3,false, "", "",24⟩,⟨"Steps",111,5,false, "", "",40⟩,⟨"Cap",3,6,false, "", "",64⟩]⟩,.agg ⟨[.int .i64 0,.int .i64 0,.bool false,.int .i64 0,.int .i64 0,.slice none 0 0,.int .i64 0]⟩,7,72⟩,
 ⟨116,.struct ⟨[⟨"Name",9,0,false, "", "",0⟩,⟨"Amount",3,1,false, "", "",16⟩]⟩,.agg ⟨[Ye [],.int .i64 0]⟩,2,24⟩,
 ⟨119,.slice 125,.slice none 0 0,1,24⟩,
 ⟨122,.struct ⟨[⟨"Usage",3,0,false, "", "",0⟩,⟨"Account",3,1,false, "", "",8⟩,⟨"Sub",3,2,false, "", "",16⟩,⟨"Kind",3,3,false, "", "",24⟩,⟨"Start",3,4,false, "", "",32⟩,⟨"Paid",3,5,false, "", "",40⟩,⟨"Owed",3,6,false, "", "",48⟩]⟩,.agg ⟨[.int .i64 0,.int .i64 0,.int .i64 0,.int .i64 0,.int .i64 0,.int .i64 0,.int .i64 0]⟩,7,56⟩,
 ⟨125,.struct ⟨[⟨"Kind",3,0,false, "", "",0⟩,⟨"Sub",3,1,false, "", "",8⟩,⟨"Name",9,2,false, "", "",16⟩,⟨"Category",9,3,false, "", "",32⟩,⟨"Count",3,4,false, "", "",48⟩,⟨"Units",3,5,false, "", "",56⟩,⟨"Amount",3,6,false, "", "",64⟩,⟨"Rounded",3,7,false, "", "",72⟩]⟩,.agg ⟨[.int .i64 0,.int .i64 0,Ye [],Ye [],.int .i64 0,.int .i64 0,.int .i64 0,.int .i64 0]⟩,8,80⟩,
 ⟨135,.struct ⟨[⟨"Name",9,0,false, "", "",0⟩,⟨"Prefixes",64,1,false, "", "",16⟩]⟩,.agg ⟨[Ye [],.slice none 0 0]⟩,2,40⟩,
 ⟨136,.slice 319,.slice none 0 0,1,24⟩,
 ⟨138,.struct ⟨[⟨"Name",9,0,false, "", "",0⟩,⟨"Slots",136,1,false, "", "",16⟩]⟩,.agg ⟨[Ye [],.slice none 0 0]⟩,2,40⟩,
 ⟨140,.struct ⟨[⟨"Upto",3,0,false, "", "",0⟩,⟨"Quantum",3,1,false, "", "",8⟩,⟨"Price",3,2,false, "", "",16⟩]⟩,.agg ⟨[.int .i64 0,.int .i64 0,.int .i64 0]⟩,3,24⟩,
 ⟨142,.struct ⟨[⟨"Kind",3,0,false, "", "",0⟩,⟨"Zone",9,1,false, "", "",8⟩,⟨"Band",9,2,false, "", "",24⟩,⟨"Setup",3,3,false, "", "",40⟩,⟨"Steps",111,4,false, "", "",48⟩]⟩,.agg ⟨[.int .i64 0,Ye [],Ye [],.int .i64 0,.slice none 0 0]⟩,5,72⟩,
 ⟨144,.struct ⟨[⟨"At",3,0,false, "", "",0⟩,⟨"Kind",3,1,false, "", "",8⟩,⟨"Account",3,2,false, "", "",16⟩,⟨"Sub",3,3,false, "", "",24⟩,⟨"Number",9,4,false, "", "",32⟩,⟨"Name",9,5,false, "", "",48⟩,⟨"Value",3,6,false, "", "",64⟩]⟩,.agg ⟨[.int .i64 0,.int .i64 0,.int .i64 0,.int .i64 0,Ye [],Ye [],.int .i64 0]⟩,7,72⟩,
 ⟨151,.struct ⟨[⟨"Id",3,0,false, "", "",0⟩,⟨"Account",3,1,false, "", "",8⟩,⟨"Since",3,2,false, "", "",16⟩,⟨"Plan",9,3,false, "", "",24⟩,⟨"Numbers",64,4,false, "", "",40⟩,⟨"Products",64,5,false, "", "",64⟩,⟨"Suspended",4,6,false, "", "",88⟩,⟨"Family",4,7,false, "", "",89⟩]⟩,.agg ⟨[.int .i64 0,.int .i64 0,.int .i64 0,Ye [],.slice none 0 0,.slice none 0 0,.bool false,.bool false]⟩,8,96⟩,
 ⟨172,.struct ⟨[⟨"Kind",3,0,false, "", "",0⟩,⟨"Units",3,1,false, "", "",8⟩,⟨"Weekday",3,2,false, "", "",16⟩,⟨"Minute",3,3,false, "", "",24⟩,⟨"Total",3,4,false, "", "",32⟩,⟨"Spent",3,5,false, "", "",40⟩,⟨"Zone",9,6,false, "", "",48⟩,⟨"Band",9,7,false, "", "",64⟩,⟨"Family",4,8,false, "", "",80⟩]⟩,.agg ⟨[.int .i64 0,.int .i64 0,.int .i64 0,.int .i64 0,.int .i64 0,.int .i64 0,Ye [],Ye [],.bool false]⟩,9,88⟩,
 ⟨178,.slice 180,.slice none 0 0,1,24⟩,
 ⟨180,.struct ⟨[⟨"Op",3,0,false, "", "",0⟩,⟨"Num",3,1,false, "", "",8⟩,⟨"Text",9,2,false, "", "",16⟩,⟨"Args",178,3,false, "", "",32⟩]⟩,.agg ⟨[.int .i64 0,.int .i64 0,Ye [],.slice none 0 0]⟩,4,56⟩,
 ⟨182,.struct ⟨[⟨"Name",9,0,false, "", "",0⟩,⟨"When",180,1,false, "", "",16⟩,⟨"Points",3,5,false, "", "",72⟩]⟩,.agg ⟨[Ye [],.int .i64 0,.int .i64 0,Ye [],.slice none 0 0,.int .i64 0]⟩,6,80⟩,
 ⟨188,.struct ⟨[⟨"start",3,0,false, "", "billing/history",0⟩,⟨"source",3,1,false, "", "billing/history",8⟩,⟨"serial",3,2,false, "", "billing/history",16⟩,⟨"id",3,3,false, "", "billing/history",24⟩]⟩,.agg ⟨[.int .i64 0,.int .i64 0,.int .i64 0,.int .i64 0]⟩,4,32⟩,
 ⟨199,.slice 94,.slice none 0 0,1,24⟩,
 ⟨200,.slice 151,.slice none 0 0,1,24⟩,
 ⟨202,.struct ⟨[⟨"Accounts",199,0,false, "", "",0⟩,⟨"Subs",200,1,false, "", "",24⟩,⟨"Ended",26,2,false, "", "",48⟩]⟩,.agg ⟨[.slice none 0 0,.slice none 0 0,.slice none 0 0]⟩,3,72⟩,
 ⟨209,.struct ⟨[⟨"Category",9,0,false, "", "",0⟩,⟨"From",3,1,false, "", "",16⟩,⟨"Points",3,2,false, "", "",24⟩]⟩,.agg ⟨[Ye [],.int .i64 0,.int .i64 0]⟩,3,32⟩,
 ⟨215,.slice 92,.slice none 0 0,1,24⟩,
 ⟨219,.struct ⟨[⟨"Accounts",199,0,false, "", "",0⟩,⟨"Subs",200,1,false, "", "",24⟩]⟩,.agg ⟨[.slice none 0 0,.slice none 0 0]⟩,2,48⟩,
 ⟨221,.map 9 9,.map none,1,8⟩,
 ⟨231,.pointer 234,.pointer none,1,8⟩,
 ⟨232,.map 237 4,.map none,1,8⟩,
 ⟨234,.struct ⟨[⟨"list",33,0,false, "", "billing/bundle",0⟩,⟨"has",232,1,false, "", "billing/bundle",24⟩]⟩,.agg ⟨[.slice none 0 0,.map none]⟩,2,32⟩,
 ⟨237,.struct ⟨[⟨"sub",3,0,false, "", "billing/bundle",0⟩,⟨"product",9,1,false, "", "billing/bundle",8⟩,⟨"index",3,2,false, "", "billing/bundle",24⟩,⟨"from",3,3,false, "", "billing/bundle",32⟩]⟩,.agg ⟨[.int .i64 0,Ye [],.int .i64 0,.int .i64 0]⟩,4,40⟩,
 ⟨240,.slice 245,.slice none 0 0,1,24⟩,
 ⟨242,.slice 66,.slice none 0 0,1,24⟩,
 ⟨245,.struct ⟨[⟨"account",3,0,false, "", "billing/bundle",0⟩,⟨"sub",3,1,false, "", "billing/bundle",8⟩,⟨"product",9,2,false, "", "billing/bundle",16⟩,⟨"active",242,3,false, "", "billing/bundle",32⟩]⟩,.agg ⟨[.int .i64 0,.int .i64 0,Ye [],.slice none 0 0]⟩,4,56⟩,
 ⟨246,.slice 249,.slice none 0 0,1,24⟩,
 ⟨249,.struct ⟨[⟨"bucket",68,0,false, "", "billing/bundle",0⟩,⟨"rollover",3,12,false, "", "billing/bundle",120⟩]⟩,.agg ⟨[.int .i64 0,.int .i64 0,Ye [],.int .i64 0,.int .i64 0,.slice none 0 0,.int .i64 0,.int .i64 0,.int .i64 0,.int .i64 0,.int .i64 0,.bool false,.int .i64 0]⟩,13,128⟩,
 ⟨264,.array 2 3,.agg ⟨[.int .i64 0,.int .i64 0]⟩,2,16⟩,
 ⟨267,.map 3 3,.map none,1,8⟩,
 ⟨293,.map 3 4,.map none,1,8⟩,
 ⟨296,.array 5 4,.agg ⟨[.bool false,.bool false,.bool false,.bool false,.bool false]⟩,5,5⟩,
 ⟨302,.slice 305,.slice none 0 0,1,24⟩,
 ⟨305,.struct ⟨[⟨"at",3,0,false, "", "billing/subscribe",0⟩,⟨"s",151,1,false, "", "billing/subscribe",8⟩]⟩,.agg ⟨[.int .i64 0,.int .i64 0,.int .i64 0,.int .i64 0,Ye [],.slice none 0 0,.slice none 0 0,.bool false,.bool false]⟩,9,104⟩,
 ⟨308,.func ⟨[305,305]⟩ ⟨[4]⟩ false,.nilFunc,1,8⟩,
 ⟨309,.func ⟨[305,305]⟩ ⟨[305]⟩ false,.nilFunc,1,8⟩,
 ⟨310,.pointer 379,.pointer none,1,8⟩,
 ⟨319,.struct ⟨[⟨"Days",3,0,false, "", "",0⟩,⟨"From",3,1,false, "", "",8⟩,⟨"To",3,2,false, "", "",16⟩]⟩,.agg ⟨[.int .i64 0,.int .i64 0,.int .i64 0]⟩,3,24⟩,
 ⟨322,.func ⟨[135]⟩ ⟨[4]⟩ false,.nilFunc,1,8⟩,
 ⟨326,.map 9 293,.map none,1,8⟩,
 ⟨337,.struct ⟨[⟨"sub",3,0,false, "", "billing/bucket",0⟩,⟨"product",9,1,false, "", "billing/bucket",8⟩,⟨"index",3,2,false, "", "billing/bucket",24⟩,⟨"from",3,3,false, "", "billing/bucket",32⟩]⟩,.agg ⟨[.int .i64 0,Ye [],.int .i64 0,.int .i64 0]⟩,4,40⟩,
 ⟨340,.slice 343,.slice none 0 0,1,24⟩,
 ⟨343,.struct ⟨[⟨"Band",9,0,false, "", "",0⟩,⟨"Period",66,1,false, "", "",16⟩]⟩,.agg ⟨[Ye [],.int .i64 0,.int .i64 0]⟩,3,32⟩,
 ⟨346,.array 3 264,.agg ⟨[.int .i64 0,.int .i64 0,.int .i64 0,.int .i64 0,.int .i64 0,.int .i64 0]⟩,6,48⟩,
 ⟨349,.func ⟨[138]⟩ ⟨[4]⟩ false,.nilFunc,1,8⟩,
 ⟨351,.func ⟨[319]⟩ ⟨[4]⟩ false,.nilFunc,1,8⟩,
 ⟨375,.map 3 94,.map none,1,8⟩,
 ⟨376,.map 3 151,.map none,1,8⟩,
 ⟨377,.map 9 3,.map none,1,8⟩,
 ⟨379,.struct ⟨[⟨"accounts",375,0,false, "", "billing/customer",0⟩,⟨"subs",376,1,false, "", "billing/customer",8⟩,⟨"ever",293,2,false, "", "billing/customer",16⟩,⟨"owners",377,3,false, "", "billing/customer",24⟩,⟨"live",267,4,false, "", "billing/customer",32⟩,⟨"opened",26,5,false, "", "billing/customer",40⟩,⟨"added",26,6,false, "", "billing/customer",64⟩]⟩,.agg ⟨[.map none,.map none,.map none,.map none,.map none,.slice none 0 0,.slice none 0 0]⟩,7,88⟩,
 ⟨381,.map 3 26,.map none,1,8⟩,
 ⟨384,.func ⟨[92]⟩ ⟨[4]⟩ false,.nilFunc,1,8⟩,
 ⟨386,.func ⟨[4,4]⟩ ⟨[4]⟩ false,.nilFunc,1,8⟩,
 ⟨388,.func ⟨[108]⟩ ⟨[4]⟩ false,.nilFunc,1,8⟩,
 ⟨393,.struct ⟨[⟨"Year",3,0,false, "", "",0⟩,⟨"Month",3,1,false, "", "",8⟩,⟨"Day",3,2,false, "", "",16⟩]⟩,.agg ⟨[.int .i64 0,.int .i64 0,.int .i64 0]⟩,3,24⟩,
 ⟨401,.array 4 3,.agg ⟨[.int .i64 0,.int .i64 0,.int .i64 0,.int .i64 0]⟩,4,32⟩,
 ⟨411,.func ⟨[66,66]⟩ ⟨[4]⟩ false,.nilFunc,1,8⟩,
 ⟨412,.func ⟨[66,66]⟩ ⟨[66]⟩ false,.nilFunc,1,8⟩,
 ⟨413,.slice 415,.slice none 0 0,1,24⟩,
 ⟨415,.struct ⟨[⟨"at",3,0,false, "", "billing/interval",0⟩,⟨"list",3,1,false, "", "billing/interval",8⟩,⟨"by",3,2,false, "", "billing/interval",16⟩]⟩,.agg ⟨[.int .i64 0,.int .i64 0,.int .i64 0]⟩,3,24⟩,
 ⟨418,.func ⟨[415,415]⟩ ⟨[3]⟩ false,.nilFunc,1,8⟩,
 ⟨434,.array 12 3,.agg ⟨[.int .i64 0,.int .i64 0,.int .i64 0,.int .i64 0,.int .i64 0,.int .i64 0,.int .i64 0,.int .i64 0,.int .i64 0,.int .i64 0,.int .i64 0,.int .i64 0]⟩,12,96⟩]
def tx:TX:=⟨tab,[(1,.ref),(2,(.int .i64)),(3,(.int .i64)),(4,.bool),(5,(.int .u8)),(6,(.int .u8)),(9,.str),(22,(.sl Jw)),(23,(.sl J7)),(24,(.sl Yp)),(25,(.sl Dc)),(26,(.sl (.int .i64))),(27,(.sl V4)),(29,Vx),(30,(.sl J2)),(33,(.sl Yn)),(34,(.sl Vr)),(35,(.sl Yq)),(37,Ue),(40,J2),(41,(.int .i64)),(42,(.sl Qex)),(43,(.sl Li)),(44,(.sl Qad)),(46,Xd),(56,(.sl Xd)),(63,Vr),(64,(.sl .str)),(66,Q9),(68,Yn),(70,Qex),(73,(.sl Qmp)),(83,.ref),(86,Li),(88,Yq),(90,.ref),(92,Cf),(94,V1),(95,(.sl V9)),(96,(.sl Vw)),(97,(.sl G3)),(98,(.sl Vd)),(100,J7),(102,Jcj),(103,.ref),(106,(.sl K8)),(108,Yp),(110,K8),(111,(.sl G2)),(113,V4),(116,Qad),(119,(.sl Qve)),(122,Qmp),(125,Qve),(135,V9),(136,(.sl Kp)),(138,Vw),(140,G2),(142,G3),(144,Jw),(151,Vh),(172,Sa),(178,(.sl Kq)),(180,Kq),(182,Vd),(188,Lj),(199,(.sl V1)),(200,(.sl Vh)),(202,U7),(209,Dc),(215,(.sl Cf)),(219,Qrg),(221,.ref),(231,.ref),(232,.ref),(234,Qs6),(237,Ux),(240,(.sl Uf)),(242,(.sl Q9)),(245,Uf),(246,(.sl Eb)),(249,Eb),(264,(.arr 2 (.int .i64))),(267,.ref),(293,.ref),(296,(.arr 5 .bool)),(302,(.sl Vi)),(305,Vi),(308,.ref),(309,.ref),(310,.ref),(319,Kp),(322,.ref),(326,.ref),(337,Sc),(340,(.sl Qgx)),(343,Qgx),(346,(.arr 3 (.arr 2 (.int .i64)))),(349,.ref),(351,.ref),(375,.ref),(376,.ref),(377,.ref),(379,Qni),(381,.ref),(384,.ref),(386,.ref),(388,.ref),(393,Qey),(401,(.arr 4 (.int .i64))),(411,.ref),(412,.ref),(413,(.sl Vy)),(415,Vy),(418,.ref),(434,(.arr 12 (.int .i64)))],[]⟩
theorem Jgy:Tryz.prog.follows .mixedOrders=true:=by kernel_rfl
theorem Jgz:Q4 Tryz.prog tab:=by repeat (first | exact trivial | refine⟨⟨⟨by kernel_rfl,by kernel_rfl⟩,by kernel_rfl⟩,?_⟩)
abbrev KO(c:Con):Prop:=Qfy Tryz.prog tx.gl c∧Runs Tryz.prog c.f
abbrev IO(i:It):Prop:=Jb8 Tryz.prog tx.gl i∧Runs Tryz.prog i.f
abbrev V:={c // KO c}
def kcs(N:Nat)(L:List (Nat→V)):List Con:=L.map fun k=>(k N).1
theorem Q82(N:Nat):∀L:List (Nat→V),Q1l Tryz.prog tx.gl (kcs N L)
 | []=>Jq2
 | c::L=>Jpm (c N).2.1 (c N).2.2 (Q82 N L)
def Q83(fn:Func):Bool:=decide (fn.name ≠ "runtime.NumGoroutine")&&!fn.body.isNone
theorem I6{f:FuncId}{fn:Func}(hf:Tryz.prog.funcs[f]?=some fn)(h:Q83 fn=true):Runs Tryz.prog f:=by
 simp only[Q83,QQ,decide_eq_true_eq,XF]at h
 exact⟨fn,hf,h.1,h.2⟩
theorem kF(N:Nat){c:Con}(L:List (Nat→V))(ps:List (Nat×Pc)){fn:Func}(hf:Tryz.prog.funcs[c.f]?=some fn)(hg:Q83 fn=true:=by rfl)(h:∀x,c.fn x=Jf2 tx (kcs N L) N fn (Jpp ((kcs N L).map Con.f) ps fn.body) c.ro c.Γ c.Δ x:=by intro x; kernel_rfl):KO c :=
 ⟨Jk4 (Y:=tx) (N:=N) Jgz Jgy (Q82 N L) hf rfl h,I6 hf hg⟩
def ics(L:List {i // IO i}):List It:=L.map (·.1)
theorem Jmq:∀L:List {i // IO i},∀i∈ics L,Jb8 Tryz.prog tx.gl i∧Runs Tryz.prog i.f
 | [],_,h=>by cases h
 | c::L,i,h=>by
  rcases QX.1 h with rfl | h
  ·exact c.2
  ·exact Jmq L i h
theorem kR(N:Nat){c:Con}(L:List (Nat→V))(I:List {i // IO i})(an:AnR){fn:Func}(hf:Tryz.prog.funcs[c.f]?=some fn)(hg:Q83 fn=true)(h:∀x,c.fn x=Jgt tx (kcs N L) N (ics I) fn an c.ro c.Γ c.Δ x):KO c :=
 ⟨Jgu (Y:=tx) (N:=N) (an:=an) Jgz Jgy (Q82 N L) (Jmq I) hf rfl h,I6 hf hg⟩
def Vz:Con:=⟨377,⟨[(0,.s 5000),(1,.f 378 (.nil))],[(5000,.row 415 Vy)]⟩,[⟨[],[(5000,.row 415 Vy)]⟩],Qf2 (fun x:Q8=>x.1),[]⟩
theorem Gt:KO Vz:=⟨Qvc (c:=Vz) (e:=415) (u:=Vy) rfl (fun x=>x) (fun y=>y) (ev:=[⟨1,[],.f 378 .nil⟩]) (vx:=[.func (.func 378) #[] #[]]) rfl (fun _=>by kernel_rfl) (fun _=>by kernel_rfl) rfl Q81 (fun _ _=>Jcg) (fun p w=>AnyF.slices_SortFunc_none { Tryz.sortFunc377 with } p 0 _ w) (fun _ _ h blk cap w hH hb _=>Q15 (u:=Vy) rfl (fun x:Q8=>x.1) Tryz.sortFunc377 Tryz.isAgg415 Tryz.sizeOf415 (enters_of Tryz.func378 (by kernel_rfl) rfl) Tryz.clo378 h blk cap w hH hb),I6 Tryz.func377 rfl⟩
def I7:Con:=⟨380,⟨[(0,.s 5000)],[(5000,.row 3 (.int .i64))]⟩,[⟨[],[(5000,.row 3 (.int .i64))]⟩],Qu7,[]⟩
theorem Qg8:KO I7:=⟨Qvc (c:=I7) (e:=3) (u:=(.int .i64)) rfl (fun x=>x) (fun y=>y) (ev:=[]) (vx:=[]) rfl (fun _=>by kernel_rfl) (fun _=>by kernel_rfl) rfl Q80 (fun _ _=>Jch) (fun p w=>AnyM.slices_Sort_int_none Tryz.sortInts380 p 0 w) (fun _ _ h blk cap w hH hb _=>Q16 Tryz.sortInts380 h blk cap w hH hb),I6 Tryz.func380 rfl⟩
def Au:Con:=⟨381,⟨[(0,.s 5000)],[(5000,.row 3 (.int .i64))]⟩,[⟨[(0,.s 0)],[(0,.row 3 (.int .i64))]⟩],R9,[]⟩
theorem Qb7:KO Au:=⟨Qvd (c:=Au) (e:=3) (u:=(.int .i64)) rfl (fun x=>x) (fun y=>y) (ev:=[]) (vx:=[]) rfl (fun _=>by kernel_rfl) (fun _=>by kernel_rfl) rfl rfl Q80 (fun _ _=>Qx1) (fun p w=>Any.slices_Compact_int_empty Tryz.compactInts381 p 0 w) (fun _ _ h blk cap w hH hb hc=>Qrf Tryz.compactInts381 h blk cap w hH hb hc),I6 Tryz.func381 rfl⟩
def Xa:Con:=⟨382,⟨[(0,.s 5000),(1,.f 383 (.nil))],[(5000,.row 3 (.int .i64))]⟩,[⟨[(0,.s 0)],[(0,.row 3 (.int .i64))]⟩],Qu8 (fun m=>decide (m≥1440)),[]⟩
theorem In:KO Xa:=⟨Qvd (c:=Xa) (e:=3) (u:=(.int .i64)) rfl (fun x=>x) (fun y=>y) (ev:=[⟨1,[],.f 383 .nil⟩]) (vx:=[.func (.func 383) #[] #[]]) rfl (fun _=>by kernel_rfl) (fun _=>by kernel_rfl) rfl rfl Q81 (fun _ _=>Jci) (fun p w=>Qs5 Tryz.deleteFunc382 p w) (fun _ _ h blk cap w hH hb hc=>Q17 Tryz.deleteFunc382 Tryz.zeroValue3 (enters_of Tryz.func383 (by kernel_rfl) rfl) Tryz.clo383 h blk cap w hH hb hc),I6 Tryz.func382 rfl⟩
def zs1:Shp:=sD [Kq,.i]
def zs2:Shp:=sD [.i]
def zs3:Sk:=.d .i
def zs4:Shp:=⟨[(5,zs3)],[]⟩
def zs5:Shp:=sD [.bool]
def zs6:Shp:=⟨[],[]⟩
def zs7:Sk:=.d .bool
def zs8:Exs:=[(.x 0,zs6),(.r,⟨[(4,zs7)],[]⟩)]
def zs9:Shp:=⟨[(6,zs3)],[]⟩
def Jk6:Exs:=[(.x 2,zs6),(.r,⟨[(4,zs7)],[]⟩)]
def Qnj:Shp:=⟨[(7,zs3)],[]⟩
def Jk7:Exs:=[(.x 4,zs6),(.r,⟨[(4,zs7)],[]⟩)]
def Qk3:Shp:=⟨[(8,zs3)],[]⟩
def Jq8:Exs:=[(.x 6,zs6),(.r,⟨[(4,zs7)],[]⟩)]
def Qnk:Shp:=sD [.str]
def Vo:Hn:=.n 1 .done
def Qaz:Hn:=.nl 3 Vo
def Qdi:Shp:=⟨[(3,zs3)],[]⟩
def Qri:Exs:=[(.x 0,zs6),(.r,⟨[(2,zs7)],[]⟩)]
def Jpq:Shp:=⟨[(37,zs7)],[]⟩
def Fs:Hn:=.nl 4 Vo
def Jk8:Shp:=⟨[(49,zs7)],[]⟩
def Jpr:Shp:=⟨[(48,zs7)],[]⟩
def Jps:Hn:=.nl 5 .done
def Jpt:Shp:=⟨[(55,zs7)],[]⟩
def Jg0:Shp:=⟨[(19,zs7)],[]⟩
def Qk4:Hn:=.nl 8 Vo
def Qs7:Hn:=.nl 1 Vo
def Jk9:Hn:=.nl 4 (.n 3 Qs7)
def Jla:Hn:=.call 1 Qs7
def Jg1:Hn:=.nl 2 Jla
def Jlb:Hn:=.call 2 Qs7
def Jpu:Hn:=.n 15 .done
def Jq9:Hn:=.nl 2 (.call 3 Qs7)
def Jlc:Shp:=sD [U7,.i]
def Q6l:Shp:=⟨[(4,zs3)],[]⟩
def Qs8:Exs:=[(.x 0,zs6),(.r,Q6l)]
def Jg2:Hn:=.call 0 Qs7
def Jck:Hn:=.nl 2 Vo
def Jra:HT:=.op ⟨.nl 1 .done,[],[],[],[]⟩ (.op ⟨.nl 1 .done,[],[],[],[]⟩ (.op ⟨.nl 1 .done,[],[],[],[]⟩ (.op ⟨.nl 1 .done,[],[],[],[]⟩ (.op ⟨.nl 1 .done,[],[],[],[]⟩ (.op ⟨.nl 1 .done,[],[],[],[]⟩ (.tl Jck))))))
def Jrb:HT:=.op ⟨.nl 1 .done,[],[],[],[]⟩ Jra
def Jpv:Shp:=sD [U7,Jw]
def Jld:Hn:=.nl 3 Jla
def Qs9:Hn:=.nl 5 Vo
def Jg3:Shp:=⟨[(41,zs7)],[]⟩
def Q18:Shp:=sD [.sl .str,.str]
def Jrc:Exs:=[(.n,zs6),(.r,Q6l)]
def Jrd:Exs:=[(.n,⟨[(53,zs7)],[]⟩)]
def Sy:Sk:=.s 1
def Qg9:List (Nat×Sk):=[(0,Sy)]
def Qrj:SkO:=.row 9 .str
def Q6m:Shp:=⟨Qg9,[(1,Qrj)]⟩
def Q19:Shp:=⟨[(18,zs7)],[]⟩
def Qa0:Hn:=.nl 6 Vo
def P3:Sk:=.s 100000
def Qha:Sk:=.s 100200
def Jle:List (Nat×Sk):=[(5,Qha)]
def Jpw:Exs:=[(.x 0,⟨Jle,[(100200,Qrj)]⟩)]
def Qdj:Sk:=.s 100100
def Jpx:Exs:=[(.n,⟨[(5,Qdj)],[(100100,Qrj)]⟩)]
def Jre:Shp:=sD [Vh,Jw]
def S5:Sk:=.p 100000 []
def Yd:Sk:=.d .str
def Jpy:Sk:=.d (.sl .str)
def Jpz:SkO:=.var 151 (.ag (sL [zs3,zs3,zs3,Yd,Jpy,Jpy,zs7,zs7]))
def Q2a:Sk:=.s 2
def Jcl:Sk:=.ag (sL [Sy,Q2a,.s 3])
def Q6n:SkO:=.row 94 V1
def Qta:SkO:=.row 151 Vh
def H3:SkO:=.row 3 .i
def Ln:HT:=.tl Vo
def Qb8:Sk:=.p 100100 []
def Jp0:Sk:=.p 100101 []
def Jg4:Sk:=.s 100102
def Jg5:Sk:=.s 100103
def Qk5:Sk:=.p 100200 []
def Qx2:Sk:=.s 100201
def Jlf:Sk:=.s 100202
def Jp1:Sk:=.s 100203
def Q6o:Hn:=.n 3 .done
def Qrk:HT:=.tl Q6o
def Jrf:Exs:=[(.n,⟨[(90,zs7)],[]⟩)]
def Q6p:Hn:=.n 2 .done
def Jcm:HT:=.tl Q6p
def Nh:Shp:=sD [.i,.i]
def Qnl:Sk:=.s 100001
def Jlg:Sk:=.s 100002
def Jp2:Sk:=.s 100003
def Jp3:Sk:=.ag (sL [Qnl,Jlg,Jp2])
def Jrg:Exs:=[(.x 0,zs6),(.r,⟨[(2,zs3),(3,zs3)],[]⟩)]
def Q2b:Hn:=.n 6 .done
def Qi3:Hn:=.call 0 Vo
def Jlh:Hn:=.n 5 .done
def Jg6:Hn:=.call 1 Vo
def Qnm:Exs:=[(.x 0,zs6),(.r,⟨[(2,zs3)],[]⟩)]
def Jp4:Exs:=[(.x 2,zs6),(.r,⟨[(2,zs3)],[]⟩)]
def Jg7:Hn:=.n 10 .done
def Jrh:Shp:=sD [Yp]
def Jli:Hn:=.nl 13 .done
def Jg8:Shp:=sD [.int .u8]
def Q2c:Hn:=.nl 2 Jg2
def Jg9:Shp:=⟨[(35,zs7)],[]⟩
def Jha:Exs:=[(.x 0,zs6),(.r,⟨[(6,zs7)],[]⟩)]
def Qi4:Hn:=.n 8 .done
def Jmr:Shp:=sD [.sl V9]
def Jms:Shp:=sD [.sl Vw]
def Jmt:Shp:=sD [J7,.str]
def Jmu:Shp:=sD [.sl G2]
def Q2d:Shp:=sD [J7]
def Qrl:Shp:=sD [Kq]
def Qvf:HT:=.op ⟨.nl 1 .done,[],[],[],[]⟩ Ln
def Q84:Hn:=.n 7 .done
def Jmv:Exs:=[(.n,⟨[(42,zs7)],[]⟩)]
def Jhb:List (Nat×SkO):=[(100000,H3)]
def Jmw:Shp:=⟨[(7,P3),(8,zs3)],Jhb⟩
def Jhc:Shp:=⟨[(4,zs3),(5,zs3)],[]⟩
def Q2e:Shp:=sD [Q9]
def Q2f:Shp:=sD [.sl .i,.i]
def Jhd:Shp:=⟨Qg9,[(1,H3)]⟩
def Qrm:Sk:=.s 100400
def Jhe:List (Nat×SkO):=[(100400,H3)]
def Qmr:Sk:=.s 100300
def Jhf:List (Nat×SkO):=[(100200,H3)]
def Q85:Sk:=.s 100500
def Jmx:Shp:=⟨[(0,.d (.sl .i))],[]⟩
def Jmy:Shp:=sD [Q9,.i]
def Dz:SkO:=.row 66 Q9
def Qi5:Shp:=⟨Qg9,[(1,Dz)]⟩
def Q86:List (Nat×SkO):=[(100000,Dz)]
def Jhg:List (Nat×SkO):=[(100400,Dz)]
def Jmz:HT:=.op ⟨.nl 1 .done,[],[],[],[]⟩ (.op ⟨.nl 1 .done,[],[],[],[]⟩ Jcm)
def Q87:Shp:=sD [Q9,Q9]
def Jm0:Shp:=sD [Q9,.bool]
def Jhh:Shp:=sD [Ue]
def Un:SkO:=.row 68 Yn
def Qbu:SkO:=.row 63 Vr
def Qbv:SkO:=.row 88 Yq
def Jm1:List (Nat×SkO):=[(1,Un),(2,Qbu),(3,Qbv)]
def Q2g:Shp:=⟨[(0,Jcl)],Jm1⟩
def Q88:HT:=.op ⟨.nl 1 .done,[],[],[3],[3]⟩ Ln
def Qvg:List (Nat×Sk):=[(3,Qb8)]
def Qbw:Sk:=.s 100101
def Qi6:Hn:=.n 4 .done
def Jhi:List (Nat×Sk):=[(5,P3),(10,zs3)]
def Qf9:Sk:=.p 100300 []
def Jhj:Sk:=.p 100301 []
def Q89:SkO:=.var 151 (.ag (sL [zs3,zs3,zs3,Yd,.ns,.ns,zs7,zs7]))
def Qvh:Shp:=sD [.sl Jw,.i]
def Qms:SkO:=.row 305 Vi
def Q2h:Sk:=.p 100001 []
def Jhk:Sk:=.d Vh
def Jhl:SkO:=.var 151 Jhk
def Jhm:Sk:=.p 100201 []
def Q9a:Hn:=.nl 9 Vo
def Jm2:Shp:=sD [Vi,Vi]
def Jm3:List (Nat×Sk):=[(7,P3),(13,zs3)]
def Jm4:HT:=.op ⟨.nl 1 .done,[],[],[],[]⟩ (.op ⟨.nl 1 .done,[],[],[],[]⟩ (.op ⟨.nl 1 .done,[],[],[],[]⟩ (.op ⟨.nl 1 .done,[],[],[],[]⟩ (.op ⟨.nl 1 .done,[],[],[],[]⟩ (.tl Qs7)))))
def Q9b:HT:=.op ⟨.nl 1 .done,[],[],[],[]⟩ (.op ⟨.nl 1 .done,[],[],[],[]⟩ Jm4)
def Q9c:SkO:=.row 92 Cf
def Qdk:Sk:=.d Q9
def Jhn:SkO:=.var 66 Qdk
def Q9d:Shp:=sD [.sl Jw,.i,.i]
def Jm5:SkO:=.var 92 (.ag (sL [Qdk,Yd,.ns,zs7,zs7]))
def Jho:List (Nat×Sk):=[(6,Qk5),(7,zs7)]
def Av:Sk:=.d Cf
def Q2i:SkO:=.map .i V1
def Qmt:SkO:=.map .i .bool
def Qbx:SkO:=.map .i .i
def Jm6:Sk:=.d (.sl Jw)
def Ot:SkO:=.var 3 zs3
def Gu:Sk:=.p 5000 []
def Q9e:Sk:=.m 5001
def Qvi:Sk:=.m 5002
def Q9f:Sk:=.m 5003
def Q9g:Sk:=.m 5004
def Q9h:Sk:=.m 5005
def Qi7:Sk:=.s 5006
def Qrn:Sk:=.s 5007
def Jhp:List (Nat×SkO):=[(5000,.var 379 (.ag (sL [Q9e,Qvi,Q9f,Q9g,Q9h,Qi7,Qrn]))),(5001,Q2i),(5002,.map .i Vh),(5003,Qmt),(5004,.map .str .i),(5005,Qbx),(5006,H3),(5007,H3)]
def Jhq:List (Nat×SkO):=[(5004,.map .str .i)]
def Qby:List (Nat×Sk):=[(0,Gu)]
def Jm7:Hn:=.fz 5006 (.dt 5000 .done)
def Jm8:Shp:=⟨[(0,.ag (sL [Sy,Q2a]))],[(1,Q6n),(2,Qta)]⟩
def Jhr:SkO:=.mapC .i (.sl 3 .i)
def Q2j:Sk:=.s 100301
def Jhs:Sk:=.s 100302
def Qvj:Sk:=.p 100400 []
def Q9i:Sk:=.s 100401
def Jm9:List (Nat×Sk):=[(6,S5),(15,zs3)]
def Jna:SkO:=.var 94 (.ag (sL [zs3,zs3,zs3,zs7,zs7,.ns]))
def Bz:Sk:=.d V1
def H4:Sk:=.d Vx
def B1:Sk:=.d Ue
def V8:Sk:=.d J2
def Qro:Sk:=.s 5001
def Ou:Sk:=.s 5002
def S6:Sk:=.s 5003
def Qbz:Sk:=.s 5004
def Qmu:Sk:=.s 5005
def Jnb:Sk:=.ag (sL [V8,zs3,Yd,zs3,Yd,Qrn,.s 5008,zs3,zs3,zs3,.s 5009,zs3,zs3])
def B2:SkO:=.row 135 V9
def Wz:SkO:=.row 138 Vw
def Hm:SkO:=.row 142 G3
def Fq:SkO:=.row 182 Vd
def Ub:SkO:=.row 70 Qex
def Uc:SkO:=.row 86 Li
def Uv:SkO:=.row 116 Qad
def Qi8:List (Nat×Sk):=[(0,zs3)]
def Q2k:Sk:=.ag (sL [Yd,zs3,zs7,Sy,Q2a,.s 3,.s 4])
def Jnc:Sk:=.ag (sL [V8,zs3,Yd,zs3,Yd,.s 5,.s 6,zs3,zs3,zs3,.s 7,zs3,zs3])
def Jnd:SkO:=.var 102 (.ag (sL [H4,B1,V8,.ag (sL [Qdk,Yd,Jpy,zs7,zs7]),.ag (sL [zs3,zs3,zs3,zs7,zs7,.d (.sl .i)]),Q2k,zs3,Jnc]))
def Jne:HT:=.op ⟨.nl 1 .done,[],[],[3],[3]⟩ (.op ⟨.nl 1 .done,[3],[],[],[3]⟩ Ln)
def I8:Sk:=.p 5001 []
def Qmv:Sk:=sL [Gu]
def Qmw:SkO:=.var 41 zs3
def Jnf:Shp:=sD [.sl Kp]
def Q9j:SkO:=.row 140 G2
def Q9k:SkO:=.row 180 Kq
def Jht:List (Nat×SkO):=[(1,B2),(2,Wz),(3,Hm),(4,Fq)]
def Jng:List (Nat×SkO):=[(100000,.var 100 (.ag (sL [Yd,zs3,zs7,Qnl,.ns,.ns,.ns]))),(100001,B2)]
def Jnh:Exs:=[(.x 0,⟨Qvg,[(100100,.var 100 (.ag (sL [Yd,zs3,zs7,Qbw,.ns,.ns,.ns]))),(100101,B2)]⟩)]
def Jni:List (Nat×SkO):=[(100200,.var 100 (.ag (sL [Yd,zs3,zs7,Qx2,Jlf,.ns,.ns]))),(100201,B2),(100202,Wz)]
def Jnj:Exs:=[(.x 2,⟨[(3,Qf9)],[(100300,.var 100 (.ag (sL [Yd,zs3,zs7,Q2j,Jhs,.ns,.ns]))),(100301,B2),(100302,Wz)]⟩)]
def Jnk:List (Nat×SkO):=[(100400,.var 100 (.ag (sL [Yd,zs3,zs7,Q9i,.s 100402,.s 100403,.ns]))),(100401,B2),(100402,Wz),(100403,Hm)]
def Jnl:List (Nat×Sk):=[(3,.p 100500 [])]
def Jhu:Sk:=.s 100501
def Jnm:Exs:=[(.x 4,⟨Jnl,[(100500,.var 100 (.ag (sL [Yd,zs3,zs7,Jhu,.s 100502,.s 100503,.ns]))),(100501,B2),(100502,Wz),(100503,Hm)]⟩)]
def Jhv:Sk:=.s 100601
def Jnn:List (Nat×SkO):=[(100600,.var 100 (.ag (sL [Yd,zs3,zs7,Jhv,.s 100602,.s 100603,.s 100604]))),(100601,B2),(100602,Wz),(100603,Hm),(100604,Fq)]
def Jno:List (Nat×Sk):=[(3,.p 100700 [])]
def Jhw:Sk:=.s 100701
def Jnp:Exs:=[(.x 6,⟨Jno,[(100700,.var 100 (.ag (sL [Yd,zs3,zs7,Jhw,.s 100702,.s 100703,.s 100704]))),(100701,B2),(100702,Wz),(100703,Hm),(100704,Fq)]⟩)]
def Jhx:Exs:=[(.n,Qk3)]
def Jnq:List (Nat×SkO):=[(5000,.var 135 (.d V9))]
def Qmx:Sk:=.d (.sl V9)
def Jnr:Shp:=⟨[(0,Qmx),(1,.f 241 Qmv)],Jnq⟩
def Qvk:SkO:=.map .str .str
def Q9l:Sk:=.m 100000
def Q9m:Sk:=.m 100100
def Q2l:Hn:=.nl 1 Jla
def Jns:An:=.two (.reg Q6p) .nil
def Jhy:Sk:=.ag (sL [V8,zs3,Yd,zs3,Yd,Qmu,Qi7,zs3,zs3,zs3,Qrn,zs3,zs3])
def Jnt:Sk:=.ag (sL [V8,zs3,Yd,zs3,Yd,.s 4,.s 5,zs3,zs3,zs3,.s 6,zs3,zs3])
def Jhz:SkO:=.var 102 (.ag (sL [H4,B1,V8,Av,Bz,.ag (sL [Yd,zs3,zs7,Qmx,Sy,Q2a,.s 3]),zs3,Jnt]))
def Jnu:Shp:=sD [.sl Yn]
def Jnv:HT:=.op ⟨.nl 1 .done,[],[],[],[1]⟩ (.op ⟨.nl 1 .done,[],[1],[],[]⟩ Qrk)
def Jh0:Shp:=⟨[(11,zs3)],[]⟩
def Jnw:Shp:=⟨[(0,.m 1)],[(1,Qbx)]⟩
def Qi9:Hn:=.nl 7 Vo
def Q9n:Shp:=sD [.i,.i,.i]
def Qmy:Shp:=sD [Vr,.i]
def Q2m:SkO:=.var 63 (.d Vr)
def Jh1:Hn:=.n 2 (.call 4 .done)
def Q9o:Shp:=sD [Yn]
def Jh2:Shp:=⟨[(0,.ag (sL [zs3,zs3,Yd,zs3,zs3,Sy,Qdk,zs3,zs3,zs3,zs7]))],[(1,Qrj)]⟩
def Qrp:Shp:=⟨[(9,zs3)],[]⟩
def Q2n:SkO:=.var 9 Yd
def Q9p:Sk:=.d (.sl Q9)
def Jnx:Exs:=[(.x 0,⟨[(7,Qha)],[(100200,Dz)]⟩)]
def Jny:Exs:=[(.n,⟨[(7,Qdj)],[(100100,Dz)]⟩)]
def Q9q:SkO:=.row 245 Uf
def Qvl:SkO:=.mapC .str (.mp .i .bool)
def Jh3:Shp:=⟨[(25,zs7)],[]⟩
def Jh4:Hn:=.nl 1 Qi3
def Q9r:SkO:=.var 393 (.d Qey)
def Qmz:SkO:=.row 415 Vy
def Jnz:Shp:=⟨[(0,Q9p),(1,zs3),(2,Gu)],[(5000,.var 413 Qro),(5001,Qmz)]⟩
def Jn0:Shp:=⟨[],[(5000,.var 413 Sy),(1,Qmz)]⟩
def Q9s:SkO:=.var 264 (.d (.arr 2 .i))
def Jn1:List (Nat×SkO):=[(5000,Q2n),(5001,Ot)]
def Qja:SkO:=.row 108 Yp
def Qvm:SkO:=.row 110 K8
def Q9t:SkO:=.row 249 Eb
def Q9u:Shp:=sD [Yn,Yn]
def Qb0:SkO:=.map Ux .bool
def Jn2:HT:=.op ⟨.call 0 .done,[],[],[],[]⟩ Ln
def Jn3:HT:=.op ⟨.nl 1 .done,[],[],[],[]⟩ (.op ⟨.nl 1 .done,[],[],[],[]⟩ (.op ⟨.nl 1 .done,[],[],[],[]⟩ (.op ⟨.nl 1 .done,[],[],[],[]⟩ (.op ⟨.nl 1 .done,[],[],[],[]⟩ (.op ⟨.nl 1 .done,[],[],[],[]⟩ (.op ⟨.nl 1 .done,[],[],[],[]⟩ (.op ⟨.nl 1 .done,[],[],[],[]⟩ (.op ⟨.nl 1 .done,[],[],[],[]⟩ (.op ⟨.nl 1 .done,[],[],[],[]⟩ (.op ⟨.nl 1 .done,[],[],[],[]⟩ (.op ⟨.nl 1 .done,[],[],[],[]⟩ (.op ⟨.nl 1 .done,[],[],[],[]⟩ (.op ⟨.nl 1 .done,[],[],[],[]⟩ (.tl Qaz))))))))))))))
def Jn4:List (Nat×SkO):=[(5000,.var 138 (.d Vw))]
def Jn5:Sk:=.d (.sl Vw)
def Jn6:Shp:=⟨[(0,Jn5),(1,.f 271 Qmv)],Jn4⟩
def Jn7:List (Nat×SkO):=[(5000,Ot),(5001,Ot)]
def Jn8:Shp:=⟨[(0,.d (.sl Kp)),(1,.f 273 (sL [Gu,I8]))],Jn7⟩
def Qvn:SkO:=.row 343 Qgx
def Jn9:SkO:=.var 142 (.ag (sL [zs3,Yd,Yd,zs3,.ns]))
def Jh5:List (Nat×SkO):=[(5000,Q9j)]
def Qrq:Shp:=sD [.i,.bool]
def Joa:Shp:=sD [J7,.sl .i,J2,.i]
def Job:List (Nat×Sk):=[(0,Sy),(1,zs3),(2,zs3)]
def Joc:HT:=.op ⟨.nl 1 .done,[],[],[],[]⟩ (.op ⟨.nl 1 .done,[],[],[],[]⟩ (.op ⟨.nl 1 .done,[],[],[],[]⟩ Qvf))
def Qvo:Sk:=.d J7
def Jod:SkO:=.var 102 (.ag (sL [H4,Jcl,V8,Av,Bz,Qvo,zs3,Jnt]))
def Joe:Sk:=.d (.sl Yq)
def Q9v:Sk:=.ag (sL [.d (.sl Yn),.d (.sl Vr),Joe])
def Q9w:Sk:=.ag (sL [V8,zs3,Yd,zs3,Yd,Sy,Q2a,zs3,zs3,zs3,.s 3,zs3,zs3])
def Jh6:Shp:=⟨Qby,[(5000,.var 102 (.ag (sL [H4,B1,V8,Av,Bz,Qvo,zs3,.ag (sL [V8,zs3,Yd,zs3,Yd,Qro,Ou,zs3,zs3,zs3,S6,zs3,zs3])]))),(5001,Ub),(5002,Uc),(5003,Uv)]⟩
def Jh7:Hn:=.call 0 Q6p
def Jh8:Shp:=sD [Yq]
def Q2o:SkO:=.var 88 (.d Yq)
def Jof:SkO:=.var 172 (.d Sa)
def Jog:Shp:=⟨[(0,zs3),(1,Gu),(2,I8)],[(5000,.var 180 (.d Kq)),(5001,Jof)]⟩
def Q2p:Shp:=sD [Kq,Sa]
def Joh:HT:=.op ⟨.nl 1 .done,[],[],[],[2]⟩ (.op ⟨.nl 1 .done,[],[2],[],[]⟩ (.op ⟨.nl 1 .done,[],[],[],[]⟩ (.op ⟨.nl 1 .done,[],[],[],[]⟩ (.op ⟨.nl 1 .done,[],[3],[],[]⟩ (.op ⟨.call 2 .done,[],[],[],[]⟩ Joc)))))
def Joi:Shp:=⟨[(8,zs3),(9,zs3)],[]⟩
def Jh9:SkO:=.var 102 (.ag (sL [H4,B1,V8,Av,Bz,Qvo,zs3,Q9w]))
def Joj:Shp:=⟨Qby,[(5000,.var 90 I8),(5001,.var 102 (.ag (sL [H4,B1,V8,Av,Bz,Qvo,zs3,.ag (sL [V8,zs3,Yd,zs3,Yd,Ou,S6,zs3,zs3,zs3,Qbz,zs3,zs3])]))),(5002,Ub),(5003,Uc),(5004,Uv)]⟩
def Jok:Shp:=⟨Qi8,[(5001,Jh9),(1,Ub),(2,Uc),(3,Uv)]⟩
def Jol:List (Nat×SkO):=[(5000,.var 90 I8),(5001,.var 102 (.ag (sL [H4,B1,V8,Av,Bz,Qvo,zs3,.ag (sL [V8,zs3,Yd,zs3,Yd,Ou,S6,zs3,zs3,zs3,Qbz,zs3,zs3])]))),(5002,Ub),(5003,Uc),(5004,Uv),(5005,Qmw)]
def Jom:Shp:=⟨[],[(5001,Jh9),(5005,Qmw),(1,Ub),(2,Uc),(3,Uv)]⟩
def Jia:List (Nat×Sk):=[(3,S5),(4,zs3)]
def Qrr:SkO:=.row 144 Jw
def Qrs:SkO:=.row 100 J7
def Qrt:SkO:=.row 209 Dc
def Jib:SkO:=.row 113 V4
def Jon:Shp:=sD [Vx,.sl J2,.i]
def Joo:Shp:=sD [.sl J2]
def Jop:Sk:=.d (.sl J2)
def Qm0:SkO:=.row 40 J2
def Joq:HT:=.op ⟨.nl 1 .done,[],[],[],[]⟩ (.op ⟨.nl 1 .done,[],[],[],[]⟩ (.op ⟨.nl 1 .done,[],[],[],[]⟩ (.op ⟨.nl 1 .done,[],[],[],[]⟩ (.op ⟨.nl 1 .done,[],[],[],[]⟩ (.op ⟨.nl 1 .done,[],[],[],[]⟩ (.op ⟨.nl 1 .done,[],[],[],[]⟩ (.tl Fs)))))))
def Jic:SkO:=.row 46 Xd
def Jor:Shp:=⟨[(0,B1),(1,Sy)],[(1,Jic)]⟩
def H5(N n:Nat):Con:=⟨128,zs1,[zs2],fun(x0,x1)=>Yh N n x0 x1,[]⟩
theorem Fr(N:Nat):∀n,KO (H5 N n)
 | 0=>⟨F4 fun _=>rfl,I6 Tryz.func128 rfl⟩
 | n+1=>have ih:=Fr N n; kF N [fun _=>⟨_,ih⟩] [(16,.lp [1,2] [2] ⟨[(5,zs3),(6,zs3)],[]⟩ [(.x 0,zs4)])] Tryz.func128
def Qdl(N:Nat):V:=⟨H5 N N,Fr N N⟩
def Qdm(N:Nat):V:=⟨⟨74,(sD [J7,.i]),[zs5],fun(x0,x1)=>Ek N x0 x1,[]⟩,kF N [Qdl] [(14,.lp [1,2] [2] zs4 zs8),(35,.lp [1,2] [2] zs9 Jk6),(56,.lp [1,2] [2] Qnj Jk7),(77,.lp [1,2] [2] Qk3 Jq8)] Tryz.func74⟩
def I9(N:Nat):V:=⟨⟨215,zs2,[(sD [.arr 5 .bool])],Wj N,[]⟩,kF N [] [(25,.jn [2,3] [2] [(.n,⟨[(13,zs7)],[]⟩)]),(35,.jn [2,3] [2] [(.n,⟨[(17,zs7)],[]⟩)]),(49,.jn [2] [2] [(.n,⟨[(22,zs7)],[]⟩)])] Tryz.func215⟩
def Qjb(N:Nat):V:=⟨⟨311,zs2,[zs5],Ec N,[]⟩,kF N [] [] Tryz.func311⟩
def Kh(N:Nat):V:=⟨⟨134,Qnk,[zs5],Vj N,[]⟩,kF N [] [(4,.rg (.n 9 (.sp 12 4 [0] [] ⟨[(16,zs7)],[]⟩ Qaz Qaz (.n 1 (.sp 17 4 [0] [] ⟨[(21,zs7)],[]⟩ Qaz Qaz .done))))),(14,.lp [0] [] Qdi Qri),(24,.rg (.n 5 (.sp 32 5 [3] [] Jpq Fs Fs (.n 1 (.sp 38 11 [3] [] Jk8 (.nl 5 (.sp 43 5 [3,38] [] Jpr Jps Jps Vo)) (.nl 10 Vo) (.n 1 (.sp 50 5 [3] [] Jpt Fs Fs .done)))))))] Tryz.func134⟩
def D0(N:Nat):V:=⟨⟨184,Qnk,[zs5],Xe N,[]⟩,kF N [] [(6,.lp [0] [] Qdi Qri),(16,.rg (.n 5 (.sp 14 5 [3] [] Jg0 Fs Fs .done)))] Tryz.func184⟩
def Qdn(N:Nat):V:=⟨⟨312,(sD [Jw]),[zs5],El N,[]⟩,kF N [] [] Tryz.func312⟩
def Qe9(N:Nat):V:=⟨⟨214,(sD [Jw,.i]),[zs2],fun(x0,x1)=>F7 N x0 x1,[]⟩,kF N [I9,Qjb,Kh,D0,Qdn] [(30,.rg (.n 9 (.sp 37 9 [2,5] [2,5] ⟨[(46,zs7)],[]⟩ Qk4 Jk9 (.n 1 (.sp 47 9 [2,5] [2,5] ⟨[(56,zs7)],[]⟩ Qk4 Jk9 (.n 1 (.sp 57 9 [2,5] [2,5] ⟨[(66,zs7)],[]⟩ Qk4 Jk9 (.n 1 (.sp 67 9 [2,5] [2,5] ⟨[(76,zs7)],[]⟩ Qk4 Jk9 .done))))))))),(38,.rg (.n 3 (.sp 79 5 [2,5] [2,5] ⟨[(84,zs7)],[]⟩ Jg1 Fs (.n 1 (.sp 85 9 [2,5] [2,5] ⟨[(94,zs7)],[]⟩ Qk4 (.nl 3 (.sp 88 5 [2,5,85] [] ⟨[(93,zs7)],[]⟩ (.nl 2 (.call 1 (.nl 2 .done))) Jps Vo)) .done))))),(46,.rg (.n 3 (.sp 97 5 [2,5] [2,5] ⟨[(102,zs7)],[]⟩ (.nl 2 Jlb) Fs Jpu))),(54,.rg (.n 3 (.sp 120 5 [2,5] [2,5] ⟨[(125,zs7)],[]⟩ Jq9 Fs .done))),(62,.rg (.n 3 (.sp 128 4 [2] [2,5] ⟨[(132,zs7)],[]⟩ (.nl 1 (.call 4 Qs7)) Qaz .done)))] Tryz.func214⟩
def Ho(N:Nat):V:=⟨⟨218,Jlc,[zs2],fun(x0,x1)=>Ua N x0 x1,[]⟩,kF N [] [(6,.lp [1,2] [2] zs4 Qs8)] Tryz.func218⟩
def We(N:Nat):V:=⟨⟨180,Jlc,[zs2],fun(x0,x1)=>Ul N x0 x1,[]⟩,kF N [] [(6,.lp [1,2] [2] zs4 Qs8)] Tryz.func180⟩
def D1(N:Nat):V:=⟨⟨181,Jlc,[zs5],fun(x0,x1)=>Xf N x0 x1,[]⟩,kF N [] [(6,.lp [1,2] [2] zs4 zs8)] Tryz.func181⟩
def Qfa(N:Nat):V:=⟨⟨313,Jlc,[zs5],fun(x0,x1)=>F9 N x0 x1,[]⟩,kF N [D1] [(6,.lp [1,2] [2] zs4 zs8),(16,.jn [5] [] [(.n,⟨[(31,zs7)],[]⟩)]),(16,.an (.dc 16 [13,14,15,16,17,18,19,20,21,22,23,24,25,26,27,28] [] [2] (.op ⟨.nl 1 .done,[],[],[],[2]⟩ (.op ⟨.nl 1 .done,[],[2],[],[]⟩ (.op ⟨.nl 1 .done,[],[],[],[]⟩ (.op ⟨.nl 1 .done,[],[],[],[]⟩ (.op ⟨.nl 1 .done,[],[],[],[]⟩ (.op ⟨.nl 1 .done,[],[],[],[]⟩ (.op ⟨.nl 1 .done,[],[],[],[]⟩ (.op ⟨.nl 1 .done,[],[],[],[]⟩ (.op ⟨.nl 1 .done,[],[],[],[]⟩ (.so 21 (.op ⟨.nl 1 .done,[],[2],[],[]⟩ (.op ⟨.nl 1 .done,[],[],[],[2]⟩ (.op ⟨.nl 1 .done,[],[2],[],[]⟩ (.op ⟨.nl 1 .done,[],[],[],[]⟩ (.op ⟨.nl 1 .done,[],[],[],[]⟩ (.op ⟨.nl 1 .done,[],[],[],[]⟩ (.op ⟨.nl 1 .done,[],[],[],[]⟩ (.tl Jg2)))))))) Jrb))))))))))))] Tryz.func313⟩
def P4(N:Nat):V:=⟨⟨216,Jpv,[zs2],fun(x0,x1)=>Xg N x0 x1,[]⟩,kF N [Ho,We,Qfa] [(38,.rg (.n 4 (.sp 26 6 [2,3,5] [2,3] ⟨[(32,zs7)],[]⟩ Jld Qs9 .done))),(46,.rg (.n 4 (.sp 36 5 [2,3,5] [2,3] Jg3 (.nl 3 (.call 2 Vo)) Fs (.n 1 (.sp 42 13 [2,3,5] [2,3] Jpt (.nl 12 Vo) (.nl 4 (.sp 46 8 [2,5,42] [] ⟨[(54,zs7)],[]⟩ (.nl 8 .done) (.nl 8 .done) Vo)) .done)))))] Tryz.func216⟩
def Ni(N:Nat):V:=⟨⟨315,Q18,[zs5],fun(x0,x1)=>Uy N x0 x1,[]⟩,kF N [] [(6,.lp [0,1] [] zs4 zs8)] Tryz.func315⟩
def Qdo(N:Nat):V:=⟨⟨314,(sD [U7,.str]),[zs5],fun(x0,x1)=>Em N x0 x1,[]⟩,kF N [Ni] [(6,.lp [1,2] [2] zs4 zs8)] Tryz.func314⟩
def Qdp(N:Nat):V:=⟨⟨217,Jpv,[zs2],fun(x0,x1)=>Eo N x0 x1,[]⟩,kF N [We,D1,Qdo,Ni] [(23,.jn [] [2,3,6] Jrc),(67,.jn [3,6,23] [] Jrd),(81,.jn [3,6] [] [(.n,⟨[(62,zs7)],[]⟩)])] Tryz.func217⟩
def Qdq(N:Nat):V:=⟨⟨129,(sD [U7,Jw,.i]),[zs2],fun(x0,x1,x2)=>Ep N x0 x1 x2,[]⟩,kF N [Qe9,I9,P4,Qdp] [] Tryz.func129⟩
def Qfb(N:Nat):V:=⟨⟨316,Q18,[Q6m],fun(x0,x1)=>Wk N x0 x1,[]⟩,kF N [] [(6,.lp [0,1] [] zs4 [(.x 0,zs4)]),(9,.rg (.n 5 (.sp 11 7 [5] [] Q19 Qa0 Qa0 .done)))] Tryz.func316⟩
def Qa1(N:Nat):V:=⟨⟨317,Q18,[Q6m],fun(x0,x1)=>Z4 N x0 x1,[]⟩,kF N [] [(8,.lp [0,1] [] ⟨[(5,P3),(6,zs3)],[(100000,Qrj)]⟩ Jpw),(16,.jn [6] [] Jpx)] Tryz.func317⟩
def Qa2(N:Nat):V:=⟨⟨219,Jre,[(sD [Vh])],fun(x0,x1)=>Gg N x0 x1,[]⟩,kF N [Qfb,Qa1] [(3,.jn [4] [3,4] [(.n,⟨[(2,S5)],[(100000,Jpz)]⟩)])] Tryz.func219⟩
def Qdr(N:Nat):V:=⟨⟨130,Jpv,[⟨[(0,Jcl)],[(1,Q6n),(2,Qta),(3,H3)]⟩],fun(x0,x1)=>Er N x0 x1,[]⟩,kF N [Ho,We,Qa2] [(3,.an (.dc 14 [7,8,9,10,11,12,13,14,15,16,17,18,19,5] [2] [] (.op ⟨.nl 1 .done,[],[],[7],[7]⟩ (.op ⟨.nl 1 .done,[],[],[],[2]⟩ (.op ⟨.nl 1 .done,[],[2],[],[]⟩ (.op ⟨.nl 1 .done,[7],[],[10],[10]⟩ (.op ⟨.nl 1 .done,[],[],[11],[11]⟩ (.op ⟨.nl 1 .done,[],[],[],[2]⟩ (.op ⟨.nl 1 .done,[],[2],[],[]⟩ (.op ⟨.nl 1 .done,[11],[],[14],[14]⟩ (.op ⟨.nl 1 .done,[],[],[15],[15]⟩ (.op ⟨.nl 1 .done,[],[],[],[2]⟩ (.op ⟨.nl 1 .done,[],[2],[],[]⟩ (.op ⟨.nl 1 .done,[15],[],[18],[18]⟩ (.op ⟨.nl 1 .done,[],[],[],[10,14,18]⟩ (.op ⟨.nl 1 .done,[],[],[5],[5]⟩ Ln)))))))))))))))),(5,.jn [] [2,3] [(.n,⟨[(4,Qb8),(5,Jp0)],[(100100,.var 202 (.ag (sL [.ns,.ns,.ns]))),(100101,.var 202 (.ag (sL [Jg4,Jg5,.s 100104]))),(100102,Q6n),(100103,Qta),(100104,H3)]⟩),(.r,⟨[(4,Qk5)],[(100200,.var 202 (.ag (sL [Qx2,Jlf,Jp1]))),(100201,Q6n),(100202,Qta),(100203,H3)]⟩)]),(15,.an (.dc 6 [66,67,68,69,70,71] [5] [2,3] (.op ⟨.nl 1 .done,[],[],[],[5]⟩ (.op ⟨.nl 1 .done,[],[5],[],[10]⟩ (.op ⟨.nl 1 .done,[],[2],[],[]⟩ (.op ⟨.nl 1 .done,[],[],[],[3]⟩ (.op ⟨.nl 1 .done,[],[3],[],[]⟩ (.op ⟨.call 0 .done,[],[],[],[]⟩ Qrk)))))))),(21,.jn [2,3,4,5] [4,5,10,14,18] Jrf),(33,.an (.dc 10 [26,27,28,29,30,31,32,33,34,35] [5,14] [3] (.op ⟨.nl 1 .done,[],[],[],[5]⟩ (.op ⟨.nl 1 .done,[],[5],[],[14]⟩ (.op ⟨.nl 1 .done,[],[],[],[]⟩ (.op ⟨.nl 1 .done,[],[],[],[5]⟩ (.op ⟨.nl 1 .done,[],[5],[],[14]⟩ (.op ⟨.nl 1 .done,[],[],[],[]⟩ (.op ⟨.nl 1 .done,[],[14],[],[14]⟩ (.op ⟨.nl 1 .done,[],[14],[],[]⟩ (.op ⟨.nl 1 .done,[],[3],[],[]⟩ (.op ⟨.call 2 .done,[],[],[],[]⟩ Jcm))))))))))))] Tryz.func130⟩
def Qds(N:Nat):V:=⟨⟨75,(sD [.sl Jw]),[Nh],Es N,[]⟩,kF N [Qdq,Qdr] [(18,.lp [0] [] ⟨[(4,S5),(5,zs3),(6,zs3)],[(100000,.var 202 Jp3),(100001,Q6n),(100002,Qta),(100003,H3)]⟩ Jrg),(28,.an (.dr 6 Q2b Qi3)),(38,.an (.dr 5 Jlh Jg6))] Tryz.func75⟩
def Qdt(N:Nat):V:=⟨⟨318,(sD [.sl .str]),[zs2],Et N,[]⟩,kF N [Kh] [(14,.lp [0] [] Qdi Qnm),(35,.lp [0] [] Q6l Jp4),(45,.an (.dr 10 Jg7 .done))] Tryz.func318⟩
def Qb9(N:Nat):V:=⟨⟨220,(sD [K8]),[zs2],Hq N,[]⟩,kF N [Qdt] [] Tryz.func220⟩
def Qhb(N:Nat):V:=⟨⟨131,Jrh,[zs2],Cg N,[]⟩,kF N [Kh,Qb9] [(46,.lp [1] [1] Qdi Qnm)] Tryz.func131⟩
def Qdu(N:Nat):V:=⟨⟨76,(sD [.sl Yp]),[zs2],Eu N,[]⟩,kF N [Qhb] [(14,.lp [0] [] Qdi Qnm),(34,.an (.dr 44 (.n 3 (.sp 24 41 [3] [] ⟨[(65,zs7)],[]⟩ (.nl 13 (.sp 37 27 [3,24] [] ⟨[(64,zs7)],[]⟩ (.nl 27 .done) (.nl 13 (.sp 50 13 [3,24,37] [] ⟨[(63,zs7)],[]⟩ Jli Jli (.nl 1 .done))) Vo)) (.nl 40 Vo) .done)) .done))] Tryz.func76⟩
def Qdv(N:Nat):V:=⟨⟨319,Jg8,[zs5],Xh N,[]⟩,kF N [] [] Tryz.func319⟩
def Qdw(N:Nat):V:=⟨⟨320,Jg8,[zs5],Ev N,[]⟩,kF N [] [] Tryz.func320⟩
def La(N:Nat):V:=⟨⟨221,Qnk,[zs5],Wl N,[]⟩,kF N [Qdv,Qdw] [(4,.rg (.n 9 (.sp 12 5 [0] [] ⟨[(17,zs7)],[]⟩ Fs Q2c .done))),(14,.lp [0] [] Qdi Qri),(24,.rg (.n 3 (.call 0 (.n 2 (.sp 29 6 [3] [] Jg9 Jld Qs9 (.n 1 (.sp 36 5 [3] [] Jg3 Fs Fs .done)))))))] Tryz.func221⟩
def Lb(N:Nat):V:=⟨⟨303,Qnk,[zs5],Wm N,[]⟩,kF N [] [(4,.rg (.n 9 (.sp 14 4 [0] [] Q19 Qaz Qaz (.n 1 (.sp 19 4 [0] [] ⟨[(23,zs7)],[]⟩ Qaz Qaz .done))))),(14,.lp [0] [] Qdi Qri),(24,.an (.dr 22 (.n 5 (.sp 34 5 [3] [] ⟨[(39,zs7)],[]⟩ Fs Fs (.n 5 (.sp 44 5 [3,39] [] Jk8 Fs Fs Q6p)))) .done)),(26,.rg (.n 7 (.sp 56 5 [3] [] ⟨[(61,zs7)],[]⟩ Fs Fs .done)))] Tryz.func303⟩
def Qa3(N:Nat):V:=⟨⟨351,(sD [.sl V9,.i,.i]),[zs5],fun(x0,x1,x2)=>Gh N x0 x1 x2,[]⟩,kF N [] [(6,.lp [0,1,2] [] Qnj Jha),(18,.lp [7] [] Qk3 [(.x 2,zs6),(.r,⟨[(6,zs7)],[]⟩)]),(34,.an (.dr 17 (.n 17 .done) .done))] Tryz.func351⟩
def Qfc(N:Nat):V:=⟨⟨281,(sD [.sl V9,.i]),[zs2],fun(x0,x1)=>Aa N x0 x1,[]⟩,kF N [Lb,D0,Qa3] [(16,.lp [0,1,5] [5] zs9 Qs8),(26,.an (.dr 8 Qi4 .done)),(53,.lp [0,1,5] [5] Qnj [(.x 2,zs6),(.r,Q6l)])] Tryz.func281⟩
def Qdx(N:Nat):V:=⟨⟨183,Jmr,[zs2],Ew N,[]⟩,kF N [Qfc] [(14,.lp [0] [] Qdi Qnm)] Tryz.func183⟩
def Qdy(N:Nat):V:=⟨⟨304,(sD [.sl Kp,.bool]),[zs2],fun(x0,x1)=>Ey N x0 x1,[]⟩,kF N [] [(38,.lp [0] [] zs4 Qs8)] Tryz.func304⟩
def Qdz(N:Nat):V:=⟨⟨204,Jms,[zs2],Ez N,[]⟩,kF N [Lb,Qdy] [(22,.lp [0] [] Qdi Qnm),(43,.lp [3] [] Q6l Jp4),(53,.an (.dr 11 (.n 11 .done) .done))] Tryz.func204⟩
def Qfd(N:Nat):V:=⟨⟨321,Jmt,[zs5],fun(x0,x1)=>Ab N x0 x1,[]⟩,kF N [] [(6,.lp [1,2] [2] zs4 zs8)] Tryz.func321⟩
def Qfe(N:Nat):V:=⟨⟨322,Jmt,[zs5],fun(x0,x1)=>Ac N x0 x1,[]⟩,kF N [] [(6,.lp [1,2] [2] zs4 zs8)] Tryz.func322⟩
def D2(N:Nat):V:=⟨⟨136,Jmu,[zs2],Xi N,[]⟩,kF N [] [(24,.lp [0] [] ⟨[(3,zs3),(4,zs3)],[]⟩ Qnm)] Tryz.func136⟩
def Qd0(N:Nat):V:=⟨⟨222,Q2d,[zs2],E0 N,[]⟩,kF N [Qfd,Qfe,D2] [(14,.lp [1] [1] Qdi Qnm),(35,.rg (.n 3 (.call 0 (.n 2 (.sp 35 6 [3,4] [4] Jg3 Qs9 Jld .done)))))] Tryz.func222⟩
def Qd1(N:Nat):V:=⟨⟨409,zs2,[zs2],E1 N,[]⟩,kF N [] [] Tryz.func409⟩
def Qhc(N:Nat):V:=⟨⟨434,Q18,[zs5],fun(x0,x1)=>G4 N x0 x1,[]⟩,kF N [] [(6,.lp [0,1] [] zs4 zs8)] Tryz.func434⟩
def H6(N:Nat):V:=⟨⟨410,Qnk,[zs2],Uo N,[]⟩,kF N [Qhc] [] Tryz.func410⟩
def Qhd(N:Nat):V:=⟨⟨392,Qrl,[zs2],Ch N,[]⟩,kF N [Qd1,H6] [(4,.an (.dc 6 [3,4,5,6,7,8] [1] [] (.op ⟨.nl 1 .done,[],[],[],[1]⟩ (.op ⟨.nl 1 .done,[],[1],[],[]⟩ (.op ⟨.call 0 .done,[],[],[],[]⟩ (.op ⟨.nl 1 .done,[],[],[],[1]⟩ (.op ⟨.nl 1 .done,[],[1],[],[]⟩ Qvf))))))),(28,.rg (.n 4 (.sp 35 5 [1] [1] ⟨[(40,zs7)],[]⟩ Jg1 Fs .done)))] Tryz.func392⟩
def Qca(N:Nat):V:=⟨⟨393,(sD [Kq,.sl .i]),[zs2],fun(x0,x1)=>Hr N x0 x1,[]⟩,kF N [H6] [(41,.an (.dr 7 Q84 .done)),(48,.jn [] [2] Jrc),(52,.jn [1,30] [] [(.n,Jg9)]),(66,.jn [1,30] [] Jmv),(80,.jn [1] [] [(.n,Jk8)])] Tryz.func393⟩
def B3(N n:Nat):Con:=⟨364,zs1,[Nh],fun(x0,x1)=>Vk N n x0 x1,[]⟩
theorem D3(N:Nat):∀n,KO (B3 N n)
 | 0=>⟨F4 fun _=>rfl,I6 Tryz.func364 rfl⟩
 | n+1=>have ih:=D3 N n; kF N [Qhd,fun _=>⟨_,ih⟩,Qca] [(26,.lp [1,2] [2] Jmw [(.x 0,⟨[(7,Qdj)],[(100100,H3)]⟩),(.r,Jhc)])] Tryz.func364
def Qjc(N:Nat):V:=⟨B3 N N,D3 N N⟩
def Qff(N:Nat):V:=⟨⟨306,Qrl,[Nh],Ad N,[]⟩,kF N [Qjc] [] Tryz.func306⟩
def P5(N:Nat):V:=⟨⟨223,Q2d,[zs2],Xj N,[]⟩,kF N [La,Qff] [(14,.lp [1] [1] Qdi Qnm),(37,.lp [3,4] [4] zs4 Jp4),(47,.an (.dr 9 (.n 9 .done) .done))] Tryz.func223⟩
def Qcb(N:Nat):V:=⟨⟨132,Q2d,[zs2],Hs N,[]⟩,kF N [La,Qdx,Qdz,Qd0,P5] [(21,.jn [1] [1] [(.n,Qdi)]),(27,.jn [1] [1] [(.n,Qdi)]),(33,.jn [] [1] [(.n,Qdi)])] Tryz.func132⟩
def Qd2(N:Nat):V:=⟨⟨133,(sD [J7,J7]),[zs2],fun(x0,x1)=>E2 N x0 x1,[]⟩,kF N [] [] Tryz.func133⟩
def Qd3(N:Nat):V:=⟨⟨77,(sD [.sl J7]),[zs2],E3 N,[]⟩,kF N [Qcb,Qd2] [(14,.lp [0] [] Qdi Qnm),(34,.jn [3] [] [(.n,⟨[(36,zs7)],[]⟩)]),(34,.an (.dc 12 [22,23,24,25,26,27,28,29,30,31,32,33] [] [] (.op ⟨.nl 1 .done,[],[],[],[]⟩ (.op ⟨.nl 1 .done,[],[],[],[]⟩ (.op ⟨.nl 1 .done,[],[],[],[]⟩ (.so 24 (.op ⟨.nl 1 .done,[],[],[],[]⟩ (.op ⟨.nl 1 .done,[],[],[],[]⟩ (.op ⟨.nl 1 .done,[],[],[],[]⟩ (.op ⟨.nl 1 .done,[],[],[],[]⟩ (.op ⟨.nl 1 .done,[],[],[],[]⟩ (.op ⟨.nl 1 .done,[],[],[],[]⟩ (.op ⟨.nl 1 .done,[],[],[],[]⟩ (.op ⟨.nl 1 .done,[],[],[],[]⟩ (.op ⟨.nl 1 .done,[],[],[],[]⟩ (.tl Jla)))))))))) (.op ⟨.nl 1 .done,[],[],[],[]⟩ (.op ⟨.nl 1 .done,[],[],[],[]⟩ Jrb))))))))] Tryz.func77⟩
def Qd4(N:Nat):V:=⟨⟨78,(sD [.sl Dc]),[zs5],E4 N,[]⟩,kF N [Kh] [(6,.lp [0] [] Qdi Qri),(26,.an (.dr 35 (.n 3 (.sp 41 32 [3,4] [4] ⟨[(73,zs7)],[]⟩ (.nl 10 (.sp 51 21 [3,4,41] [] ⟨[(72,zs7)],[]⟩ (.nl 21 .done) (.nl 10 (.sp 61 10 [3,4,41,51] [] ⟨[(71,zs7)],[]⟩ (.nl 10 .done) (.nl 10 .done) (.nl 1 .done))) Vo)) (.nl 31 Vo) .done)) .done))] Tryz.func78⟩
def Gv(N:Nat):V:=⟨⟨135,Q2e,[zs5],U8 N,[]⟩,kF N [] [] Tryz.func135⟩
def Qhe(N:Nat):V:=⟨⟨397,Q2f,[Jhd],fun(x0,x1)=>G5 N x0 x1,[]⟩,kF N [] [(10,.lp [0,1] [] ⟨[(5,P3),(6,zs7),(7,zs3)],Jhb⟩ [(.x 0,⟨[(5,Qrm),(6,zs7)],Jhe⟩)]),(18,.jn [7] [] [(.n,⟨[(5,Qmr),(6,zs7)],[(100300,H3)]⟩)]),(20,.jn [7] [] [(.n,⟨[(5,Qha),(6,zs7)],Jhf⟩)]),(21,.rg (.n 3 (.sp 16 7 [5,6,7] [100000] ⟨[(23,zs7)],[]⟩ Qa0 Qa0 .done))),(34,.jn [] [] [(.n,⟨[(5,Q85)],[(100500,H3)]⟩)])] Tryz.func397⟩
def Qcc(N:Nat):V:=⟨⟨367,(sD [.sl .i,.sl Q9]),[(sD [.sl .i])],fun(x0,x1)=>Kg N x0 x1,[]⟩,kF N [Gv,Qhe] [(6,.lp [1] [] ⟨[(0,.d (.sl .i)),(5,zs3)],[]⟩ [(.x 0,Jmx)]),(14,.jn [5] [] [(.n,Jmx)]),(18,.an (.dc 12 [17,18,19,20,21,22,23,24,25,26,27,28] [] [] (.op ⟨.nl 1 .done,[],[],[],[]⟩ (.op ⟨.nl 1 .done,[],[],[],[]⟩ (.op ⟨.nl 1 .done,[],[],[],[]⟩ (.op ⟨.nl 1 .done,[],[],[],[]⟩ (.op ⟨.nl 1 .done,[],[],[],[]⟩ (.op ⟨.nl 1 .done,[],[],[],[]⟩ (.op ⟨.call 1 .done,[],[],[12301],[12301]⟩ (.op ⟨.nl 1 .done,[],[],[],[]⟩ (.op ⟨.nl 1 .done,[],[],[],[]⟩ (.op ⟨.nl 1 .done,[],[],[],[]⟩ (.op ⟨.nl 1 .done,[],[],[],[]⟩ (.op ⟨.nl 1 .done,[],[],[],[]⟩ (.tl Jg6)))))))))))))))] Tryz.func367⟩
def S7(N:Nat):V:=⟨⟨358,Jmy,[zs5],fun(x0,x1)=>Wc N x0 x1,[]⟩,kF N [Gv] [] Tryz.func358⟩
def Qjd(N:Nat):V:=⟨⟨368,(sD [.sl Q9,.i]),[zs5],fun(x0,x1)=>Ed N x0 x1,[]⟩,kF N [S7] [(6,.lp [0,1] [] zs4 zs8)] Tryz.func368⟩
def Qcd(N:Nat):V:=⟨⟨323,(sD [.sl Q9,.sl Q9,.bool,.bool]),[Qi5],fun(x0,x1,x2,x3)=>Ht N x0 x1 x2 x3,[]⟩,kF N [Qcc,Qjd] [(10,.lp [0,1,2,3,9] [] ⟨[(10,P3),(11,zs3)],Q86⟩ [(.x 0,⟨[(10,Q85)],[(100500,Dz)]⟩)]),(18,.jn [11] [] [(.n,⟨[(10,Qrm)],Jhg⟩)]),(21,.rg (.n 5 (.call 1 (.n 2 (.sp 31 13 [10,11] [100000] ⟨[(44,zs7)],[]⟩ (.nl 12 Vo) (.nl 3 (.sp 34 9 [10,11,31] [] ⟨[(43,zs7)],[]⟩ (.nl 5 (.call 1 (.nl 3 .done))) (.nl 9 .done) Vo)) .done))))),(28,.an (.dr 15 (.n 3 (.sp 49 12 [10,11,12] [100000] ⟨[(61,zs7)],[]⟩ (.nl 11 Vo) (.nl 11 Vo) .done)) .done)),(31,.an (.dc 12 [72,73,74,75,76,77,78,79,80,81,82,83] [] [] (.op ⟨.nl 1 .done,[],[],[],[100000]⟩ (.op ⟨.nl 1 .done,[],[],[],[]⟩ (.op ⟨.nl 1 .done,[],[],[],[]⟩ (.op ⟨.nl 1 .done,[],[],[],[]⟩ (.op ⟨.nl 1 .done,[],[],[],[]⟩ (.op ⟨.nl 1 .done,[],[],[],[]⟩ (.op ⟨.nl 1 .done,[],[],[],[]⟩ (.op ⟨.nl 1 .done,[],[],[],[]⟩ (.op ⟨.nl 1 .done,[],[],[],[]⟩ (.op ⟨.nl 1 .done,[],[],[],[]⟩ Jmz))))))))))))] Tryz.func323⟩
def Qce(N:Nat):V:=⟨⟨224,(sD [.sl Q9,.sl Q9]),[Qi5],fun(x0,x1)=>Hu N x0 x1,[]⟩,kF N [Qcd] [] Tryz.func224⟩
def P6(N:Nat):V:=⟨⟨137,Q87,[Jm0],fun(x0,x1)=>Xk N x0 x1,[]⟩,kF N [Qce] [] Tryz.func137⟩
def Nx(N:Nat):V:=⟨⟨79,(sD [.sl V4]),[zs5],Ks N,[]⟩,kF N [Gv,D2,P6] [(6,.lp [0] [] Qdi Qri),(19,.rg (.n 19 (.sp 37 5 [3,4] [4] ⟨[(42,zs7)],[]⟩ Fs Q2c (.n 1 (.sp 43 5 [3,4] [4] Jpr Fs Jg1 Jg7))))),(28,.lp [3,4] [4] zs4 [(.x 2,zs6),(.r,⟨[(2,zs7)],[]⟩)])] Tryz.func79⟩
def Qd5(N:Nat):V:=⟨⟨41,(sD [Vx,.i]),[zs5],fun(x0,x1)=>E5 N x0 x1,[]⟩,kF N [Qdm,Qds,Qdu,Qd3,Qd4,Nx] [(14,.lp [1,2] [2] zs4 zs8),(35,.lp [1,2] [2] zs9 Jk6),(56,.lp [1,2] [2] Qnj Jk7),(77,.lp [2] [2] Qk3 Jq8),(87,.an (.dr 32 (.n 7 (.sp 111 7 [8] [] ⟨[(118,zs7)],[]⟩ Qa0 Qa0 (.n 1 (.sp 119 17 [8] [] ⟨[(136,zs7)],[]⟩ (.nl 16 Vo) (.nl 3 (.sp 122 13 [8,119] [] ⟨[(135,zs7)],[]⟩ Jli Jli Vo)) .done)))) .done)),(97,.rg (.n 3 (.sp 145 5 [2] [2] ⟨[(150,zs7)],[]⟩ (.nl 2 Jlb) Fs (.n 1 (.sp 151 5 [2] [2] ⟨[(156,zs7)],[]⟩ Jq9 Fs (.n 1 (.sp 157 4 [2] [2] ⟨[(161,zs7)],[]⟩ (.nl 2 (.call 4 Vo)) Qaz (.n 1 (.sp 162 4 [2] [2] ⟨[(166,zs7)],[]⟩ (.nl 2 (.call 5 Vo)) Qaz Vo)))))))))] Tryz.func41⟩
def Qcf(N:Nat):V:=⟨⟨42,(sD [J2]),[zs5],Hv N,[]⟩,kF N [] [] Tryz.func42⟩
def Qfg(N:Nat):V:=⟨⟨43,zs2,[zs5],Ag N,[]⟩,kF N [] [] Tryz.func43⟩
def Qa4(N:Nat):V:=⟨⟨44,(sD []),[(sD [Vx])],fun _=>Dn N,[]⟩,kF N [] [] Tryz.func44⟩
def Qx3(N:Nat):V:=⟨⟨47,Jhh,[Q2g],Qaf N,[]⟩,kF N [] [(3,.an (.dc 8 [6,7,8,9,10,11,12,3] [1] [] (.op ⟨.nl 1 .done,[],[],[],[1]⟩ (.op ⟨.nl 1 .done,[],[1],[],[]⟩ (.op ⟨.nl 1 .done,[],[],[8],[8]⟩ (.op ⟨.nl 1 .done,[],[],[],[1]⟩ (.op ⟨.nl 1 .done,[],[1],[],[]⟩ (.op ⟨.nl 1 .done,[],[],[11],[11]⟩ (.op ⟨.nl 1 .done,[],[],[],[8,11]⟩ Q88))))))))),(8,.lp [2,14,15] [1,2] ⟨[(3,S5),(16,zs3)],[(100000,.var 37 Jp3),(100001,Un),(100002,Qbu),(100003,Qbv)]⟩ [(.x 0,⟨Qvg,[(100100,.var 37 (.ag (sL [Qbw,Jg4,Jg5]))),(100101,Un),(100102,Qbu),(100103,Qbv)]⟩)]),(21,.rg (.n 3 (.fz 22 Qi6)))] Tryz.func47⟩
def Qk6(N:Nat):V:=⟨⟨369,Q18,[Q6m],fun(x0,x1)=>Mj N x0 x1,[]⟩,kF N [] [(6,.lp [0,1] [] zs4 [(.x 0,zs4)]),(9,.rg (.n 5 (.sp 11 7 [5] [] Q19 Qa0 Qa0 .done)))] Tryz.func369⟩
def Qfh(N:Nat):V:=⟨⟨370,Q18,[Q6m],fun(x0,x1)=>Ah N x0 x1,[]⟩,kF N [] [(8,.lp [1,8,9] [] ⟨Jhi,[(100000,Qrj)]⟩ Jpw),(16,.jn [10] [] Jpx)] Tryz.func370⟩
def Qk7(N:Nat):V:=⟨⟨324,Jre,[(sD [Vh])],fun(x0,x1)=>Mk N x0 x1,[]⟩,kF N [Qk6,Qfh] [(3,.jn [] [3] [(.n,⟨[(2,Qf9),(4,Jhj)],[(100300,Jpz),(100301,Q89)]⟩),(.r,⟨[(4,Qk5)],[(100200,Q89)]⟩)]),(31,.jn [2,3,4,6] [2,4] Jmv),(39,.jn [2,3,4] [2,4] [(.n,Jk8)])] Tryz.func324⟩
def Qfi(N:Nat):V:=⟨⟨226,Qvh,[⟨Qg9,[(1,Qms)]⟩],fun(x0,x1)=>Ai N x0 x1,[]⟩,kF N [Qk7] [(10,.lp [1,10,11] [] ⟨[(5,P3),(6,Q2h),(12,zs3)],[(100000,Qms),(100001,Jhl)]⟩ [(.x 0,⟨[(5,Qmr)],[(100300,Qms)]⟩)]),(18,.jn [12] [] [(.n,⟨[(5,Qha),(6,Jhm)],[(100200,Qms),(100201,Jhl)]⟩)]),(32,.an (.dr 13 (.n 3 (.sp 31 10 [5,6,8,9,12] [8,100000,100001] Jg3 Q9a Q9a .done)) .done))] Tryz.func226⟩
def Qje(N:Nat):V:=⟨⟨228,(sD [Vh,Vh]),[zs5],fun(x0,x1)=>Ih N x0 x1,[]⟩,kF N [] [(14,.lp [3,43,44] [2,3] ⟨[(45,zs3)],[]⟩ zs8)] Tryz.func228⟩
def Qd6(N:Nat):V:=⟨⟨227,Jm2,[zs5],fun(x0,x1)=>E6 N x0 x1,[]⟩,kF N [Qje] [] Tryz.func227⟩
def Qd7(N:Nat):V:=⟨⟨229,Jm2,[(sD [Vi])],fun(x0,x1)=>E7 N x0 x1,[]⟩,kF N [] [] Tryz.func229⟩
def H7(N:Nat):V:=⟨⟨225,⟨[(0,.d (.sl Vi)),(1,.f 227 .nil),(2,.f 229 .nil)],[]⟩,[⟨Qg9,[(1,Qms)]⟩],Y9 N,[]⟩,kF N [Qd6,Qd7] [(8,.lp [1,2,11,12] [] ⟨Jm3,[(100000,Qms)]⟩ [(.x 0,⟨[(7,Qha)],[(100200,Qms)]⟩)]),(16,.jn [13] [] [(.n,⟨[(7,Qdj)],[(100100,Qms)]⟩)]),(22,.an (.dc 10 [19,20,21,22,23,24,25,26,27,28] [100000,9] [] (.op ⟨.nl 1 .done,[],[],[],[]⟩ (.op ⟨.nl 1 .done,[],[],[],[]⟩ (.op ⟨.nl 1 .done,[],[],[],[]⟩ (.so 21 (.op ⟨.nl 1 .done,[],[],[],[]⟩ (.op ⟨.nl 1 .done,[],[],[],[100000]⟩ (.op ⟨.nl 1 .done,[],[],[],[]⟩ (.op ⟨.nl 1 .done,[],[],[],[]⟩ (.op ⟨.nl 1 .done,[],[100000],[],[100000]⟩ (.op ⟨.nl 1 .done,[],[100000],[],[]⟩ (.op ⟨.nl 1 .done,[],[9],[],[]⟩ (.tl Qi3)))))))) Q9b)))))),(24,.an (.dc 11 [31,32,33,34,35,36,37,38,39,40,41] [100000,9] [] (.op ⟨.nl 1 .done,[],[],[],[100000]⟩ (.op ⟨.nl 1 .done,[],[],[],[]⟩ (.op ⟨.nl 1 .done,[],[],[],[]⟩ (.op ⟨.nl 1 .done,[],[],[],[]⟩ (.op ⟨.nl 1 .done,[],[],[],[100000]⟩ (.op ⟨.nl 1 .done,[],[],[],[]⟩ (.op ⟨.nl 1 .done,[],[],[],[]⟩ (.op ⟨.nl 1 .done,[],[100000],[],[100000]⟩ (.op ⟨.nl 1 .done,[],[100000],[],[]⟩ (.op ⟨.nl 1 .done,[],[9],[],[]⟩ (.op ⟨.call 1 .done,[],[],[],[]⟩ Jcm)))))))))))))] Tryz.func225⟩
def Nj(N:Nat):V:=⟨⟨138,Qvh,[⟨Qg9,[(1,Q9c)]⟩],fun(x0,x1)=>G6 N x0 x1,[]⟩,kF N [Qfi,H7] [(10,.lp [5,14,15] [11201,11301] ⟨[(6,P3),(16,zs3)],[(100000,Q9c)]⟩ [(.x 0,⟨[(6,Qmr)],[(100300,Q9c)]⟩)]),(18,.jn [16] [] [(.n,⟨[(6,Qha)],[(100200,Q9c)]⟩)]),(30,.jn [6,8,16] [8,100000] [(.n,⟨[(9,Qb8)],[(100100,Jhn)]⟩)]),(35,.an (.dc 17 [40,41,42,43,44,45,46,47,48,49,50,51,52,53,54,55,56] [100100,8] [] (.op ⟨.nl 1 .done,[],[],[],[100000]⟩ (.op ⟨.nl 1 .done,[],[100100],[],[]⟩ (.op ⟨.nl 1 .done,[],[],[],[8]⟩ (.op ⟨.nl 1 .done,[],[],[],[8]⟩ (.op ⟨.nl 1 .done,[],[8],[],[]⟩ (.op ⟨.nl 1 .done,[],[],[],[8]⟩ (.op ⟨.nl 1 .done,[],[],[],[8]⟩ (.op ⟨.nl 1 .done,[],[8],[],[]⟩ (.op ⟨.nl 1 .done,[],[],[48],[48]⟩ (.op ⟨.nl 1 .done,[],[],[],[8]⟩ (.op ⟨.nl 1 .done,[],[],[],[8]⟩ (.op ⟨.nl 1 .done,[],[8],[],[]⟩ (.op ⟨.nl 1 .done,[],[],[],[8]⟩ (.op ⟨.nl 1 .done,[],[],[],[8]⟩ (.op ⟨.nl 1 .done,[],[8],[],[]⟩ (.op ⟨.nl 1 .done,[],[],[],[48]⟩ (.op ⟨.fz 48 (.nl 1 .done),[48],[],[],[48]⟩ Jcm)))))))))))))))))))] Tryz.func138⟩
def Ky(N:Nat):V:=⟨⟨230,Q2e,[zs5],V6 N,[]⟩,kF N [] [] Tryz.func230⟩
def Lc(N:Nat):V:=⟨⟨139,Jmy,[zs5],fun(x0,x1)=>Wn N x0 x1,[]⟩,kF N [Ky] [] Tryz.func139⟩
def Qru(N:Nat):V:=⟨⟨84,Q9d,[(sD [Cf,.bool])],fun(x0,x1,x2)=>Qag N x0 x1 x2,[]⟩,kF N [Nj,Lc] [(6,.lp [2,12,13] [11201] ⟨[(6,S5),(14,zs3)],[(100000,Jm5)]⟩ [(.x 0,⟨[(6,Qb8)],[(100100,Jm5)]⟩),(.r,⟨Jho,[(100200,.var 92 Av)]⟩)])] Tryz.func84⟩
def Qk8(N:Nat):V:=⟨⟨231,(sD []),[⟨[(0,.p 1 [])],[(1,.var 379 (.ag (sL [.m 2,.m 3,.m 4,.m 5,.m 6,.ns,.ns]))),(2,Q2i),(3,.map .i Vh),(4,Qmt),(5,.map .str .i),(6,Qbx)]⟩],fun _=>Mp N,[]⟩,kF N [] [] Tryz.func231⟩
def Qnn(N:Nat):V:=⟨⟨232,Qvh,[⟨[(0,.f 325 (sL [.p 1 [],.p 2 []]))],[(1,.var 22 Jm6),(2,Ot)]⟩],fun(x0,x1)=>Pe N x0 x1,[]⟩,kF N [] [] Tryz.func232⟩
def Qhf:AnY:=(.two (.reg (.n 3 .done)) (.un (.lp [2,6,7] [] ⟨[(8,.d .i)],[]⟩ [(.x 0,⟨[],[]⟩),(.r,⟨[],[]⟩)] (.two (.reg (.n 1 .done)) (.two (.two .nil .nil) (.two (.un (.two (.reg (.n 4 .done)) (.two (.yr (.h 5 (.n 5 .done) (.so 16 (.mv (.h 1 (.nl 1 .done) (.yl (.h 2 (.nl 1 (.n 1 .done)) .done)))) (.h 5 (.nl 4 (.n 1 .done)) .done)))) (.two .nil .nil)))) (.reg (.n 2 .done))))))))
def Nk(N:Nat):It:=⟨325,[(.sl Jw),(.int .i64)],Jw,fun(x1,x2)=>Ii N x1 x2⟩
theorem Qfj(N:Nat):IO (Nk N):=⟨Jk5 (Y:=tx) (N:=N) (it:=Nk N) (an:=Qhf) Jgz Jgy (Q82 N []) Tryz.func325 rfl (fun x=>by kernel_rfl),I6 Tryz.func325 rfl⟩
def Qd8(N:Nat):V:=⟨⟨326,Q2f,[Jhd],fun(x0,x1)=>Xl N x0 x1,[]⟩,kF N [] [(6,.lp [0,1] [] zs4 [(.x 0,zs4)]),(9,.rg (.n 5 (.sp 11 7 [5] [] Q19 Qa0 Qa0 .done)))] Tryz.func326⟩
def S8(N:Nat):V:=⟨⟨371,Q18,[Q6m],fun(x0,x1)=>Zi N x0 x1,[]⟩,kF N [] [(6,.lp [0,1] [] zs4 [(.x 0,zs4)]),(9,.rg (.n 5 (.sp 11 7 [5] [] Q19 Qa0 Qa0 .done)))] Tryz.func371⟩
def Qjf(N:Nat):V:=⟨⟨372,Q18,[Q6m],fun(x0,x1)=>Ee N x0 x1,[]⟩,kF N [] [(8,.lp [1,8,9] [] ⟨Jhi,[(100000,Qrj)]⟩ Jpw),(16,.jn [10] [] Jpx)] Tryz.func372⟩
def P7(N:Nat):V:=⟨⟨327,⟨[(0,Gu),(1,Jhk),(2,.d Jw)],Jhp⟩,[⟨[(0,Jhk)],Jhq⟩],fun(x1,x2,ce,cd,cg,ci,cj,ck,cm)=>Xm N x1 x2 ce cd cg ci cj ck cm,[5000,5001,5002,5003,5005,5006,5007]⟩,kF N [S8,Qjf] [(3,.jn [6] [5,6] [(.n,⟨[(4,Q2h)],[(5004,.map .str .i),(100001,Jpz)]⟩)]),(10,.an (.dr 8 Qi4 Vo)),(16,.an (.dr 6 Q2b Vo))] Tryz.func327⟩
def Ny(N:Nat):V:=⟨⟨233,⟨[(0,Gu),(1,.d Jw)],Jhp⟩,[⟨[],[(5000,.var 379 (.ag (sL [Q9e,Qvi,Q9f,Q9g,Q9h,Sy,Q2a]))),(5001,Q2i),(5002,.map .i Vh),(5003,Qmt),(5004,.map .str .i),(5005,Qbx),(1,H3),(2,H3)]⟩],fun(x1,ce,cd,cg,ci,cj,ck,cm)=>Kt N x1 ce cd cg ci cj ck cm,[]⟩,kF N [Qd8,P7] [(9,.jn [3] [3] [(.n,⟨Qby,[(5000,.var 379 (.ag (sL [Q9e,Qvi,Q9f,Q9g,Q9h,.s 100006,.s 100007]))),(5001,Q2i),(5002,.map .i Vh),(5003,Qmt),(5004,.map .str .i),(5005,Qbx),(100006,H3),(100007,H3)]⟩)]),(10,.an (.dc 12 [38,39,40,41,42,43,44,37,45,46,4,1000000011] [5000,5001] [3] (.op ⟨.nl 1 .done,[],[],[],[5000]⟩ (.op ⟨.nl 1 .done,[],[5000],[],[5000]⟩ (.op ⟨.nl 1 .done,[],[],[],[5000]⟩ (.op ⟨.nl 1 .done,[],[5000],[],[5001]⟩ (.op ⟨.nl 1 .done,[],[],[],[3]⟩ (.op ⟨.nl 1 .done,[],[3],[],[]⟩ (.op ⟨.nl 1 .done,[],[5001],[],[]⟩ (.op ⟨.nl 1 .done,[],[],[],[]⟩ (.op ⟨.nl 1 .done,[],[],[],[]⟩ (.op ⟨.nl 1 .done,[],[],[],[]⟩ (.op ⟨.nl 1 .done,[],[],[4],[4]⟩ (.op ⟨.nl 1 .done,[4],[],[],[4]⟩ Ln)))))))))))))),(14,.gh Jm7),(14,.an (.dc 8 [49,50,51,52,53,54,55,56] [5000] [3] (.op ⟨.nl 1 .done,[],[],[],[5000]⟩ (.op ⟨.nl 1 .done,[],[],[],[5000]⟩ (.op ⟨.nl 1 .done,[],[5000],[],[5000]⟩ (.op ⟨.nl 1 .done,[],[],[],[5000]⟩ (.op ⟨.nl 1 .done,[],[5000],[],[]⟩ (.op ⟨.nl 1 .done,[],[],[],[3]⟩ (.op ⟨.nl 1 .done,[],[3],[],[]⟩ (.op ⟨.call 0 .done,[],[],[15601],[15601]⟩ Qrk)))))))))),(16,.an (.dr 16 (.n 16 .done) Vo)),(21,.an (.dc 8 [77,78,79,80,81,82,83,6] [5000,3,5001] [] (.op ⟨.nl 1 .done,[],[],[],[5000]⟩ (.op ⟨.nl 1 .done,[],[5000],[],[5000]⟩ (.op ⟨.nl 1 .done,[],[],[],[5000]⟩ (.op ⟨.nl 1 .done,[],[5000],[],[5001]⟩ (.op ⟨.nl 1 .done,[],[],[],[3]⟩ (.op ⟨.nl 1 .done,[],[3],[],[]⟩ (.op ⟨.nl 1 .done,[],[5001],[],[]⟩ (.op ⟨.nl 1 .done,[],[],[6],[6]⟩ Ln)))))))))),(24,.an (.dr 7 Q84 Vo)),(29,.jn [3] [3] [(.n,⟨Qby,[(5000,.var 379 (.ag (sL [Q9e,Qvi,Q9f,Q9g,Q9h,.s 100106,.s 100107]))),(5001,Q2i),(5002,.map .i Vh),(5003,Qmt),(5004,.map .str .i),(5005,Qbx),(100106,H3),(100107,H3)]⟩)]),(30,.an (.dr 8 Qi4 .done)),(32,.gh (.fz 5007 (.dt 5000 .done))),(32,.an (.dc 8 [102,103,104,105,106,107,108,109] [5000] [3] (.op ⟨.nl 1 .done,[],[],[],[5000]⟩ (.op ⟨.nl 1 .done,[],[],[],[5000]⟩ (.op ⟨.nl 1 .done,[],[5000],[],[5000]⟩ (.op ⟨.nl 1 .done,[],[],[],[5000]⟩ (.op ⟨.nl 1 .done,[],[5000],[],[]⟩ (.op ⟨.nl 1 .done,[],[],[],[3]⟩ (.op ⟨.nl 1 .done,[],[3],[],[]⟩ (.op ⟨.call 0 .done,[],[],[20901],[20901]⟩ Qrk)))))))))),(35,.an (.dr 6 Q2b Vo)),(37,.an (.dr 8 Qi4 Vo)),(38,.an (.dr 15 Jpu Vo)),(43,.an (.dc 8 [143,144,145,146,147,148,149,7] [5000,3,5002] [] (.op ⟨.nl 1 .done,[],[],[],[5000]⟩ (.op ⟨.nl 1 .done,[],[5000],[],[5000]⟩ (.op ⟨.nl 1 .done,[],[],[],[5000]⟩ (.op ⟨.nl 1 .done,[],[5000],[],[5002]⟩ (.op ⟨.nl 1 .done,[],[],[],[3]⟩ (.op ⟨.nl 1 .done,[],[3],[],[]⟩ (.op ⟨.nl 1 .done,[],[5002],[],[]⟩ (.op ⟨.nl 1 .done,[],[],[7],[7]⟩ Ln)))))))))),(48,.lp [0,3,7,151,152] [3,7,5000,5001,5002,5003,5005,5006,5007] ⟨[(153,zs3)],Jhq⟩ [(.x 1,⟨[],Jhq⟩)]),(62,.an (.dr 8 Qi4 Vo)),(63,.an (.dr 6 Q2b Vo)),(65,.jn [0,3] [3,5000,5001,5002,5003,5004,5005,5006,5007] [(.n,⟨[(177,zs7)],[]⟩)]),(73,.an (.dc 12 [15,16,17,18,19,20,21,14,22,23,10,1000000011] [5000,3,5002] [] (.op ⟨.nl 1 .done,[],[],[],[5000]⟩ (.op ⟨.nl 1 .done,[],[5000],[],[5000]⟩ (.op ⟨.nl 1 .done,[],[],[],[5000]⟩ (.op ⟨.nl 1 .done,[],[5000],[],[5002]⟩ (.op ⟨.nl 1 .done,[],[],[],[3]⟩ (.op ⟨.nl 1 .done,[],[3],[],[]⟩ (.op ⟨.nl 1 .done,[],[5002],[],[]⟩ (.op ⟨.nl 1 .done,[],[],[],[]⟩ (.op ⟨.nl 1 .done,[],[],[],[]⟩ (.op ⟨.nl 1 .done,[],[],[],[]⟩ (.op ⟨.nl 1 .done,[],[],[10],[10]⟩ (.op ⟨.nl 1 .done,[10],[],[],[10]⟩ Ln)))))))))))))),(77,.an (.dc 10 [25,26,27,28,29,30,31,32,33,34] [5000,3,10,5004,5001,5002,5003,5005,5006,5007] [] (.op ⟨.nl 1 .done,[],[],[],[5000]⟩ (.op ⟨.nl 1 .done,[],[5000],[],[5000]⟩ (.op ⟨.nl 1 .done,[],[],[],[5000]⟩ (.op ⟨.nl 1 .done,[],[5000],[],[5002]⟩ (.op ⟨.nl 1 .done,[],[],[],[3]⟩ (.op ⟨.nl 1 .done,[],[3],[],[]⟩ (.op ⟨.nl 1 .done,[],[],[],[5000]⟩ (.op ⟨.nl 1 .done,[],[10],[],[]⟩ (.op ⟨.nl 1 .done,[],[3],[],[]⟩ (.op ⟨.call 1 .done,[5004],[5000,5001,5002,5003,5005,5006,5007],[],[5004]⟩ Ln))))))))))))] Tryz.func233⟩
def Nl(N:Nat):V:=⟨⟨234,⟨Qby,Jhp⟩,[Jm8],fun(ce,cd,cg,ci,cj,ck,cm)=>Z8 N ce cd cg ci cj ck cm,[5000,5001,5002,5003,5004,5005,5006,5007]⟩,kF N [] [(5,.rg (.br Vo)),(10,.lp [0,2,16,17] [2] ⟨[(3,S5),(4,.m 100001),(18,zs3)],[(100000,.var 219 (.ag (sL [.ns,Jlg]))),(100001,Jhr),(100002,Qta)]⟩ [(.x 0,⟨[(3,Qk5),(4,.m 100201)],[(100200,.var 219 (.ag (sL [.ns,Jlf]))),(100201,Jhr),(100202,Qta)]⟩)]),(18,.jn [18] [] [(.n,⟨[(3,Qb8),(4,.m 100101)],[(100100,.var 219 (.ag (sL [.ns,Jg4]))),(100101,Jhr),(100102,Qta)]⟩)]),(30,.gh (.op (.v 7 [.f 1 1]) 100001 700000 .done)),(30,.an (.dc 10 [33,34,35,36,37,38,39,40,41,42] [7,100001,700000] [] (.op ⟨.nl 1 .done,[],[],[],[100001]⟩ (.op ⟨.nl 1 .done,[],[],[],[7]⟩ (.op ⟨.nl 1 .done,[],[7],[],[]⟩ (.op ⟨.nl 1 .done,[],[],[],[100001]⟩ (.op ⟨.nl 1 .done,[],[],[],[7]⟩ (.op ⟨.nl 1 .done,[],[7],[],[]⟩ (.op ⟨.br .done,[],[100001,700000],[],[700000]⟩ (.op ⟨.nl 1 .done,[],[],[],[]⟩ (.op ⟨.nl 1 .done,[],[],[],[]⟩ (.op ⟨.nl 1 .done,[700000],[],[42],[42]⟩ (.tl (.br .done)))))))))))))),(37,.gh (.fm 100201 .done)),(37,.lp [0,2,4,53,54] [2,100201] ⟨[(3,Qf9),(55,zs3)],[(100300,.var 219 (.ag (sL [Q2j,Jhs]))),(100301,Q6n),(100302,Qta)]⟩ [(.x 2,⟨[(3,Qvj)],[(100400,.var 219 (.ag (sL [Q9i,.s 100402]))),(100401,Q6n),(100402,Qta)]⟩)])] Tryz.func234⟩
def Qjg:AnR:=(.pre (.reg (.n 1 .done)) (.pre (.reg (.call 0 (.n 2 .done))) (.inn (.pre (.reg (.n 2 (.call 1 .done))) (.un (.rf 0 [4,5] [4,5] ⟨[],[(10701,.var 379 (.ag (sL [.m 100001,.m 100002,.m 100003,.m 100004,.m 100005,.s 100006,.s 100007]))),(100001,.map .i V1),(100002,.map .i Vh),(100003,.map .i .bool),(100004,.map .str .i),(100005,.map .i .i),(100006,.row 3 .i),(100007,.row 3 .i)]⟩ (.reg (.n 2 .done)) (.un (.reg (.n 2 (.call 2 .done))))))) (.two (.reg (.n 1 (.call 3 (.n 1 .done)))) .nil))))
def Ta(N:Nat):V:=⟨⟨140,Qvh,[Jm8],fun(x0,x1)=>Aj N x0 x1,[]⟩,kR N [Qk8,Qnn,Ny,Nl] [⟨_,Qfj N⟩] Qjg Tryz.func140 rfl fun x=>by kernel_rfl⟩
def Qrv(N:Nat):V:=⟨⟨85,Q9d,[(sD [Vh,.bool])],fun(x0,x1,x2)=>Qah N x0 x1 x2,[]⟩,kF N [Ta] [(6,.lp [1,13,14] [11201,11202] ⟨Jm9,[(100000,Q89)]⟩ [(.x 0,⟨[(6,Qb8)],[(100100,Q89)]⟩),(.r,⟨Jho,[(100200,Jhl)]⟩)])] Tryz.func85⟩
def Qhg(N:Nat):V:=⟨⟨86,Q9d,[(sD [V1,.bool])],fun(x0,x1,x2)=>Ci N x0 x1 x2,[]⟩,kF N [Ta] [(6,.lp [1,13,14] [11201,11202] ⟨Jm9,[(100000,Jna)]⟩ [(.x 0,⟨[(6,Qb8)],[(100100,Jna)]⟩),(.r,⟨Jho,[(100200,.var 94 Bz)]⟩)])] Tryz.func86⟩
def Qfk(N:Nat):V:=⟨⟨50,⟨Qby,[(5000,.var 102 (.ag (sL [H4,B1,V8,.ag (sL [Qdk,Yd,Qro,zs7,zs7]),.ag (sL [zs3,zs3,zs3,zs7,zs7,Ou]),.ag (sL [Yd,zs3,zs7,S6,Qbz,Qmu,Qi7]),zs3,Jnb]))),(5001,Qrj),(5002,H3),(5003,B2),(5004,Wz),(5005,Hm),(5006,Fq),(5007,Ub),(5008,Uc),(5009,Uv)]⟩,[⟨Qi8,[(5000,Jnd),(1,B2),(2,Wz),(3,Hm),(4,Fq),(5,Ub),(6,Uc),(7,Uv)]⟩],fun(cx,dg,cq,je,jf,jg,jh,ji,jj,jk,jl,jm,gk,gm,gn,du,dv,dw,dy,dz,dl,g5,dx,dq,g6,g7,ce,cd,cg,ci,cj,ck,cm,dj,ge)=>Ak N cx dg cq je jf jg jh ji jj jk jl jm gk gm gn du dv dw dy dz dl g5 dx dq g6 g7 ce cd cg ci cj ck cm dj ge,[]⟩,kF N [Qru,Qrv,Qhg] [(3,.an (.dc 21 [8,9,10,11,12,13,14,15,16,17,18,19,20,21,22,23,7,24,25,3,1000000020] [5000] [] (.op ⟨.nl 1 .done,[],[],[],[5000]⟩ (.op ⟨.nl 1 .done,[],[5000],[],[5000]⟩ (.op ⟨.nl 1 .done,[],[],[],[5000]⟩ (.op ⟨.nl 1 .done,[],[],[],[5000]⟩ (.op ⟨.nl 1 .done,[],[5000],[],[]⟩ (.op ⟨.nl 1 .done,[],[],[],[5000]⟩ (.op ⟨.nl 1 .done,[],[5000],[],[5000]⟩ (.op ⟨.nl 1 .done,[],[],[],[5000]⟩ (.op ⟨.nl 1 .done,[],[],[],[5000]⟩ (.op ⟨.nl 1 .done,[],[5000],[],[]⟩ (.op ⟨.nl 1 .done,[],[],[],[5000]⟩ (.op ⟨.nl 1 .done,[],[5000],[],[5000]⟩ (.op ⟨.nl 1 .done,[],[],[],[5000]⟩ (.op ⟨.nl 1 .done,[],[],[],[5000]⟩ (.op ⟨.nl 1 .done,[],[5000],[],[]⟩ (.op ⟨.call 0 .done,[],[],[],[]⟩ (.op ⟨.nl 1 .done,[],[],[],[]⟩ (.op ⟨.nl 1 .done,[],[],[],[]⟩ (.op ⟨.nl 1 .done,[],[],[],[]⟩ Jne))))))))))))))))))))),(13,.an (.dc 21 [29,30,31,32,33,34,35,36,37,38,39,40,41,42,43,44,28,45,46,5,1000000020] [5000] [] (.op ⟨.nl 1 .done,[],[],[],[5000]⟩ (.op ⟨.nl 1 .done,[],[5000],[],[5000]⟩ (.op ⟨.nl 1 .done,[],[],[],[5000]⟩ (.op ⟨.nl 1 .done,[],[],[],[5000]⟩ (.op ⟨.nl 1 .done,[],[5000],[],[]⟩ (.op ⟨.nl 1 .done,[],[],[],[5000]⟩ (.op ⟨.nl 1 .done,[],[5000],[],[5000]⟩ (.op ⟨.nl 1 .done,[],[],[],[5000]⟩ (.op ⟨.nl 1 .done,[],[],[],[5000]⟩ (.op ⟨.nl 1 .done,[],[5000],[],[]⟩ (.op ⟨.nl 1 .done,[],[],[],[5000]⟩ (.op ⟨.nl 1 .done,[],[5000],[],[5000]⟩ (.op ⟨.nl 1 .done,[],[],[],[5000]⟩ (.op ⟨.nl 1 .done,[],[],[],[5000]⟩ (.op ⟨.nl 1 .done,[],[5000],[],[]⟩ (.op ⟨.call 1 .done,[],[],[],[]⟩ (.op ⟨.nl 1 .done,[],[],[],[]⟩ (.op ⟨.nl 1 .done,[],[],[],[]⟩ (.op ⟨.nl 1 .done,[],[],[],[]⟩ (.op ⟨.nl 1 .done,[],[],[5],[5]⟩ (.op ⟨.nl 1 .done,[5],[],[],[5]⟩ Ln))))))))))))))))))))))),(16,.an (.dr 8 Qi4 .done)),(33,.an (.dc 20 [62,63,64,65,66,67,68,69,70,71,72,73,74,75,61,76,77,78,79,1000000019] [5000,5] [] (.op ⟨.nl 1 .done,[],[],[],[5000]⟩ (.op ⟨.nl 1 .done,[],[],[],[5000]⟩ (.op ⟨.nl 1 .done,[],[5000],[],[5000]⟩ (.op ⟨.nl 1 .done,[],[],[],[5000]⟩ (.op ⟨.nl 1 .done,[],[],[],[5000]⟩ (.op ⟨.nl 1 .done,[],[5000],[],[]⟩ (.op ⟨.nl 1 .done,[],[],[],[5]⟩ (.op ⟨.nl 1 .done,[],[5],[],[]⟩ (.op ⟨.nl 1 .done,[],[],[],[5000]⟩ (.op ⟨.nl 1 .done,[],[5000],[],[5000]⟩ (.op ⟨.nl 1 .done,[],[],[],[5000]⟩ (.op ⟨.nl 1 .done,[],[],[],[5000]⟩ (.op ⟨.nl 1 .done,[],[5000],[],[]⟩ (.op ⟨.call 2 .done,[],[],[],[]⟩ (.op ⟨.nl 1 .done,[],[],[],[]⟩ (.op ⟨.nl 1 .done,[],[],[],[]⟩ (.op ⟨.nl 1 .done,[],[],[],[]⟩ (.op ⟨.nl 1 .done,[],[5000],[],[5000]⟩ (.op ⟨.nl 1 .done,[],[],[],[5000]⟩ (.op ⟨.nl 1 .done,[5000],[],[],[5000,5003,5004,5005,5006,5007,5008,5009]⟩ (.tl .done)))))))))))))))))))))))] Tryz.func50⟩
def Qx4(N:Nat):V:=⟨⟨49,⟨Qby,[(5000,.var 90 I8),(5001,.var 102 (.ag (sL [H4,B1,V8,.ag (sL [Qdk,Yd,Ou,zs7,zs7]),.ag (sL [zs3,zs3,zs3,zs7,zs7,S6]),.ag (sL [Yd,zs3,zs7,Qbz,Qmu,Qi7,Qrn]),zs3,.ag (sL [V8,zs3,Yd,zs3,Yd,.s 5008,.s 5009,zs3,zs3,zs3,.s 5010,zs3,zs3])]))),(5002,Qrj),(5003,H3),(5004,B2),(5005,Wz),(5006,Hm),(5007,Fq),(5008,Ub),(5009,Uc),(5010,Uv)]⟩,[⟨Qi8,[(5001,.var 102 (.ag (sL [H4,B1,V8,Av,Bz,Q2k,zs3,Jnc]))),(1,B2),(2,Wz),(3,Hm),(4,Fq),(5,Ub),(6,Uc),(7,Uv)]⟩],fun(ct,cp,cw,gw,gx,gy,gz,j9,ja,jb,jc,jd,gg,gi,gj,cy,cz,d4,d5,d6,d7,d8,d9,da,db,de,cd,cg,ci,cj,ck,cm,dj,ge,gt)=>Qgy N ct cp cw gw gx gy gz j9 ja jb jc jd gg gi gj cy cz d4 d5 d6 d7 d8 d9 da db de cd cg ci cj ck cm dj ge gt,[5000]⟩,kF N [Qfk] [] Tryz.func49⟩
def Qx5(N:Nat):V:=⟨⟨48,⟨[(0,.f 49 Qmv),(1,.p 5011 [])],[(5000,.var 90 I8),(5001,.var 102 (.ag (sL [H4,B1,V8,.ag (sL [Qdk,Yd,Ou,zs7,zs7]),.ag (sL [zs3,zs3,zs3,zs7,zs7,S6]),.ag (sL [Yd,zs3,zs7,Qbz,Qmu,Qi7,Qrn]),zs3,.ag (sL [V8,zs3,Yd,zs3,Yd,.s 5008,.s 5009,zs3,zs3,zs3,.s 5010,zs3,zs3])]))),(5002,Qrj),(5003,H3),(5004,B2),(5005,Wz),(5006,Hm),(5007,Fq),(5008,Ub),(5009,Uc),(5010,Uv),(5011,Qmw)]⟩,[⟨[],[(5001,Jnd),(5011,Qmw),(1,B2),(2,Wz),(3,Hm),(4,Fq),(5,Ub),(6,Uc),(7,Uv)]⟩],fun(ct,cp,cw,gw,gx,gy,gz,j9,ja,jb,jc,jd,gg,gi,gj,cy,cz,d4,d5,d6,d7,d8,d9,da,db,de,cd,cg,ci,cj,ck,cm,dj,ge,gt,jo)=>Qgz N ct cp cw gw gx gy gz j9 ja jb jc jd gg gi gj cy cz d4 d5 d6 d7 d8 d9 da db de cd cg ci cj ck cm dj ge gt jo,[5000]⟩,kF N [Qx4] [(3,.rg (.n 1 Qi3))] Tryz.func48⟩
def Qa5(N:Nat):V:=⟨⟨235,(sD [.sl .str]),[Q6m],Gl N,[]⟩,kF N [] [] Tryz.func235⟩
def P8(N:Nat):V:=⟨⟨236,Jnf,[⟨Qg9,[(1,.row 319 Kp)]⟩],Xn N,[]⟩,kF N [] [] Tryz.func236⟩
def P9(N:Nat):V:=⟨⟨237,Jmu,[⟨Qg9,[(1,Q9j)]⟩],Xo N,[]⟩,kF N [] [] Tryz.func237⟩
def Ov(N n:Nat):Con:=⟨238,Qrl,[Qrl],fun x0=>Z9 N n x0,[]⟩
theorem Tb(N:Nat):∀n,KO (Ov N n)
 | 0=>⟨F4 fun _=>rfl,I6 Tryz.func238 rfl⟩
 | n+1=>have ih:=Tb N n; kF N [fun _=>⟨_,ih⟩] [(8,.lp [1,2,7,8] [1,2] ⟨[(3,P3),(9,zs3)],[(100000,Q9k)]⟩ [(.x 0,⟨[(3,Qdj)],[(100100,Q9k)]⟩)])] Tryz.func238
def Qtb(N:Nat):V:=⟨Ov N N,Tb N N⟩
def Qrw(N:Nat):V:=⟨⟨141,Q2d,[⟨[(0,Q2k)],Jht⟩],Qai N,[]⟩,kF N [Qa5,P8,P9,Qtb] [(10,.lp [1,2,18,19] [1,2] ⟨[(3,S5),(20,zs3)],Jng⟩ Jnh),(21,.an (.dc 9 [24,25,26,27,28,29,30,31,32] [100000,5] [] (.op ⟨.nl 1 .done,[],[],[],[100000]⟩ (.op ⟨.nl 1 .done,[],[100000],[],[100001]⟩ (.op ⟨.nl 1 .done,[],[],[],[5]⟩ (.op ⟨.nl 1 .done,[],[5],[],[]⟩ (.op ⟨.nl 1 .done,[],[],[],[5]⟩ (.op ⟨.nl 1 .done,[],[5],[],[]⟩ (.op ⟨.call 0 .done,[],[],[13001],[13001]⟩ (.op ⟨.nl 1 .done,[],[],[],[13001]⟩ (.op ⟨.fz 13001 (.nl 1 .done),[13001],[],[],[13001]⟩ Qrk))))))))))),(27,.lp [1,2,37,38] [1,2] ⟨[(3,Qk5),(39,zs3)],Jni⟩ Jnj),(38,.an (.dc 9 [43,44,45,46,47,48,49,50,51] [100200,7] [] (.op ⟨.nl 1 .done,[],[],[],[100200]⟩ (.op ⟨.nl 1 .done,[],[100200],[],[100202]⟩ (.op ⟨.nl 1 .done,[],[],[],[7]⟩ (.op ⟨.nl 1 .done,[],[7],[],[]⟩ (.op ⟨.nl 1 .done,[],[],[],[7]⟩ (.op ⟨.nl 1 .done,[],[7],[],[]⟩ (.op ⟨.call 1 .done,[],[],[14901],[14901]⟩ (.op ⟨.nl 1 .done,[],[],[],[14901]⟩ (.op ⟨.fz 14901 (.nl 1 .done),[14901],[],[],[14901]⟩ Qrk))))))))))),(44,.lp [1,2,56,57] [1,2] ⟨[(3,Qvj),(58,zs3)],Jnk⟩ Jnm),(57,.rg (.n 3 (.fz 16401 Qi6))),(63,.lp [2,74,75] [1,2] ⟨[(3,.p 100600 []),(76,zs3)],Jnn⟩ Jnp)] Tryz.func141⟩
def Q2q(N:Nat):V:=⟨⟨87,(sD [.sl J7,.str,.i]),[⟨[(0,Q2k),(1,zs7)],Jht⟩],fun(x0,x1,x2)=>Qk0 N x0 x1 x2,[]⟩,kF N [Qrw] [(8,.lp [0,1,2,6,11,12] [6] ⟨[(8,zs3),(13,zs3)],[]⟩ [(.x 0,Qk3)]),(16,.jn [13] [] Jhx)] Tryz.func87⟩
def Qx6(N:Nat):V:=⟨⟨239,Qnk,[zs5],Qg0 N,[]⟩,kF N [] [(6,.lp [0,6] [] Qnj Qri)] Tryz.func239⟩
def Qno(N:Nat):V:=⟨⟨241,⟨[(0,.d V9),(1,Gu)],Jnq⟩,[zs5],fun(x0,ca)=>Pf N x0 ca,[5000]⟩,kF N [] [] Tryz.func241⟩
def Lo(N:Nat):V:=⟨⟨328,Jnr,[zs2],fun(x0,ca)=>Zn N x0 ca,[5000]⟩,kF N [Qno] [(6,.lp [0,1,7] [] Qk3 Qs8),(18,.rg (.n 5 (.call 0 .done)))] Tryz.func328⟩
def Cv(N:Nat):V:=⟨⟨240,Jnr,[zs5],fun(x0,ca)=>Ug N x0 ca,[5000]⟩,kF N [Lo] [] Tryz.func240⟩
def Qrx(N:Nat):V:=⟨⟨242,Jg8,[zs5],Qaj N,[]⟩,kF N [] [] Tryz.func242⟩
def Qd9(N:Nat):V:=⟨⟨143,Qnk,[zs5],Al N,[]⟩,kF N [Qrx] [(6,.lp [0,5] [] zs9 Qri)] Tryz.func143⟩
def Qtc(N:Nat):V:=⟨⟨142,Jmr,[⟨[(0,.m 1),(1,zs3)],[(1,Qvk)]⟩,⟨[(0,.nm),(1,zs3)],[]⟩],Qc6 N,[]⟩,kF N [Qx6,Cv,Qd9] [(16,.lp [0,15,16] [] ⟨[(4,Q9l),(17,zs3)],[(100000,Qvk)]⟩ [(.x 0,⟨[(4,.m 100400)],[(100400,Qvk)]⟩),(.r,⟨[(2,.nm),(3,zs3)],[]⟩)]),(57,.lp [6,17,44,45] [6] ⟨[(4,Q9m),(46,zs3)],[(100100,Qvk)]⟩ [(.x 3,⟨[(4,.m 100200)],[(100200,Qvk)]⟩),(.r,⟨[(2,.nm),(3,zs3)],[]⟩)])] Tryz.func142⟩
def Qnp(N:Nat):V:=⟨⟨144,⟨[(0,.m 5000),(1,Yd),(2,zs3)],[(5000,Qvk)]⟩,[(sD [.str,.bool])],fun(x1,x2,ca)=>Pg N x1 x2 ca,[5000]⟩,kF N [] [(4,.lp [0,1] [] ⟨[(2,zs3)],[]⟩ [(.x 0,zs6),(.r,⟨[(6,Yd),(7,zs7)],[]⟩)])] Tryz.func144⟩
def Qjh(N:Nat):V:=⟨⟨88,(sD [.sl V9,.str]),[(sD [.str,.bool])],fun(x0,x1)=>Qak N x0 x1,[]⟩,kF N [Qtc,Qd9,Qnp] [(4,.an (.cn 6 (.two (.two (.reg (.n 3 (.sp 15 4 [1,6] [] Jg0 Qaz Q2l .done))) (.two Jns (.gh (.tl .done) .nil))) .nil) (.two (.two (.reg (.n 3 (.sp 15 4 [1,6] [11001] Jg0 Qaz Q2l .done))) (.two Jns .nil)) (.two (.reg (.n 4 (.call 2 Qi6))) .nil))))] Tryz.func88⟩
def Qhh(N:Nat):V:=⟨⟨52,⟨Qby,[(5000,.var 102 (.ag (sL [H4,B1,V8,Av,Bz,.ag (sL [Yd,zs3,zs7,Qro,Ou,S6,Qbz]),zs3,Jhy]))),(5001,B2),(5002,Wz),(5003,Hm),(5004,Fq),(5005,Ub),(5006,Uc),(5007,Uv)]⟩,[⟨Qi8,[(5000,Jhz),(1,Wz),(2,Hm),(3,Fq),(4,Ub),(5,Uc),(6,Uv)]⟩],fun(cx,dg,cq,g8,g9,gk,gm,gn,du,dv,dw,dy,dz,dl,g5,dx,dq,g6,g7,ce,cd,cg,ci,cj,ck,cm)=>Cj N cx dg cq g8 g9 gk gm gn du dv dw dy dz dl g5 dx dq g6 g7 ce cd cg ci cj ck cm,[]⟩,kF N [Q2q,Qjh] [(3,.an (.dc 21 [6,7,8,9,10,11,12,13,14,15,16,17,18,19,20,21,5,22,23,3,1000000020] [5000] [] (.op ⟨.nl 1 .done,[],[],[],[5000]⟩ (.op ⟨.nl 1 .done,[],[5000],[],[5000]⟩ (.op ⟨.nl 1 .done,[],[],[],[5000]⟩ (.op ⟨.nl 1 .done,[],[],[],[5000]⟩ (.op ⟨.nl 1 .done,[],[5000],[],[]⟩ (.op ⟨.nl 1 .done,[],[],[],[5000]⟩ (.op ⟨.nl 1 .done,[],[5000],[],[5000]⟩ (.op ⟨.nl 1 .done,[],[],[],[5000]⟩ (.op ⟨.nl 1 .done,[],[],[],[5000]⟩ (.op ⟨.nl 1 .done,[],[5000],[],[]⟩ (.op ⟨.nl 1 .done,[],[],[],[5000]⟩ (.op ⟨.nl 1 .done,[],[5000],[],[5000]⟩ (.op ⟨.nl 1 .done,[],[],[],[5000]⟩ (.op ⟨.nl 1 .done,[],[],[],[5000]⟩ (.op ⟨.nl 1 .done,[],[5000],[],[]⟩ (.op ⟨.call 0 .done,[],[],[12104,12103,12102,12101],[12101,12102,12103,12104]⟩ (.op ⟨.nl 1 .done,[],[],[],[12101,12102,12103,12104]⟩ (.op ⟨.nl 1 .done,[],[],[],[12101,12102,12103,12104]⟩ (.op ⟨.nl 1 .done,[],[],[],[]⟩ (.op ⟨.nl 1 .done,[],[],[3],[3]⟩ (.op ⟨.nl 1 .done,[3],[12101,12102,12103,12104],[],[3,12101,12102,12103,12104]⟩ Ln))))))))))))))))))))))),(15,.an (.dc 10 [30,31,32,33,34,35,36,37,38,1000000009] [3,5000] [] (.op ⟨.nl 1 .done,[],[],[],[5000]⟩ (.op ⟨.nl 1 .done,[],[],[],[5000]⟩ (.op ⟨.nl 1 .done,[],[],[],[3]⟩ (.op ⟨.nl 1 .done,[],[3],[],[]⟩ (.op ⟨.nl 1 .done,[],[],[],[3]⟩ (.op ⟨.nl 1 .done,[],[3],[],[]⟩ (.op ⟨.nl 1 .done,[],[5000],[],[5000]⟩ (.op ⟨.nl 1 .done,[],[],[],[5000]⟩ (.op ⟨.nl 1 .done,[],[],[],[5000]⟩ (.op ⟨.nl 1 .done,[5000],[],[],[5000,5005,5006,5007,12101,12102,12103,12104]⟩ (.tl Qi6))))))))))))),(17,.gh (.fz 12101 (.dt 5000 (.dt 3 .done)))),(17,.an (.dc 16 [43,44,45,46,47,48,49,50,51,42,52,53,54,55,56,1000000015] [3,5000] [] (.op ⟨.nl 1 .done,[],[],[],[5000]⟩ (.op ⟨.nl 1 .done,[],[],[],[3]⟩ (.op ⟨.nl 1 .done,[],[3],[],[]⟩ (.op ⟨.nl 1 .done,[],[],[],[5000]⟩ (.op ⟨.nl 1 .done,[],[5000],[],[5000]⟩ (.op ⟨.nl 1 .done,[],[],[],[5000]⟩ (.op ⟨.nl 1 .done,[],[],[],[5000]⟩ (.op ⟨.nl 1 .done,[],[5000],[],[]⟩ (.op ⟨.call 1 .done,[],[],[],[]⟩ (.op ⟨.nl 1 .done,[],[],[],[]⟩ (.op ⟨.nl 1 .done,[],[],[],[]⟩ (.op ⟨.nl 1 .done,[],[],[],[]⟩ (.op ⟨.nl 1 .done,[],[5000],[],[5000]⟩ (.op ⟨.nl 1 .done,[],[],[],[5000]⟩ (.op ⟨.nl 1 .done,[],[],[],[5000]⟩ (.op ⟨.nl 1 .done,[5000],[],[],[5000,5005,5006,5007,12102,12103,12104]⟩ (.tl .done)))))))))))))))))))] Tryz.func52⟩
def Qx7(N:Nat):V:=⟨⟨51,⟨Qby,[(5000,.var 90 I8),(5001,.var 102 (.ag (sL [H4,B1,V8,Av,Bz,.ag (sL [Yd,zs3,zs7,Ou,S6,Qbz,Qmu]),zs3,.ag (sL [V8,zs3,Yd,zs3,Yd,Qi7,Qrn,zs3,zs3,zs3,.s 5008,zs3,zs3])]))),(5002,B2),(5003,Wz),(5004,Hm),(5005,Fq),(5006,Ub),(5007,Uc),(5008,Uv)]⟩,[⟨Qi8,[(5001,Jhz),(1,Wz),(2,Hm),(3,Fq),(4,Ub),(5,Uc),(6,Uv)]⟩],fun(ct,cp,cw,dh,di,gg,gi,gj,cy,cz,d4,d5,d6,d7,d8,d9,da,db,de,cd,cg,ci,cj,ck,cm,dj)=>Qg1 N ct cp cw dh di gg gi gj cy cz d4 d5 d6 d7 d8 d9 da db de cd cg ci cj ck cm dj,[5000]⟩,kF N [Qhh] [] Tryz.func51⟩
def Qnq(N:Nat):V:=⟨⟨48,⟨[(0,.f 51 Qmv),(1,.p 5009 [])],[(5000,.var 90 I8),(5001,.var 102 (.ag (sL [H4,B1,V8,Av,Bz,.ag (sL [Yd,zs3,zs7,Ou,S6,Qbz,Qmu]),zs3,.ag (sL [V8,zs3,Yd,zs3,Yd,Qi7,Qrn,zs3,zs3,zs3,.s 5008,zs3,zs3])]))),(5002,B2),(5003,Wz),(5004,Hm),(5005,Fq),(5006,Ub),(5007,Uc),(5008,Uv),(5009,Qmw)]⟩,[⟨[],[(5001,Jhz),(5009,Qmw),(1,Wz),(2,Hm),(3,Fq),(4,Ub),(5,Uc),(6,Uv)]⟩],fun(ct,cp,cw,dh,di,gg,gi,gj,cy,cz,d4,d5,d6,d7,d8,d9,da,db,de,cd,cg,ci,cj,ck,cm,dj,ge)=>Ph N ct cp cw dh di gg gi gj cy cz d4 d5 d6 d7 d8 d9 da db de cd cg ci cj ck cm dj ge,[5000]⟩,kF N [Qx7] [(3,.rg (.n 1 Qi3))] Tryz.func48⟩
def Qji(N:Nat):V:=⟨⟨243,Jnu,[⟨Qg9,[(1,Un)]⟩],Ij N,[]⟩,kF N [] [(8,.lp [6,7] [] ⟨[(3,P3),(8,zs3)],[(100000,Un)]⟩ [(.x 0,⟨[(3,Qdj)],[(100100,Un)]⟩)]),(21,.rg (.n 2 (.fz 14 Q6o)))] Tryz.func243⟩
def Io(N:Nat):V:=⟨⟨145,Jhh,[Q2g],H1 N,[]⟩,kF N [Qji] [(3,.an (.dc 8 [3,4,5,6,7,8,9,10] [1] [] (.op ⟨.nl 1 .done,[],[],[],[1]⟩ (.op ⟨.nl 1 .done,[],[1],[],[]⟩ (.op ⟨.call 0 .done,[],[],[10501],[10501]⟩ (.op ⟨.nl 1 .done,[],[],[],[1]⟩ (.op ⟨.nl 1 .done,[],[1],[],[]⟩ (.op ⟨.nl 1 .done,[],[],[8],[8]⟩ Jnv))))))))] Tryz.func145⟩
def Qk9(N:Nat):V:=⟨⟨146,Q9d,[zs5],fun(x0,x1,x2)=>Mu N x0 x1 x2,[]⟩,kF N [] [(6,.lp [1,2,9,10] [] Jh0 Jha)] Tryz.func146⟩
def Qla(N:Nat):V:=⟨⟨171,(sD [.sl Vr]),[Jnw],Mv N,[]⟩,kF N [] [(8,.lp [9,10] [] ⟨[(3,Q9l),(11,zs3)],[(100000,Qbx)]⟩ [(.x 0,⟨[(3,.m 100200)],[(100200,Qbx)]⟩)]),(16,.jn [11] [] [(.n,⟨[(3,Q9m)],[(100100,Qbx)]⟩)])] Tryz.func171⟩
def Qry(N:Nat):V:=⟨⟨147,(sD [.sl Vr,.i]),[⟨[(0,Sy),(1,zs3)],[(1,Qbu)]⟩],fun(x0,x1)=>Qal N x0 x1,[]⟩,kF N [Qla] [(16,.lp [0,1] [11201] Qk3 [(.x 0,Qk3)]),(19,.rg (.n 5 (.sp 25 8 [8] [] ⟨[(33,zs7)],[]⟩ Qi9 Qi9 .done)))] Tryz.func147⟩
def Ki(N:Nat):V:=⟨⟨246,Q9n,[zs5],fun(x0,x1,x2)=>Yr N x0 x1 x2,[]⟩,kF N [] [] Tryz.func246⟩
def Aw(N:Nat):V:=⟨⟨247,zs2,[zs5],G7 N,[]⟩,kF N [] [] Tryz.func247⟩
def Ax(N:Nat):V:=⟨⟨244,(sD [Vr]),[zs2],G8 N,[]⟩,kF N [Ki,Aw] [(5,.rg (.n 2 (.call 0 (.n 2 (.sp 8 5 [1] [1] ⟨[(13,zs7)],[]⟩ Fs Jg1 (.n 1 (.sp 14 5 [1] [1] Jg0 Fs Q2c Vo))))))),(11,.rg (.n 2 (.call 0 (.n 2 (.sp 25 5 [1] [1] ⟨[(30,zs7)],[]⟩ Fs Q2c Vo)))))] Tryz.func244⟩
def Ip(N:Nat):V:=⟨⟨245,Qmy,[Qmy],fun(x0,x1)=>Vf N x0 x1,[]⟩,kF N [] [] Tryz.func245⟩
def Qnr(N:Nat):V:=⟨⟨149,Qmy,[Qmy],fun(x0,x1)=>Pi N x0 x1,[]⟩,kF N [Ax,Ip,Ki,Aw] [(14,.rg (.n 1 (.call 2 (.n 2 (.sp 19 7 [1,2,4] [2,4] ⟨[(26,zs7)],[]⟩ Qa0 (.nl 4 (.call 3 Qs7)) .done)))))] Tryz.func149⟩
def Qfl(N:Nat):V:=⟨⟨148,⟨[(0,.d Vr),(1,zs3),(2,Gu)],[(5000,Q2m)]⟩,[⟨[],[(5000,Q2m)]⟩],fun(x0,x1,ca)=>Wr N x0 x1 ca,[]⟩,kF N [] [] Tryz.func148⟩
def Qrz(N:Nat):V:=⟨⟨150,Qmy,[Qmy],fun(x0,x1)=>Qam N x0 x1,[]⟩,kF N [Ax,Ip,Ki] [] Tryz.func150⟩
def Qjj(N:Nat):V:=⟨⟨89,(sD [.sl Jw,Ue,.i,.i]),[Q2g],fun(x0,x1,x2,x3)=>Ik N x0 x1 x2 x3,[]⟩,kF N [Io,Qk9,Qry,Qnr,Qfl,Qrz] [(6,.rg (.n 7 (.sp 24 6 [0,2,3,8,9] [5,8,9,11701,11702,11703] ⟨[(30,zs7)],[]⟩ Qs9 Jld .done))),(22,.lp [2,3,8,9,10,11,44,45] [5,8,9,11701,11702,11703,13601] ⟨[(12,Qb8),(13,.f 148 (sL [Qb8])),(46,zs3)],[(100100,Q2m)]⟩ [(.x 0,⟨[(12,Qvj)],[(100400,Q2m)]⟩)]),(30,.jn [46] [] [(.n,⟨[(12,Qf9),(13,.f 148 (sL [Qf9]))],[(100300,Q2m)]⟩)]),(35,.an (.dr 20 (.n 5 (.sp 54 9 [12,13,15,46] [15,100100] ⟨[(63,zs7)],[]⟩ Qk4 Qk4 Q2b)) .done)),(45,.rg (.n 4 (.call 3 Jh1))),(49,.rg (.n 4 (.call 5 Jh1)))] Tryz.func89⟩
def Nm(N:Nat):V:=⟨⟨151,Q9o,[Jh2],Am N,[]⟩,kF N [] [] Tryz.func151⟩
def Qm1(N:Nat):V:=⟨⟨152,Q9o,[(sD [Ux])],Se N,[]⟩,kF N [] [] Tryz.func152⟩
def Qns(N:Nat):V:=⟨⟨153,Qvh,[zs2],fun(x0,x1)=>Pj N x0 x1,[]⟩,kF N [] [(6,.lp [1,7,8] [] Qrp Qs8)] Tryz.func153⟩
def Qea(N:Nat):V:=⟨⟨330,⟨[(0,Av),(1,Gu)],[(5000,Q2n)]⟩,[zs5],fun(x0,ca)=>E8 N x0 ca,[5000]⟩,kF N [] [(6,.lp [1,7,8] [2] Qrp [(.x 0,zs6),(.r,⟨[(3,zs7)],[]⟩)])] Tryz.func330⟩
def Qeb(N:Nat):V:=⟨⟨374,Q87,[zs5],fun(x0,x1)=>E9 N x0 x1,[]⟩,kF N [] [] Tryz.func374⟩
def Qec(N:Nat):V:=⟨⟨375,Q87,[Q2e],fun(x0,x1)=>Fa N x0 x1,[]⟩,kF N [] [] Tryz.func375⟩
def D4(N:Nat):V:=⟨⟨373,⟨[(0,Q9p),(1,.f 374 .nil),(2,.f 375 .nil)],[]⟩,[Qi5],Up N,[]⟩,kF N [Qeb,Qec] [(8,.lp [1,2,11,12] [] ⟨Jm3,Q86⟩ Jnx),(16,.jn [13] [] Jny),(22,.an (.dc 10 [19,20,21,22,23,24,25,26,27,28] [100000,9] [] (.op ⟨.nl 1 .done,[],[],[],[]⟩ (.op ⟨.nl 1 .done,[],[],[],[]⟩ (.op ⟨.nl 1 .done,[],[],[],[]⟩ (.so 21 (.op ⟨.nl 1 .done,[],[],[],[]⟩ (.op ⟨.nl 1 .done,[],[],[],[100000]⟩ (.op ⟨.nl 1 .done,[],[],[],[]⟩ (.op ⟨.nl 1 .done,[],[],[],[]⟩ (.op ⟨.nl 1 .done,[],[100000],[],[100000]⟩ (.op ⟨.nl 1 .done,[],[100000],[],[]⟩ (.op ⟨.nl 1 .done,[],[9],[],[]⟩ (.tl Qi3)))))))) Q9b)))))),(24,.an (.dc 11 [31,32,33,34,35,36,37,38,39,40,41] [100000,9] [] (.op ⟨.nl 1 .done,[],[],[],[100000]⟩ (.op ⟨.nl 1 .done,[],[],[],[]⟩ (.op ⟨.nl 1 .done,[],[],[],[]⟩ (.op ⟨.nl 1 .done,[],[],[],[]⟩ (.op ⟨.nl 1 .done,[],[],[],[100000]⟩ (.op ⟨.nl 1 .done,[],[],[],[]⟩ (.op ⟨.nl 1 .done,[],[],[],[]⟩ (.op ⟨.nl 1 .done,[],[100000],[],[100000]⟩ (.op ⟨.nl 1 .done,[],[100000],[],[]⟩ (.op ⟨.nl 1 .done,[],[9],[],[]⟩ (.op ⟨.call 1 .done,[],[],[],[]⟩ Jcm)))))))))))))] Tryz.func373⟩
def Qhi(N:Nat):V:=⟨⟨329,⟨[(0,Jm6),(1,zs3),(2,.f 330 Qmv)],[(5000,Q2n)]⟩,[Qi5],fun(x0,x1,ca)=>Ck N x0 x1 ca,[5000]⟩,kF N [Nj,Qea,D4] [(8,.lp [2,12,13] [11201] ⟨[(7,P3),(14,zs3)],Q86⟩ Jnx),(16,.jn [14] [] Jny),(20,.rg (.n 2 (.call 1 .done)))] Tryz.func329⟩
def Qhj(N:Nat):V:=⟨⟨248,(sD [.sl Jw,.i,.str]),[Qi5],fun(x0,x1,x2)=>Cl N x0 x1 x2,[]⟩,kF N [Qhi] [] Tryz.func248⟩
def Qnt(N:Nat):V:=⟨⟨249,(sD [Uf,Uf]),[zs5],fun(x0,x1)=>Pk N x0 x1,[]⟩,kF N [] [] Tryz.func249⟩
def Qjk(N:Nat):V:=⟨⟨154,Qvh,[⟨Qg9,[(1,Q9q)]⟩],fun(x0,x1)=>Il N x0 x1,[]⟩,kF N [Qhj,Qnt] [(5,.rg (.br Vo)),(12,.lp [0,1,15,16] [] ⟨[(5,Q9l),(6,.m 100001),(7,Jlg),(17,zs3)],[(100000,Qmt),(100001,Qvl),(100002,Q9q)]⟩ [(.x 0,⟨[(7,.s 101100)],[(101100,Q9q)]⟩)]),(20,.jn [17] [] [(.n,⟨[(5,.m 101000),(6,.m 101001),(7,.s 101002)],[(101000,Qmt),(101001,Qvl),(101002,Q9q)]⟩)]),(24,.jn [6,7,9,17] [9,100001,100002] [(.n,⟨[(5,Q9m)],[(100100,Qmt)]⟩)]),(31,.jn [5,7,9,17] [9,100002,100100] [(.n,⟨[(6,.m 100300),(51,zs7)],[(100300,Qvl)]⟩)]),(31,.gh (.op (.v 9 [.f 5 5]) 100001 700000 .done)),(31,.rg (.n 11 (.sp 43 8 [5,6,7,9,17] [100001,700000] ⟨[(51,zs7)],[]⟩ Qi9 (.nl 3 (.br (.nl 2 (.br Vo)))) (.cl 100001 .done)))),(36,.jn [5,7,9,17] [9,100002,100100] [(.n,⟨[(6,.m 100500)],[(100500,Qvl)]⟩)]),(37,.jn [5,7,9,17] [] [(.n,⟨[(6,.m 100400),(56,zs7)],[(100400,Qvl)]⟩)]),(37,.gh (.op (.v 9 [.f 5 5]) 100300 700001 .done)),(37,.rg (.n 3 (.br (.n 1 (.cl 100300 .done))))),(39,.rg (.n 4 (.br .done))),(42,.jn [5,7,9,17] [9,100002,100100] [(.n,⟨[(6,.m 100600)],[(100600,Qvl)]⟩)]),(42,.gh (.op (.v 9 [.f 5 5]) 100500 700002 .done)),(42,.rg (.n 3 (.br (.n 3 (.cl 100500 .done))))),(44,.an (.dc 13 [67,68,69,70,71,72,73,74,75,76,77,78,10] [9] [] (.op ⟨.nl 1 .done,[],[],[],[]⟩ (.op ⟨.nl 1 .done,[],[],[],[9]⟩ (.op ⟨.nl 1 .done,[],[9],[],[]⟩ (.op ⟨.nl 1 .done,[],[],[],[9]⟩ (.op ⟨.nl 1 .done,[],[9],[],[]⟩ (.op ⟨.nl 1 .done,[],[],[],[]⟩ (.op ⟨.nl 1 .done,[],[],[],[9]⟩ (.op ⟨.nl 1 .done,[],[9],[],[]⟩ (.op ⟨.nl 1 .done,[],[],[],[9]⟩ (.op ⟨.nl 1 .done,[],[9],[],[]⟩ (.op ⟨.call 0 .done,[],[],[17701],[17701]⟩ (.op ⟨.nl 1 .done,[],[],[],[17701]⟩ (.op ⟨.nl 1 .done,[],[],[10],[10]⟩ Ln))))))))))))))),(49,.gh (.fz 17701 .done)),(49,.lp [5,6,7,10,17] [9,10,17701,100002,100100,100600] Jh0 [(.x 2,Jh0)]),(52,.jn [11] [] Jrf),(52,.an (.dc 10 [79,80,81,82,83,84,85,86,87,88] [] [100002,10] (.op ⟨.nl 1 .done,[],[],[],[]⟩ (.op ⟨.nl 1 .done,[],[],[],[100002]⟩ (.op ⟨.nl 1 .done,[],[100002],[],[]⟩ (.op ⟨.nl 1 .done,[],[],[],[]⟩ (.op ⟨.nl 1 .done,[],[],[],[]⟩ (.so 83 (.op ⟨.nl 1 .done,[],[],[],[100002]⟩ (.op ⟨.nl 1 .done,[],[],[],[]⟩ (.op ⟨.nl 1 .done,[],[100002],[],[100002]⟩ (.op ⟨.nl 1 .done,[],[100002],[],[]⟩ (.op ⟨.nl 1 .done,[],[10],[],[17701]⟩ (.tl Jg6)))))) Jm4)))))))),(59,.rg (.n 2 (.fz 100002 Q6o)))] Tryz.func154⟩
def Gw(N:Nat):V:=⟨⟨251,Q87,[Jm0],fun(x0,x1)=>U9 N x0 x1,[]⟩,kF N [Ky] [(6,.rg (.n 1 (.call 0 (.n 2 (.sp 21 4 [3,4,6] [2,3,4,6] Jh3 Qaz (.nl 1 Jg2) Q84)))))] Tryz.func251⟩
def Ow(N:Nat):V:=⟨⟨385,zs2,[zs2],Zt N,[]⟩,kF N [] [(7,.jn [] [] [(.n,Q6l)])] Tryz.func385⟩
def Qnu(N:Nat):V:=⟨⟨403,zs2,[zs5],Pl N,[]⟩,kF N [] [] Tryz.func403⟩
def Iq(N:Nat):V:=⟨⟨386,Nh,[zs2],fun(x0,x1)=>Ka N x0 x1,[]⟩,kF N [Qnu] [(6,.rg (.n 3 (.sp 9 3 [0,1,5] [5] ⟨[(12,zs7)],[]⟩ Jh4 Jck .done)))] Tryz.func386⟩
def Qnv(N:Nat):V:=⟨⟨341,zs2,[(sD [Qey])],Pm N,[]⟩,kF N [Ow,Iq] [(14,.lp [0,2] [2] ⟨[(3,S5)],[(100000,Q9r)]⟩ [(.x 0,⟨Qvg,[(100100,Q9r)]⟩)]),(27,.lp [2] [2] ⟨[(0,zs3),(3,Qk5)],[(100200,Q9r)]⟩ [(.x 2,⟨[(0,zs3),(3,Qf9)],[(100300,Q9r)]⟩)])] Tryz.func341⟩
def Tc(N:Nat):V:=⟨⟨268,Nh,[zs2],fun(x0,x1)=>Gm N x0 x1,[]⟩,kF N [Qnv] [(7,.jn [] [5] [(.n,zs9)])] Tryz.func268⟩
def Qjl(N:Nat):V:=⟨⟨402,Nh,[zs2],fun(x0,x1)=>Im N x0 x1,[]⟩,kF N [Iq] [] Tryz.func402⟩
def Qr0(N:Nat):V:=⟨⟨384,(sD [Qey]),[Nh],Qan N,[]⟩,kF N [Qjl,Ow,Iq] [(4,.jn [1] [1] [(.n,Q19)]),(4,.an (.dc 11 [6,7,8,9,10,11,12,13,14,15,16] [] [1] (.op ⟨.nl 1 .done,[],[],[],[1]⟩ (.op ⟨.nl 1 .done,[],[1],[],[]⟩ (.op ⟨.nl 1 .done,[],[],[],[]⟩ (.op ⟨.nl 1 .done,[],[],[],[]⟩ (.so 9 Q9b (.op ⟨.nl 1 .done,[],[],[],[1]⟩ (.op ⟨.nl 1 .done,[],[1],[],[]⟩ (.op ⟨.nl 1 .done,[],[],[],[1]⟩ (.op ⟨.nl 1 .done,[],[1],[],[]⟩ (.op ⟨.nl 1 .done,[],[],[],[1]⟩ (.op ⟨.nl 1 .done,[],[1],[],[]⟩ (.op ⟨.call 0 .done,[],[],[],[]⟩ (.tl Qs7))))))))))))))),(11,.an (.dc 5 [19,20,21,22,23] [1] [] (.op ⟨.nl 1 .done,[],[],[],[1]⟩ (.op ⟨.nl 1 .done,[],[1],[],[]⟩ (.op ⟨.call 1 .done,[],[],[],[]⟩ Jnv))))),(16,.lp [1] [1] Jhc [(.x 0,Q6l)])] Tryz.func384⟩
def Qlb(N:Nat):V:=⟨⟨340,Nh,[zs2],fun(x0,x1)=>Ao N x0 x1,[]⟩,kF N [Qr0] [] Tryz.func340⟩
def Ld(N:Nat):V:=⟨⟨267,Nh,[Q2e],fun(x0,x1)=>Ws N x0 x1,[]⟩,kF N [Qlb] [(5,.jn [4] [4] [(.n,⟨[(5,S5)],[(100000,Jhn)]⟩)])] Tryz.func267⟩
def Ox(N:Nat):V:=⟨⟨252,(sD [.i,Q9]),[Qi5],fun(x0,x1)=>Ef N x0 x1,[]⟩,kF N [Tc,Ld] [(16,.lp [0,3] [3] ⟨[(5,P3),(6,zs3)],Q86⟩ [(.x 0,⟨[(5,Qdj)],[(100100,Dz)]⟩)])] Tryz.func252⟩
def Qed(N:Nat):V:=⟨⟨250,⟨[(0,Qdk),(1,Gu),(2,I8),(3,.p 5003 [])],[(5000,Ot),(5001,.var 242 Ou),(5002,Dz),(5003,Ot)]⟩,[⟨[],[(5001,.var 242 Sy),(1,Dz)]⟩],fun(x0,ca,cd,cg)=>Fb N x0 ca cd cg,[5000,5003]⟩,kF N [Gw,Ox] [(7,.an (.dc 4 [16,17,18,19] [5001,5] [5003] (.op ⟨.nl 1 .done,[],[5001],[],[5002]⟩ (.op ⟨.nl 1 .done,[],[5003],[],[]⟩ (.op ⟨.nl 1 .done,[],[5],[],[]⟩ (.op ⟨.call 1 .done,[],[],[11901],[11901]⟩ Jcm))))))] Tryz.func250⟩
def Qee(N:Nat):V:=⟨⟨376,Jnz,[Jn0],fun(x0,x1,ce)=>Fc N x0 x1 ce,[]⟩,kF N [Ky] [(3,.lp [1,7,8] [] ⟨[(2,Gu),(9,zs3)],[(5000,.var 413 Qnl),(100001,Qmz)]⟩ [(.x 0,⟨[],[(5000,.var 413 Qx2),(100201,Qmz)]⟩)]),(11,.jn [9] [] [(.n,⟨[(2,Gu)],[(5000,.var 413 Qbw),(100101,Qmz)]⟩)])] Tryz.func376⟩
def Td(N:Nat):V:=⟨⟨376,Jnz,[Jn0],fun(x0,x1,ce)=>Wd N x0 x1 ce,[]⟩,kF N [Ky] [(3,.lp [1,7,8] [] ⟨[(2,Gu),(9,zs3)],[(5000,.var 413 Qnl),(100001,Qmz)]⟩ [(.x 0,⟨[],[(5000,.var 413 Qx2),(100201,Qmz)]⟩)]),(11,.jn [9] [] [(.n,⟨[(2,Gu)],[(5000,.var 413 Qbw),(100101,Qmz)]⟩)])] Tryz.func376⟩
def Qhk(N:Nat):V:=⟨⟨332,(sD [.bool,.bool]),[zs5],fun(x0,x1)=>Cm N x0 x1,[]⟩,kF N [] [] Tryz.func332⟩
def Qhl(N:Nat):V:=⟨⟨331,⟨[(0,Q9p),(1,Q9p),(2,.f 332 .nil)],[]⟩,[Qi5],fun(x0,x1)=>Cn N x0 x1,[]⟩,kF N [Qee,Td,fun _=>⟨_,Gt⟩,Qhk] [(7,.rg (.n 2 (.call 0 .done))),(9,.rg (.n 2 (.call 1 .done))),(22,.lp [2,7,24,25] [7,12101] ⟨[(9,P3),(10,Q2h),(11,zs7),(26,zs3)],[(100000,Dz),(100001,Q9s)]⟩ [(.x 0,⟨[(9,Qrm)],Jhg⟩)]),(30,.jn [26] [] [(.n,⟨[(9,Qmr),(10,Jhj),(11,zs7)],[(100300,Dz),(100301,Q9s)]⟩)]),(34,.an (.dr 8 Qi4 Vo)),(37,.an (.dr 16 (.n 6 (.sp 44 10 [9,10,11,12,13,26] [13,100000,100001] ⟨[(54,zs7)],[]⟩ Q9a Q9a .done)) .done)),(42,.rg (.n 7 (.call 3 Vo))),(44,.jn [10,14,26] [13,100001] [(.n,⟨[(9,Qha)],[(100200,Dz)]⟩)])] Tryz.func331⟩
def Qlc(N:Nat):V:=⟨⟨253,(sD [.sl Q9]),[Qi5],M2 N,[]⟩,kF N [Qhl] [] Tryz.func253⟩
def Qnw(N:Nat):V:=⟨⟨155,(sD [.sl Uf,.i,.i]),[Qi5],fun(x0,x1,x2)=>Pn N x0 x1 x2,[]⟩,kF N [Qed,Qlc,Ox] [(10,.lp [17,18] [] ⟨[(4,S5),(7,Q2h),(8,.f 250 (sL [.p 100002 [],Q2h,S5])),(19,zs3)],[(100000,Ot),(100001,.var 242 Jp2),(100002,Ot),(100003,Dz)]⟩ [(.x 0,⟨[(4,Qf9),(7,Jhj)],[(100300,Ot),(100301,.var 242 Jhs),(100302,Dz)]⟩)]),(24,.lp [19,24,25] [10] ⟨[(4,Qb8),(7,Jp0),(8,.f 250 (sL [.p 100102 [],Jp0,Qb8])),(26,zs3)],[(100100,Ot),(100101,.var 242 Jg5),(100102,Ot),(100103,Dz)]⟩ [(.x 2,⟨[(4,Qk5),(7,Jhm),(8,.f 250 (sL [.p 100202 [],Jhm,Qk5]))],[(100200,Ot),(100201,.var 242 Jp1),(100202,Ot),(100203,Dz)]⟩)]),(35,.rg (.n 2 (.call 0 .done))),(44,.lp [4,36,37] [13601,100300,100301,100302] ⟨[(13,Qrm),(38,zs3)],Jhg⟩ [(.x 4,⟨[(13,Q85)],[(100500,Dz)]⟩)])] Tryz.func155⟩
def Qr1(N:Nat):V:=⟨⟨334,⟨[(0,.d Yp),(1,Gu),(2,I8)],Jn1⟩,[zs5],fun(x0,ca,ce)=>Qao N x0 ca ce,[5000,5001]⟩,kF N [] [] Tryz.func334⟩
def Ir(N:Nat):V:=⟨⟨333,⟨[(0,.d (.sl Yp)),(1,.f 334 (sL [Gu,I8]))],Jn1⟩,[⟨Qg9,[(1,Qja)]⟩],fun(x0,ca,ce)=>Za N x0 ca ce,[5000,5001]⟩,kF N [Qr1] [(8,.lp [1,8,9] [] ⟨Jhi,[(100000,Qja)]⟩ [(.x 0,⟨Jle,[(100200,Qja)]⟩)]),(16,.jn [10] [] [(.n,⟨[(5,Qdj)],[(100100,Qja)]⟩)]),(20,.rg (.n 2 (.call 0 .done)))] Tryz.func333⟩
def Qnx(N:Nat):V:=⟨⟨335,Jrh,[⟨[(0,.ag (sL [Yd,zs3,zs3,Yd,zs7,Sy]))],[(1,Qvm)]⟩],Po N,[]⟩,kF N [] [(8,.lp [1,2,7,8] [1,2] ⟨[(3,P3),(9,zs3)],[(100000,Qvm)]⟩ [(.x 0,⟨[(3,Qdj)],[(100100,Qvm)]⟩)]),(21,.rg (.n 2 (.fz 15 Q6o)))] Tryz.func335⟩
def Qx8(N:Nat):V:=⟨⟨254,(sD [.sl Yp,.str,.i]),[⟨[(0,.ag (sL [Yd,zs3,zs3,Yd,zs7,Sy])),(1,zs7)],[(1,Qvm)]⟩],fun(x0,x1,x2)=>Qg2 N x0 x1 x2,[]⟩,kF N [Ir,Qnx] [] Tryz.func254⟩
def Qa6(N:Nat):V:=⟨⟨156,(sD [Uf,.sl Yp,Q9]),[⟨Qg9,[(1,Q9t)]⟩],fun(x0,x1,x2)=>Gn N x0 x1 x2,[]⟩,kF N [Gw,Qx8] [(6,.lp [1,3,5,18,19] [3,5] ⟨[(20,zs3)],[]⟩ [(.x 0,zs6),(.r,⟨[(6,Qrm)],[(100400,Q9t)]⟩)]),(33,.lp [9,42,43] [8,9,11,13801] ⟨[(13,Qdj),(44,zs3)],[(100100,Q9t)]⟩ [(.x 2,⟨[(13,Qha)],[(100200,Q9t)]⟩)])] Tryz.func156⟩
def Oy(N:Nat):V:=⟨⟨255,Q9u,[zs5],fun(x0,x1)=>Eg N x0 x1,[]⟩,kF N [] [] Tryz.func255⟩
def Qr2(N:Nat):V:=⟨⟨256,(sD [Yn,Yn,.i]),[Jh2],fun(x0,x1,x2)=>Qap N x0 x1 x2,[]⟩,kF N [Nm,Oy] [(5,.jn [6] [3,4,6] [(.n,⟨[(7,S5)],[(100000,.var 68 (.ag (sL [zs3,zs3,Yd,zs3,zs3,Qnl,Qdk,zs3,zs3,zs3,zs7]))),(100001,Qrj)]⟩)])] Tryz.func256⟩
def Qny(N:Nat):V:=⟨⟨257,Q9u,[zs5],fun(x0,x1)=>Pp N x0 x1,[]⟩,kF N [] [] Tryz.func257⟩
def Qhm(N:Nat):V:=⟨⟨157,⟨[(0,Gu),(1,.d Eb)],[(5000,.var 234 (.ag (sL [Qro,Qvi]))),(5001,Un),(5002,Qb0)]⟩,[⟨[],[(5000,.var 234 (.ag (sL [Sy,Qvi]))),(5002,Qb0),(1,Un)]⟩],fun(x1,ce,cd)=>Co N x1 ce cd,[]⟩,kF N [Qm1,Nm,Oy,Qr2,Qny] [(4,.an (.dc 7 [9,10,11,12,13,14,15] [5000,3] [] (.op ⟨.nl 1 .done,[],[],[],[5000]⟩ (.op ⟨.nl 1 .done,[],[5000],[],[5000]⟩ (.op ⟨.nl 1 .done,[],[],[],[5000]⟩ (.op ⟨.nl 1 .done,[],[5000],[],[5002]⟩ (.op ⟨.nl 1 .done,[],[],[],[3]⟩ (.op ⟨.nl 1 .done,[],[3],[],[]⟩ Jn2)))))))),(14,.gh (.fz 11901 .done)),(14,.lp [0,3,23,24] [3,5000,5001,5002] ⟨[(4,S5),(25,zs3)],[(100000,.var 68 (.ag (sL [zs3,zs3,Yd,zs3,zs3,Qnl,Qdk,zs3,zs3,zs3,zs7]))),(100001,.tail 9 .str)]⟩ [(.x 0,⟨[(4,Qb8)],[(100100,.var 68 (.ag (sL [zs3,zs3,Yd,zs3,zs3,Qbw,Qdk,zs3,zs3,zs3,zs7]))),(100101,.tail 9 .str)]⟩)]),(37,.lp [0,4] [3,5000,5001,5002,100100,100101] Qnj [(.x 2,Qnj)]),(40,.jn [7] [] [(.n,Jpt)]),(40,.an (.dc 16 [38,39,40,41,42,43,44,45,46,47,48,49,50,51,52,53] [] [5000,5001,100100] (.op ⟨.nl 1 .done,[],[],[],[]⟩ (.op ⟨.nl 1 .done,[],[],[],[5000]⟩ (.op ⟨.nl 1 .done,[],[5000],[],[5000]⟩ (.op ⟨.nl 1 .done,[],[],[],[5000]⟩ (.op ⟨.nl 1 .done,[],[5000],[],[5001]⟩ (.op ⟨.nl 1 .done,[],[5001],[],[]⟩ (.op ⟨.nl 1 .done,[],[],[],[]⟩ (.op ⟨.nl 1 .done,[],[],[],[]⟩ (.so 45 (.op ⟨.nl 1 .done,[],[],[],[5000]⟩ (.op ⟨.nl 1 .done,[],[5000],[],[5000]⟩ (.op ⟨.nl 1 .done,[],[],[],[5000]⟩ (.op ⟨.nl 1 .done,[],[5000],[],[5001]⟩ (.op ⟨.nl 1 .done,[],[],[],[]⟩ (.op ⟨.nl 1 .done,[],[5001],[],[5001]⟩ (.op ⟨.nl 1 .done,[],[5001],[],[]⟩ (.op ⟨.nl 1 .done,[],[100100],[],[100101]⟩ (.tl (.call 4 Vo)))))))))) (.op ⟨.nl 1 .done,[],[],[],[]⟩ Q9b)))))))))))),(47,.rg (.n 5 (.fz 5001 Q6o))),(52,.gh (.dt 100100 .done)),(52,.an (.dc 6 [80,81,82,83,84,85] [5000,100100] [] (.op ⟨.nl 1 .done,[],[],[],[5000]⟩ (.op ⟨.nl 1 .done,[],[5000],[],[5000]⟩ (.op ⟨.nl 1 .done,[],[],[],[5000]⟩ (.op ⟨.nl 1 .done,[],[5000],[],[5002]⟩ (.op ⟨.nl 1 .done,[],[100100],[],[]⟩ Jn2)))))))] Tryz.func157⟩
def Qld(N:Nat):V:=⟨⟨90,(sD [.sl Jw,.sl Yp,Ue,.i,.i]),[Q2g],fun(x0,x1,x2,x3,x4)=>M3 N x0 x1 x2 x3 x4,[]⟩,kF N [Nm,Qm1,Qns,Qjk,Qnw,Qa6,Qhm] [(8,.lp [0,1,3,4,7,10,27,28] [7,10] ⟨[(11,S5),(29,zs3)],[(100000,.var 234 (.ag (sL [Qnl,.m 100002]))),(100001,Un),(100002,Qb0)]⟩ [(.x 0,⟨[(11,Qb8)],[(100100,.var 234 (.ag (sL [Qbw,.m 100102]))),(100101,Un),(100102,Qb0)]⟩)]),(20,.an (.dc 9 [33,34,35,36,37,38,39,40,41] [100000,13,100001] [] (.op ⟨.nl 1 .done,[],[],[],[100000]⟩ (.op ⟨.nl 1 .done,[],[],[],[100000]⟩ (.op ⟨.nl 1 .done,[],[100000],[],[100000]⟩ (.op ⟨.nl 1 .done,[],[],[],[100000]⟩ (.op ⟨.nl 1 .done,[],[100000],[],[100001]⟩ (.op ⟨.nl 1 .done,[],[13],[],[]⟩ (.op ⟨.call 0 .done,[],[],[13901],[13901]⟩ (.op ⟨.fz 13901 (.nl 1 .done),[13901],[],[],[13901]⟩ (.op ⟨.nl 1 .done,[100001],[],[41],[41]⟩ Qrk))))))))))),(21,.an (.dc 6 [44,45,46,47,48,49] [100000,13] [] (.op ⟨.nl 1 .done,[],[],[],[100000]⟩ (.op ⟨.nl 1 .done,[],[100000],[],[100000]⟩ (.op ⟨.nl 1 .done,[],[],[],[100000]⟩ (.op ⟨.nl 1 .done,[],[100000],[],[100002]⟩ (.op ⟨.nl 1 .done,[],[13],[],[]⟩ (.op ⟨.call 1 .done,[],[],[],[]⟩ Ln)))))))),(24,.an (.dc 8 [51,52,53,54,55,56,57,14] [7] [] (.op ⟨.nl 1 .done,[],[],[],[7]⟩ (.op ⟨.nl 1 .done,[],[7],[],[]⟩ (.op ⟨.nl 1 .done,[],[],[53],[53]⟩ (.op ⟨.nl 1 .done,[],[],[],[7]⟩ (.op ⟨.nl 1 .done,[],[7],[],[]⟩ (.op ⟨.nl 1 .done,[],[],[56],[56]⟩ (.op ⟨.nl 1 .done,[],[],[],[53,56]⟩ (.op ⟨.nl 1 .done,[],[],[14],[14]⟩ Ln)))))))))),(28,.jn [10,14] [7,10,14,53,56] [(.n,⟨[(11,.p 100900 [])],[(100900,.var 234 (.ag (sL [.s 100901,.m 100902]))),(100901,Un),(100902,Qb0)]⟩)]),(36,.lp [1,4,10,14,16,77,78] [17301,17701] ⟨[(11,Qk5),(79,zs3)],[(100200,.var 234 (.ag (sL [Qx2,.m 100202]))),(100201,Un),(100202,Qb0)]⟩ [(.x 2,⟨[(11,.p 100800 [])],[(100800,.var 234 (.ag (sL [.s 100801,.m 100802]))),(100801,Un),(100802,Qb0)]⟩)]),(50,.lp [18,79,83,84] [18] ⟨[(11,Qf9),(85,zs3)],[(100300,.var 234 (.ag (sL [Q2j,.m 100302]))),(100301,Un),(100302,Qb0)]⟩ [(.x 4,⟨[(11,.p 100700 [])],[(100700,.var 234 (.ag (sL [Jhw,.m 100702]))),(100701,Un),(100702,Qb0)]⟩)]),(64,.lp [85,92,93] [20,19201] ⟨[(11,Qvj),(94,zs3)],[(100400,.var 234 (.ag (sL [Q9i,.m 100402]))),(100401,Un),(100402,Qb0)]⟩ [(.x 6,⟨[(11,.p 100600 [])],[(100600,.var 234 (.ag (sL [Jhv,.m 100602]))),(100601,Un),(100602,Qb0)]⟩)]),(72,.jn [94] [] [(.n,⟨[(11,.p 100500 [])],[(100500,.var 234 (.ag (sL [Jhu,.m 100502]))),(100501,Un),(100502,Qb0)]⟩)])] Tryz.func90⟩
def Qr3(N:Nat):V:=⟨⟨336,Q9o,[Jh2],Qaq N,[]⟩,kF N [] [] Tryz.func336⟩
def Qnz(N:Nat):V:=⟨⟨258,Jnu,[⟨Qg9,[(1,Un)]⟩],Pq N,[]⟩,kF N [Qr3] [(8,.lp [6,7] [] ⟨[(3,P3),(8,zs3)],[(100000,Un)]⟩ [(.x 0,⟨[(3,Qdj)],[(100100,Un)]⟩)]),(19,.rg (.n 2 (.call 0 (.fz 11401 Q6o))))] Tryz.func258⟩
def Qle(N:Nat):V:=⟨⟨379,Nh,[zs2],fun(x0,x1)=>Kv N x0 x1,[]⟩,kF N [] [] Tryz.func379⟩
def Qlf(N:Nat):V:=⟨⟨337,Q9u,[zs5],fun(x0,x1)=>M4 N x0 x1,[]⟩,kF N [Qle] [] Tryz.func337⟩
def Le(N n:Nat):Con:=⟨259,(sD [.sl Yn,.i,.i]),[(sD [.sl .i])],fun(x0,x1,x2)=>Uh N n x0 x1 x2,[]⟩
theorem Nn(N:Nat):∀n,KO (Le N n)
 | 0=>⟨F4 fun _=>rfl,I6 Tryz.func259 rfl⟩
 | n+1=>have ih:=Nn N n; kF N [fun _=>⟨_,ih⟩,Qlf] [(12,.lp [2] [] Jmw [(.x 0,⟨[(7,Qdj)],[(100100,H3)]⟩)]),(37,.lp [0,10,11] [] ⟨[(12,Qha),(13,zs3),(14,zs3)],Jhf⟩ [(.x 2,⟨[(12,Qrm)],Jhe⟩)]),(46,.jn [12,13,14] [100200] [(.n,⟨[(85,zs7)],[]⟩)]),(46,.an (.dc 24 [58,59,60,61,62,63,64,65,66,67,68,69,70,71,72,73,74,75,76,77,78,79,80,81] [] [] (.op ⟨.nl 1 .done,[],[],[],[]⟩ (.op ⟨.nl 1 .done,[],[],[],[]⟩ (.op ⟨.nl 1 .done,[],[],[],[]⟩ (.op ⟨.nl 1 .done,[],[],[],[]⟩ (.op ⟨.nl 1 .done,[],[],[],[]⟩ (.so 62 (.op ⟨.nl 1 .done,[],[],[],[]⟩ (.op ⟨.nl 1 .done,[],[],[],[]⟩ (.op ⟨.nl 1 .done,[],[],[],[]⟩ (.op ⟨.nl 1 .done,[],[],[],[]⟩ (.op ⟨.nl 1 .done,[],[],[],[]⟩ Jn3))))) (.op ⟨.nl 1 .done,[],[],[],[]⟩ (.op ⟨.nl 1 .done,[],[],[],[]⟩ (.op ⟨.nl 1 .done,[],[],[],[]⟩ (.op ⟨.nl 1 .done,[],[],[],[]⟩ (.op ⟨.nl 1 .done,[],[],[],[]⟩ (.so 67 (.op ⟨.nl 1 .done,[],[],[],[]⟩ (.op ⟨.nl 1 .done,[],[],[],[]⟩ (.op ⟨.nl 1 .done,[],[],[],[]⟩ (.op ⟨.nl 1 .done,[],[],[],[]⟩ (.op ⟨.nl 1 .done,[],[],[],[]⟩ (.op ⟨.nl 1 .done,[],[],[],[]⟩ (.op ⟨.nl 1 .done,[],[],[],[]⟩ (.op ⟨.nl 1 .done,[],[],[],[]⟩ (.op ⟨.nl 1 .done,[],[],[],[]⟩ (.op ⟨.nl 1 .done,[],[],[],[]⟩ (.op ⟨.nl 1 .done,[],[],[],[]⟩ (.op ⟨.nl 1 .done,[],[],[],[]⟩ (.op ⟨.nl 1 .done,[],[],[],[]⟩ (.op ⟨.nl 1 .done,[],[],[],[]⟩ (.tl (.call 1 Jck)))))))))))))))) Jn3))))))))))))))] Tryz.func259
def Qn0(N:Nat):V:=⟨Le N N,Nn N N⟩
def Qn1(N:Nat):V:=⟨⟨260,(sD [Yn,.i,.i,.i,.str,.bool,.i]),[zs5],fun(x0,x1,x2,x3,x4,x5,x6)=>Pr N x0 x1 x2 x3 x4 x5 x6,[]⟩,kF N [Lc] [(4,.rg (.n 10 (.sp 26 6 [1,2,4,5,6,7] [7] ⟨[(32,zs7)],[]⟩ Qs9 (.nl 3 Jg2) .done))),(22,.lp [4,7,53,54] [7] ⟨[(55,zs3)],[]⟩ [(.x 0,zs6),(.r,⟨[(14,zs7)],[]⟩)])] Tryz.func260⟩
def Q2r(N:Nat):V:=⟨⟨261,Q9o,[(sD [Sc])],Qk1 N,[]⟩,kF N [] [] Tryz.func261⟩
def Qtd(N:Nat):V:=⟨⟨158,(sD [.sl Yn,.i,.i,.i,.str,.bool,.i,.i]),[⟨[(0,Sy),(1,Q2a),(2,zs3)],[(1,Un),(2,Ub)]⟩],fun(x0,x1,x2,x3,x4,x5,x6,x7)=>Qc8 N x0 x1 x2 x3 x4 x5 x6 x7,[]⟩,kF N [Qnz,Qn0,Qn1,Q2r] [(12,.lp [0,1,2,3,4,5,6,32,33] [] ⟨[(7,zs3),(19,P3),(20,Qnl),(34,zs3)],[(100000,Un),(100001,Ub)]⟩ [(.x 0,⟨[(7,zs3),(19,Qmr),(20,Q2j)],[(100300,Un),(100301,Ub)]⟩)]),(20,.jn [34] [] [(.n,⟨[(7,zs3),(19,Qha),(20,Qx2)],[(100200,Un),(100201,Ub)]⟩),(.x 0,⟨[(7,zs3),(19,Qdj),(20,Qbw)],[(100100,Un),(100101,Ub)]⟩)])] Tryz.func158⟩
def Qn2(N:Nat):V:=⟨⟨91,(sD [Ue,J2,.str,.bool]),[⟨[(0,Jcl),(1,.s 4),(2,zs3)],[(1,Un),(2,Qbu),(3,Qbv),(4,Ub)]⟩],fun(x0,x1,x2,x3)=>Ps N x0 x1 x2 x3,[]⟩,kF N [Io,Qtd] [] Tryz.func91⟩
def Qlg(N:Nat):V:=⟨⟨54,⟨Qby,[(5000,.var 102 (.ag (sL [H4,B1,V8,Av,Bz,.ag (sL [Yd,zs3,zs7,Qmx,Qro,Ou,S6]),zs3,.ag (sL [V8,zs3,Yd,zs3,Yd,Qbz,Qmu,zs3,zs3,zs3,Qi7,zs3,zs3])]))),(5001,Wz),(5002,Hm),(5003,Fq),(5004,Ub),(5005,Uc),(5006,Uv)]⟩,[⟨[],[(5000,.var 102 (.ag (sL [H4,Jcl,V8,Av,Bz,.ag (sL [Yd,zs3,zs7,Qmx,.s 4,.s 5,.s 6]),zs3,.ag (sL [V8,zs3,Yd,zs3,Yd,.s 7,.s 8,zs3,zs3,zs3,.s 9,zs3,zs3])]))),(1,Un),(2,Qbu),(3,Qbv),(4,Wz),(5,Hm),(6,Fq),(7,Ub),(8,Uc),(9,Uv)]⟩],fun(cx,dg,cq,g8,g9,gk,gm,gn,gq,du,dv,dw,dy,dz,dl,g5,dx,dq,g6,g7,ce,cd,cg,ci,cj,ck)=>M5 N cx dg cq g8 g9 gk gm gn gq du dv dw dy dz dl g5 dx dq g6 g7 ce cd cg ci cj ck,[5004]⟩,kF N [Qjj,Qld,Qn2] [(1,.an (.dc 21 [5,6,7,8,9,10,11,12,13,14,15,16,17,18,19,20,21,22,23,24,2] [5000] [] (.op ⟨.nl 1 .done,[],[],[],[5000]⟩ (.op ⟨.nl 1 .done,[],[5000],[],[5000]⟩ (.op ⟨.nl 1 .done,[],[],[],[5000]⟩ (.op ⟨.nl 1 .done,[],[],[],[5000]⟩ (.op ⟨.nl 1 .done,[],[5000],[],[]⟩ (.op ⟨.nl 1 .done,[],[],[],[5000]⟩ (.op ⟨.nl 1 .done,[],[5000],[],[5000]⟩ (.op ⟨.nl 1 .done,[],[],[],[5000]⟩ (.op ⟨.nl 1 .done,[],[5000],[],[]⟩ (.op ⟨.nl 1 .done,[],[],[],[5000]⟩ (.op ⟨.nl 1 .done,[],[5000],[],[5000]⟩ (.op ⟨.nl 1 .done,[],[],[],[5000]⟩ (.op ⟨.nl 1 .done,[],[],[],[5000]⟩ (.op ⟨.nl 1 .done,[],[5000],[],[]⟩ (.op ⟨.nl 1 .done,[],[],[],[5000]⟩ (.op ⟨.nl 1 .done,[],[5000],[],[5000]⟩ (.op ⟨.nl 1 .done,[],[],[],[5000]⟩ (.op ⟨.nl 1 .done,[],[],[],[5000]⟩ (.op ⟨.nl 1 .done,[],[5000],[],[]⟩ (.op ⟨.call 0 .done,[],[],[12403,12402,12401],[12401,12402,12403]⟩ (.op ⟨.nl 1 .done,[],[],[2],[2]⟩ Ln))))))))))))))))))))))),(3,.an (.dr 21 (.n 21 .done) Jg6)),(5,.gh (.fz 14601 (.dt 2 (.fz 14602 (.dt 2 (.fz 14603 (.dt 2 .done))))))),(5,.an (.dc 22 [48,49,50,51,52,53,54,55,56,57,58,59,60,61,62,63,47,64,65,66,1000000020,3] [2,5000] [] (.op ⟨.nl 1 .done,[],[2],[],[]⟩ (.op ⟨.nl 1 .done,[],[],[],[5000]⟩ (.op ⟨.nl 1 .done,[],[5000],[],[5000]⟩ (.op ⟨.nl 1 .done,[],[],[],[5000]⟩ (.op ⟨.nl 1 .done,[],[5000],[],[]⟩ (.op ⟨.nl 1 .done,[],[],[],[5000]⟩ (.op ⟨.nl 1 .done,[],[5000],[],[5000]⟩ (.op ⟨.nl 1 .done,[],[],[],[5000]⟩ (.op ⟨.nl 1 .done,[],[],[],[5000]⟩ (.op ⟨.nl 1 .done,[],[5000],[],[]⟩ (.op ⟨.nl 1 .done,[],[],[],[5000]⟩ (.op ⟨.nl 1 .done,[],[5000],[],[5000]⟩ (.op ⟨.nl 1 .done,[],[],[],[5000]⟩ (.op ⟨.nl 1 .done,[],[],[],[5000]⟩ (.op ⟨.nl 1 .done,[],[5000],[],[]⟩ (.op ⟨.call 2 .done,[],[],[16304,16303,16302,16301],[16301,16302,16303,16304]⟩ (.op ⟨.nl 1 .done,[],[],[],[16301,16302,16303,16304]⟩ (.op ⟨.nl 1 .done,[],[],[],[16301,16302,16303]⟩ (.op ⟨.nl 1 .done,[],[],[],[16304]⟩ (.op ⟨.nl 1 .done,[],[],[],[]⟩ (.op ⟨.nl 1 .done,[2],[16301,16302,16303],[],[2,16301,16302,16303]⟩ (.op ⟨.nl 1 .done,[],[],[],[16304]⟩ Ln))))))))))))))))))))))))] Tryz.func54⟩
def Qlh(N:Nat):V:=⟨⟨262,(sD [J2,.i]),[zs5],fun(x0,x1)=>M6 N x0 x1,[]⟩,kF N [] [] Tryz.func262⟩
def Qx9(N:Nat):V:=⟨⟨269,Qnk,[zs5],Qg3 N,[]⟩,kF N [] [(6,.lp [0,6] [] Qnj Qri)] Tryz.func269⟩
def Qn3(N:Nat):V:=⟨⟨271,⟨[(0,.d Vw),(1,Gu)],Jn4⟩,[zs5],fun(x0,ca)=>Pt N x0 ca,[5000]⟩,kF N [] [] Tryz.func271⟩
def Lp(N:Nat):V:=⟨⟨342,Jn6,[zs2],fun(x0,ca)=>Zo N x0 ca,[5000]⟩,kF N [Qn3] [(6,.lp [0,1,7] [] Qk3 Qs8),(18,.rg (.n 5 (.call 0 .done)))] Tryz.func342⟩
def Cw(N:Nat):V:=⟨⟨270,Jn6,[zs5],fun(x0,ca)=>Ui N x0 ca,[5000]⟩,kF N [Lp] [] Tryz.func270⟩
def Qte(N:Nat):V:=⟨⟨272,Jnf,[zs2],Qda N,[]⟩,kF N [] [(22,.lp [11,12] [] ⟨[(13,zs3)],[]⟩ Qnm)] Tryz.func272⟩
def Ra(N:Nat):V:=⟨⟨164,Jms,[zs2],Dq N,[]⟩,kF N [Qx9,Cw,Qte] [(22,.lp [0,12,13] [] ⟨[(14,zs3)],[]⟩ Qnm),(30,.jn [14] [] [(.n,zs6),(.r,⟨[(2,zs3)],[]⟩)])] Tryz.func164⟩
def Qhn(N:Nat):V:=⟨⟨344,Q2f,[zs2],fun(x0,x1)=>Cq N x0 x1,[]⟩,kF N [] [(6,.lp [0,1,7] [] Qk3 Qs8)] Tryz.func344⟩
def Qcg(N:Nat):V:=⟨⟨275,Q2f,[zs5],fun(x0,x1)=>Hw N x0 x1,[]⟩,kF N [Qhn] [] Tryz.func275⟩
def No(N:Nat):V:=⟨⟨170,zs2,[zs2],G9 N,[]⟩,kF N [] [] Tryz.func170⟩
def Qm2(N:Nat):V:=⟨⟨166,Q2f,[zs2],fun(x0,x1)=>Qez N x0 x1,[]⟩,kF N [Qcg,No] [] Tryz.func166⟩
def Qr4(N:Nat):V:=⟨⟨273,⟨[(0,.d Kp),(1,Gu),(2,I8)],Jn7⟩,[zs5],fun(x0,ca,ce)=>Qar N x0 ca ce,[5000,5001]⟩,kF N [] [] Tryz.func273⟩
def Lq(N:Nat):V:=⟨⟨343,Jn8,[zs2],fun(x0,ca,ce)=>Zp N x0 ca ce,[5000,5001]⟩,kF N [Qr4] [(6,.lp [0,1,7] [] Qk3 Qs8),(18,.rg (.n 5 (.call 0 .done)))] Tryz.func343⟩
def Cy(N:Nat):V:=⟨⟨274,Jn8,[zs5],fun(x0,ca,ce)=>Uj N x0 ca ce,[5000,5001]⟩,kF N [Lq] [] Tryz.func274⟩
def Qjm(N:Nat):V:=⟨⟨165,(sD [.sl Vw,.i,.i]),[Qnk],fun(x0,x1,x2)=>Qas N x0 x1 x2,[]⟩,kF N [Cy] [(8,.lp [0,7,11,12] [4,5] ⟨[(13,zs3)],[]⟩ [(.x 0,zs6),(.r,⟨[(6,Yd)],[]⟩)])] Tryz.func165⟩
def Qr5(N:Nat):V:=⟨⟨95,(sD [.sl Vw,.sl .i,.i]),[Qnk],fun(x0,x1,x2)=>Qiy N x0 x1 x2,[]⟩,kF N [Ra,Qm2,Qjm] [] Tryz.func95⟩
def Qr6(N:Nat):V:=⟨⟨338,(sD [.sl Vw,.i]),[Jhd],fun(x0,x1)=>Qat N x0 x1,[]⟩,kF N [fun _=>⟨_,Qg8⟩,fun _=>⟨_,Qb7⟩,fun _=>⟨_,In⟩] [(3,.rg (.br Vo)),(8,.lp [1,11,12] [] ⟨[(5,P3),(13,zs3)],Jhb⟩ [(.x 0,⟨[(5,Qrm)],Jhe⟩)]),(22,.lp [13,18,19] [7] ⟨[(5,Qdj),(20,zs3)],[(100100,H3)]⟩ [(.x 2,⟨[(5,Qmr)],[(100300,H3)]⟩)]),(30,.jn [20] [] [(.n,⟨Jle,Jhf⟩)]),(36,.rg (.n 5 (.br Q6p)))] Tryz.func338⟩
def Q2s(N:Nat):V:=⟨⟨263,(sD [.sl Vw,.sl .i,Q9]),[⟨Qg9,[(1,Qvn)]⟩],fun(x0,x1,x2)=>Qk2 N x0 x1 x2,[]⟩,kF N [Ra,Ky,Qm2,Qr6,Gw,Qjm] [(4,.rg (.n 1 (.call 0 (.n 2 (.sp 21 4 [0,1,5] [5] Jh3 Qaz Q2l Qi4))))),(16,.lp [0,1,5] [5] ⟨[(7,Qdj),(8,zs3)],[(100100,Qvn)]⟩ [(.x 0,⟨[(7,.s 100700)],[(100700,Qvn)]⟩)]),(32,.lp [8,9,10,51,52] [15001] ⟨[(7,Qha),(53,zs3)],[(100200,Qvn)]⟩ [(.x 2,⟨[(7,.s 100600)],[(100600,Qvn)]⟩)]),(40,.jn [53] [] [(.n,⟨[(7,Q85)],[(100500,Qvn)]⟩)]),(46,.jn [7,12,53] [100200] [(.n,⟨[(13,Qf9)],[(100300,Jhn)]⟩)]),(60,.an (.dc 7 [90,91,92,93,94,95,16] [14] [] (.op ⟨.nl 1 .done,[],[],[],[]⟩ (.op ⟨.nl 1 .done,[],[],[],[]⟩ (.op ⟨.nl 1 .done,[],[],[],[]⟩ (.op ⟨.call 5 .done,[],[],[],[]⟩ (.op ⟨.nl 1 .done,[],[14],[],[]⟩ (.op ⟨.nl 1 .done,[],[],[],[]⟩ (.op ⟨.nl 1 .done,[],[],[16],[16]⟩ Ln))))))))),(64,.an (.dr 12 (.n 3 (.sp 101 9 [7,14,16,17,53] [14,16,100200,100300] ⟨[(110,zs7)],[]⟩ Qk4 Qk4 .done)) .done))] Tryz.func263⟩
def Qli(N:Nat):V:=⟨⟨264,⟨[(0,.d G3),(1,Gu),(2,I8),(3,.p 5002 [])],[(5000,Ot),(5001,Q2n),(5002,Q2n)]⟩,[zs5],fun(x0,ca,ce,cd)=>M7 N x0 ca ce cd,[5000,5001,5002]⟩,kF N [] [] Tryz.func264⟩
def Qr7(N:Nat):V:=⟨⟨160,(sD [J7,.i,.str,.str]),[⟨[(0,.ag (sL [zs3,Yd,Yd,zs3,Sy])),(1,zs7)],[(1,Q9j)]⟩],fun(x0,x1,x2,x3)=>Qau N x0 x1 x2 x3,[]⟩,kF N [Qli] [(8,.lp [10,15,16] [4,5,6,7] ⟨[(8,S5),(17,zs3)],[(100000,Jn9)]⟩ [(.x 0,⟨[(8,Qb8)],[(100100,Jn9)]⟩),(.r,⟨[(8,Qk5),(9,zs7)],[(100200,.var 142 (.ag (sL [zs3,Yd,Yd,zs3,Qx2]))),(100201,Q9j)]⟩)]),(20,.rg (.n 2 (.call 0 .done)))] Tryz.func160⟩
def Te(N:Nat):V:=⟨⟨339,(sD [.i,.sl .i]),[zs5],fun(x0,x1)=>Gp N x0 x1,[]⟩,kF N [] [(6,.lp [0,7,8] [] Qrp zs8)] Tryz.func339⟩
def Qho(N:Nat):V:=⟨⟨265,⟨[(0,.s 5000)],Jh5⟩,[zs2],Cr N,[5000]⟩,kF N [Te] [(24,.lp [0,12,13] [] ⟨[(3,zs3),(14,zs3)],[]⟩ Qnm),(37,.rg (.n 5 (.call 0 (.n 7 (.sp 31 6 [3,4,5,14] [5] Jpq Qs9 (.nl 3 Jg2) .done)))))] Tryz.func265⟩
def Qjn(N:Nat):V:=⟨⟨266,⟨[(0,.s 5000),(1,zs3)],Jh5⟩,[Qrq],fun(x1,ca)=>Eh N x1 ca,[5000]⟩,kF N [] [(8,.lp [1,12,13] [] ⟨[(6,zs3),(7,zs3),(14,zs3)],[]⟩ [(.x 0,zs9),(.r,⟨[(4,zs3),(5,zs7)],[]⟩)]),(22,.jn [6,7,9,14] [9] [(.n,⟨[(10,zs3)],[]⟩)]),(37,.an (.dr 7 Q84 .done))] Tryz.func266⟩
def Qfm(N:Nat):V:=⟨⟨161,⟨[(0,.s 5000),(1,zs3),(2,zs3)],Jh5⟩,[Nh],fun(x1,x2,ca)=>Ap N x1 x2 ca,[5000]⟩,kF N [Qho,Qjn] [] Tryz.func161⟩
def Qlj(N:Nat):V:=⟨⟨159,Joa,[⟨Qg9,[(1,Uc)]⟩],fun(x0,x1,x2,x3)=>M9 N x0 x1 x2 x3,[]⟩,kF N [Qlh,Ra,Qr5,Q2s] [(4,.rg (.n 2 (.call 0 (.n 2 (.sp 17 5 [1,3,4,6] [4,6] ⟨[(22,zs7)],[]⟩ Fs Jg1 .done))))),(13,.jn [1,3,4,6] [4,6] [(.n,Qrp)]),(23,.an (.dc 10 [39,40,41,42,43,44,45,46,47,48] [4,6] [] (.op ⟨.nl 1 .done,[],[],[],[4]⟩ (.op ⟨.nl 1 .done,[],[4],[],[]⟩ (.op ⟨.nl 1 .done,[],[],[],[]⟩ (.op ⟨.nl 1 .done,[],[],[],[]⟩ (.op ⟨.call 2 .done,[],[],[],[]⟩ (.op ⟨.nl 1 .done,[],[],[],[]⟩ (.op ⟨.nl 1 .done,[],[],[],[6]⟩ (.op ⟨.nl 1 .done,[],[6],[],[]⟩ (.op ⟨.nl 1 .done,[],[],[],[]⟩ (.op ⟨.nl 1 .done,[],[],[],[]⟩ (.tl (.n 1 (.br Vo))))))))))))))),(32,.lp [61,62] [4,6,16101] ⟨[(10,Qha),(63,zs3)],[(100200,Uc)]⟩ [(.x 0,⟨[(10,Qmr)],[(100300,Uc)]⟩)]),(43,.rg (.n 14 (.br Q6p)))] Tryz.func159⟩
def Qn4(N:Nat):V:=⟨⟨92,Joa,[⟨Job,[(1,Uc)]⟩],fun(x0,x1,x2,x3)=>Pu N x0 x1 x2 x3,[]⟩,kF N [Qjh,Qlj,Qr7,Qfm] [(15,.lp [4,6,11,37] [4,6] ⟨[(13,P3),(14,zs3),(15,zs3),(16,zs3),(17,zs3),(38,zs3)],[(100000,Uc)]⟩ [(.x 0,⟨[(13,Qha),(14,zs3),(15,zs3),(17,zs3)],[(100200,Uc)]⟩)]),(27,.an (.dc 15 [42,43,44,45,46,47,48,49,50,51,41,52,53,19,1000000014] [100000] [4,6] (.op ⟨.nl 1 .done,[],[4],[],[]⟩ (.op ⟨.nl 1 .done,[],[],[],[6]⟩ (.op ⟨.nl 1 .done,[],[6],[],[]⟩ (.op ⟨.nl 1 .done,[],[],[],[]⟩ (.op ⟨.nl 1 .done,[],[],[],[100000]⟩ (.op ⟨.nl 1 .done,[],[],[],[]⟩ (.op ⟨.nl 1 .done,[],[100000],[],[100000]⟩ (.op ⟨.nl 1 .done,[],[],[],[100000]⟩ (.op ⟨.nl 1 .done,[],[100000],[],[]⟩ (.op ⟨.call 2 .done,[],[],[15101],[15101]⟩ (.op ⟨.nl 1 .done,[],[],[],[15101]⟩ (.op ⟨.nl 1 .done,[],[],[],[15101]⟩ (.op ⟨.nl 1 .done,[],[],[],[]⟩ (.op ⟨.nl 1 .done,[],[],[19],[19]⟩ (.op ⟨.nl 1 .done,[19],[15101],[],[19,15101]⟩ Ln))))))))))))))))),(37,.jn [13,15,16,17,18,19,38] [19,15101,100000] [(.n,⟨[(14,zs3)],[]⟩)]),(43,.an (.dc 13 [61,62,63,64,65,66,67,68,69,60,70,71,21] [19,100000,15101] [] (.op ⟨.nl 1 .done,[],[],[],[19]⟩ (.op ⟨.nl 1 .done,[],[19],[],[15101]⟩ (.op ⟨.nl 1 .done,[],[],[],[]⟩ (.op ⟨.nl 1 .done,[],[],[],[100000]⟩ (.op ⟨.nl 1 .done,[],[],[],[]⟩ (.op ⟨.nl 1 .done,[],[100000],[],[100000]⟩ (.op ⟨.nl 1 .done,[],[],[],[100000]⟩ (.op ⟨.nl 1 .done,[],[100000],[],[]⟩ (.op ⟨.call 3 .done,[],[15101],[],[]⟩ Joc))))))))))),(59,.jn [13,14] [4,6,100200] [(.n,⟨[(17,zs3)],[]⟩)])] Tryz.func92⟩
def Qlk(N:Nat):V:=⟨⟨55,⟨Qby,[(5000,.var 102 (.ag (sL [H4,.ag (sL [Qro,Ou,S6]),V8,Av,Bz,.ag (sL [Yd,zs3,zs7,Qmx,Qbz,Qmu,Qi7]),zs3,Jnb]))),(5001,Un),(5002,Qbu),(5003,Qbv),(5004,Wz),(5005,Hm),(5006,Fq),(5007,Ub),(5008,Uc),(5009,Uv)]⟩,[⟨Qi8,[(5000,Jod),(1,Un),(2,Qbu),(3,Qbv),(4,Ub),(5,Uc),(6,Uv)]⟩],fun(cx,cq,g8,g9,gk,gm,gn,gq,du,dv,dw,dy,dz,dl,g5,dx,dq,g6,g7,ce,cd,cg,ci,cj,ck,cm,dj,ge)=>Na N cx cq g8 g9 gk gm gn gq du dv dw dy dz dl g5 dx dq g6 g7 ce cd cg ci cj ck cm dj ge,[]⟩,kF N [Qn4] [(3,.gh (.fz 5004 (.dt 5000 (.fz 5005 (.dt 5000 Jm7))))),(3,.an (.dc 24 [10,11,12,13,14,15,16,17,18,19,20,21,22,23,24,25,26,27,9,28,29,30,3,4] [5000] [] (.op ⟨.nl 1 .done,[],[],[],[5000]⟩ (.op ⟨.nl 1 .done,[],[5000],[],[5000]⟩ (.op ⟨.nl 1 .done,[],[],[],[5000]⟩ (.op ⟨.nl 1 .done,[],[5000],[],[]⟩ (.op ⟨.nl 1 .done,[],[],[],[5000]⟩ (.op ⟨.nl 1 .done,[],[5000],[],[5000]⟩ (.op ⟨.nl 1 .done,[],[],[],[5000]⟩ (.op ⟨.nl 1 .done,[],[],[],[5000]⟩ (.op ⟨.nl 1 .done,[],[5000],[],[]⟩ (.op ⟨.nl 1 .done,[],[],[],[5000]⟩ (.op ⟨.nl 1 .done,[],[5000],[],[5000]⟩ (.op ⟨.nl 1 .done,[],[],[],[5000]⟩ (.op ⟨.nl 1 .done,[],[5000],[],[]⟩ (.op ⟨.nl 1 .done,[],[],[],[5000]⟩ (.op ⟨.nl 1 .done,[],[5000],[],[5000]⟩ (.op ⟨.nl 1 .done,[],[],[],[5000]⟩ (.op ⟨.nl 1 .done,[],[5000],[],[]⟩ (.op ⟨.call 0 .done,[],[],[12701],[12701]⟩ (.op ⟨.nl 1 .done,[],[],[],[12701]⟩ (.op ⟨.nl 1 .done,[],[],[],[12701]⟩ (.op ⟨.nl 1 .done,[],[],[],[]⟩ (.op ⟨.nl 1 .done,[],[],[],[]⟩ (.op ⟨.nl 1 .done,[],[],[],[12701]⟩ Qvf))))))))))))))))))))))))),(18,.lp [0,3,4,35,36] [5000,5001,5002,5003,5004,5005,5006,5007,5008,5009,12701] ⟨[(6,zs3),(37,zs3)],[]⟩ [(.x 0,zs9)]),(26,.jn [37] [] [(.n,zs9)])] Tryz.func55⟩
def Qya(N:Nat):V:=⟨⟨53,⟨Qby,[(5000,.var 90 I8),(5001,.var 102 (.ag (sL [H4,B1,V8,Av,Bz,.ag (sL [Yd,zs3,zs7,Qmx,Ou,S6,Qbz]),zs3,Jhy]))),(5002,Wz),(5003,Hm),(5004,Fq),(5005,Ub),(5006,Uc),(5007,Uv)]⟩,[⟨Qi8,[(5001,Jod),(1,Un),(2,Qbu),(3,Qbv),(4,Ub),(5,Uc),(6,Uv)]⟩],fun(ct,cp,cw,dh,di,gg,gi,gj,gr,cy,cz,d4,d5,d6,d7,d8,d9,da,db,de,cd,cg,ci,cj,ck,cm)=>Qg4 N ct cp cw dh di gg gi gj gr cy cz d4 d5 d6 d7 d8 d9 da db de cd cg ci cj ck cm,[5000,5005]⟩,kF N [Qlg,Qlk] [] Tryz.func53⟩
def Qn5(N:Nat):V:=⟨⟨48,⟨[(0,.f 53 Qmv),(1,.p 5008 [])],[(5000,.var 90 I8),(5001,.var 102 (.ag (sL [H4,B1,V8,Av,Bz,.ag (sL [Yd,zs3,zs7,Qmx,Ou,S6,Qbz]),zs3,Jhy]))),(5002,Wz),(5003,Hm),(5004,Fq),(5005,Ub),(5006,Uc),(5007,Uv),(5008,Qmw)]⟩,[⟨[],[(5001,.var 102 (.ag (sL [H4,Q9v,V8,Av,Bz,.ag (sL [Yd,zs3,zs7,Qmx,Jn5,.d (.sl G3),.d (.sl Vd)]),zs3,Q9w]))),(5008,Qmw),(1,Ub),(2,Uc),(3,Uv)]⟩],fun(ct,cp,cw,dh,di,gg,gi,gj,gr,cy,cz,d4,d5,d6,d7,d8,d9,da,db,de,cd,cg,ci,cj,ck,cm,dj)=>Pv N ct cp cw dh di gg gi gj gr cy cz d4 d5 d6 d7 d8 d9 da db de cd cg ci cj ck cm dj,[5000]⟩,kF N [Qya] [(3,.rg (.n 1 Qi3))] Tryz.func48⟩
def Qll(N:Nat):V:=⟨⟨163,Nh,[Q2e],fun(x0,x1)=>Nb N x0 x1,[]⟩,kF N [Tc,Ld] [] Tryz.func163⟩
def Tf(N:Nat):V:=⟨⟨94,Jh6,[zs2],fun(cx,dg,cq,g8,g9,gp,du,dv,dw,dy,dz,dl,g5,dx,dq,g6,g7,ce,cd,cg)=>Aq N cx dg cq g8 g9 gp du dv dw dy dz dl g5 dx dq g6 g7 ce cd cg,[5000,5001,5002,5003]⟩,kF N [Qll] [(3,.an (.dr 10 Jg7 Jh7))] Tryz.func94⟩
def Ay(N:Nat):V:=⟨⟨162,(sD [Yq,Yq]),[zs2],fun(x0,x1)=>Xx N x0 x1,[]⟩,kF N [] [(6,.lp [22] [2,3] ⟨[(23,zs3)],[]⟩ Qs8)] Tryz.func162⟩
def Qtf(N:Nat):V:=⟨⟨93,(sD [.sl Yq,.i,.i,.i]),[Jh8],fun(x0,x1,x2,x3)=>Qdd N x0 x1 x2 x3,[]⟩,kF N [Ay] [(8,.lp [9,16,17] [9] ⟨[(8,S5),(18,zs3)],[(100000,Q2o)]⟩ [(.x 0,⟨[(8,Qb8)],[(100100,Q2o)]⟩),(.r,⟨[(8,Qk5)],[(100200,Q2o)]⟩)])] Tryz.func93⟩
def Qr8(N:Nat):V:=⟨⟨97,(sD [J2,.str,.str,Yq,.bool]),[(sD [Sa])],fun(x0,x1,x2,x3,x4)=>Lk N x0 x1 x2 x3 x4,[]⟩,kF N [No] [(17,.an (.dr 9 (.n 9 .done) Vo))] Tryz.func97⟩
def Qhp(N:Nat):V:=⟨⟨387,zs2,[zs2],Kw N,[]⟩,kF N [] [] Tryz.func387⟩
def Qfn(N:Nat):V:=⟨⟨388,Qnk,[zs2],Yc N,[]⟩,kF N [] [(7,.jn [3] [] [(.n,⟨[(4,zs7)],[]⟩)]),(33,.jn [3] [] [(.n,⟨[(11,zs7)],[]⟩)])] Tryz.func388⟩
def Qhq(N:Nat):V:=⟨⟨389,(sD [.i,.arr 2 .i]),[Nh],fun(x0,x1)=>Cs N x0 x1,[]⟩,kF N [] [(3,.an (.dr 6 Q2b .done)),(7,.jn [] [3] [(.n,⟨[(8,zs3),(9,zs7)],[]⟩)]),(15,.jn [6,7,8,14] [] [(.n,Jh3)]),(23,.jn [6,7,8,14] [] [(.n,⟨[(34,zs7)],[]⟩)]),(31,.jn [6,7,8] [] [(.n,⟨[(44,zs7)],[]⟩)])] Tryz.func389⟩
def Np(N n:Nat):Con:=⟨345,zs1,[Nh],fun(x0,x1)=>V7 N n x0 x1,[]⟩
theorem Oz(N:Nat):∀n,KO (Np N n)
 | 0=>⟨F4 fun _=>rfl,I6 Tryz.func345 rfl⟩
 | n+1=>have ih:=Oz N n; kF N [Qhp,Te,Qfn,fun _=>⟨_,ih⟩,Qhq] [(12,.an (.dc 6 [14,15,16,17,18,19] [2] [] (.op ⟨.nl 1 .done,[],[],[],[2]⟩ (.op ⟨.nl 1 .done,[],[2],[],[]⟩ (.op ⟨.call 0 .done,[],[],[],[]⟩ (.op ⟨.nl 1 .done,[],[],[],[2]⟩ (.op ⟨.nl 1 .done,[],[2],[],[]⟩ Qvf))))))),(73,.lp [1,2,46,47] [2] ⟨[(7,S5),(48,zs3)],[(100000,Q9s)]⟩ [(.x 1,⟨[(7,Qb8)],[(100100,Q9s)]⟩),(.r,Jhc)])] Tryz.func345
def Qr9(N:Nat):V:=⟨Np N N,Oz N N⟩
def Qef(N:Nat):V:=⟨⟨276,Qrl,[Nh],Ha N,[]⟩,kF N [Qr9] [] Tryz.func276⟩
def Hx(N n:Nat):Con:=⟨277,Q2p,[zs5],fun(x0,x1)=>Yl N n x0 x1,[]⟩
theorem Qn6(N n:Nat)(ih:KO (Hx N n)):KO ⟨346,Jog,[zs5],fun(x0,ca,ce)=>Uq N (Yl N n) x0 ca ce,[5000,5001]⟩:=kF N [fun _=>⟨_,ih⟩] [(3,.an (.dr 6 Q2b Qi3))] Tryz.func346
def Q2t(N:Nat):V:=⟨⟨390,Q2p,[Qnk],fun(x0,x1)=>Qe0 N x0 x1,[]⟩,kF N [] [] Tryz.func390⟩
def Qtg(N:Nat):V:=⟨⟨404,zs2,[Qrq],Fp N,[]⟩,kF N [] [] Tryz.func404⟩
def Qlm(N:Nat):V:=⟨⟨405,(sD [.str,Sa]),[zs2],fun(x0,x1)=>Nc N x0 x1,[]⟩,kF N [] [] Tryz.func405⟩
def Az(N n:Nat):Con:=⟨391,Q2p,[Qrq],fun(x0,x1)=>Ut N n x0 x1,[]⟩
theorem Qln(N n:Nat)(ih:KO (Az N n)):KO ⟨406,Jog,[Qrq],fun(x0,ca,ce)=>X8 N (Ut N n) x0 ca ce,[5000,5001]⟩:=kF N [fun _=>⟨_,ih⟩] [(3,.an (.dc 9 [6,7,8,9,10,11,12,13,14] [] [5000,5001] (.op ⟨.nl 1 .done,[],[],[],[5000]⟩ (.op ⟨.nl 1 .done,[],[5000],[],[]⟩ (.op ⟨.nl 1 .done,[],[],[],[]⟩ (.op ⟨.nl 1 .done,[],[],[],[]⟩ (.op ⟨.nl 1 .done,[],[],[],[]⟩ (.op ⟨.nl 1 .done,[],[5001],[],[]⟩ (.op ⟨.call 0 .done,[],[],[],[]⟩ Jmz)))))))))] Tryz.func406
def Q6q(N:Nat):V:=⟨⟨407,Nh,[Qrq],fun(x0,x1)=>Qi1 N x0 x1,[]⟩,kF N [] [] Tryz.func407⟩
def Qsa(N:Nat):V:=⟨⟨408,Nh,[Qrq],fun(x0,x1)=>Ll N x0 x1,[]⟩,kF N [] [] Tryz.func408⟩
theorem Tg(N:Nat):∀n,KO (Az N n)
 | 0=>⟨F4 fun _=>rfl,I6 Tryz.func391 rfl⟩
 | n+1=>have ih:=Tg N n; kF N [Qtg,Qlm,fun _=>⟨_,Qln N n ih⟩,Q6q,Qsa] [(22,.rg (.n 1 (.call 2 Jlh))),(24,.rg (.n 1 (.call 2 Jlh))),(40,.jn [2,7] [2,3] [(.n,Qrp),(.x 1,Qrp),(.x 4,Qrp)])] Tryz.func391
def Qth(N:Nat):V:=⟨Az N N,Tg N N⟩
def Qsb(N:Nat):V:=⟨⟨347,Q2p,[Qrq],fun(x0,x1)=>Lm N x0 x1,[]⟩,kF N [Qef,Q2t,Qth] [(9,.an (.dc 11 [24,25,26,27,28,29,30,31,32,33,34] [2,3] [] (.op ⟨.nl 1 .done,[],[],[],[2]⟩ (.op ⟨.nl 1 .done,[],[2],[],[]⟩ (.op ⟨.nl 1 .done,[],[],[],[]⟩ (.op ⟨.nl 1 .done,[],[],[],[]⟩ (.op ⟨.nl 1 .done,[],[3],[],[]⟩ (.op ⟨.call 1 .done,[],[],[],[]⟩ (.op ⟨.nl 1 .done,[],[],[],[2]⟩ (.op ⟨.nl 1 .done,[],[2],[],[]⟩ (.op ⟨.nl 1 .done,[],[],[],[]⟩ (.op ⟨.nl 1 .done,[],[],[],[]⟩ (.op ⟨.nl 1 .done,[],[3],[],[]⟩ (.tl (.call 1 Q6p))))))))))))))),(30,.an (.dc 10 [45,46,47,48,49,50,44,51,52,10] [2,3] [] Joh)),(32,.an (.dc 10 [54,55,56,57,58,59,53,60,61,12] [2,3] [] Joh))] Tryz.func347⟩
theorem Nq(N:Nat):∀n,KO (Hx N n)
 | 0=>⟨F4 fun _=>rfl,I6 Tryz.func277 rfl⟩
 | n+1=>have ih:=Nq N n; kF N [fun _=>⟨_,Qn6 N n ih⟩,Qsb] [(18,.rg (.n 1 Jh7)),(24,.rg (.n 1 (.call 0 (.n 1 (.sp 24 3 [5] [2,3] ⟨[(27,zs7)],[]⟩ Jh4 Jck Vo))))),(30,.rg (.n 1 (.call 0 (.n 1 (.sp 32 3 [5] [2,3] Jg9 Jck Jh4 Vo)))))] Tryz.func277
def Qn7(N:Nat):V:=⟨Hx N N,Nq N N⟩
def Qyb(N:Nat):V:=⟨⟨168,Q2p,[zs5],fun(x0,x1)=>Qg5 N x0 x1,[]⟩,kF N [Qef,Qn7] [] Tryz.func168⟩
def Qhr(N:Nat):V:=⟨⟨167,⟨[(0,.d Vd),(1,Gu)],[(5000,Jof)]⟩,[zs5],fun(x0,ca)=>Ct N x0 ca,[5000]⟩,kF N [Qyb] [] Tryz.func167⟩
def Qn8(N:Nat):V:=⟨⟨348,Q9n,[Nh],fun(x0,x1,x2)=>Pw N x0 x1 x2,[]⟩,kF N [] [(8,.lp [0,1,2] [] ⟨[(8,zs3),(9,zs3),(10,zs3)],[]⟩ [(.x 0,Joi),(.r,⟨[(6,zs3),(7,zs3)],[]⟩)]),(20,.jn [10] [] [(.n,Joi)])] Tryz.func348⟩
def Qlo(N:Nat):V:=⟨⟨349,zs2,[Nh],Nd N,[]⟩,kF N [Aw] [] Tryz.func349⟩
def Qsc(N:Nat):V:=⟨⟨278,Q9n,[Nh],fun(x0,x1,x2)=>Qaw N x0 x1 x2,[]⟩,kF N [Aw,Qn8,Qlo] [(13,.jn [0] [] Jhx),(19,.jn [] [] Jhx)] Tryz.func278⟩
def Qlp(N:Nat):V:=⟨⟨169,Nh,[Nh],fun(x0,x1)=>Nf N x0 x1,[]⟩,kF N [Qsc] [] Tryz.func169⟩
def Qlq(N:Nat):V:=⟨⟨96,(sD [.sl Vd,Sa,.i]),[⟨Job,[(1,Uv)]⟩],fun(x0,x1,x2)=>Ng N x0 x1 x2,[]⟩,kF N [Qhr,Qlp] [(20,.lp [9,24,25] [4] ⟨[(10,P3),(11,zs3),(26,zs3)],[(100000,Uv)]⟩ [(.x 0,⟨[(10,Qmr),(11,zs3)],[(100300,Uv)]⟩),(.r,⟨[(6,.ns),(7,zs3),(8,zs3)],[]⟩)]),(28,.jn [26] [] [(.n,⟨[(10,Qdj),(11,zs3)],[(100100,Uv)]⟩),(.r,⟨[(6,.ns),(7,zs3),(8,zs3)],[]⟩)]),(33,.rg (.n 2 Qi3))] Tryz.func96⟩
def Qeg(N:Nat):V:=⟨⟨57,Jh6,[⟨Qi8,[(5000,Jh9),(1,Ub),(2,Uc),(3,Uv)]⟩],fun(cx,dg,cq,g8,g9,gp,du,dv,dw,dy,dz,dl,g5,dx,dq,g6,g7,ce,cd,cg)=>Fd N cx dg cq g8 g9 gp du dv dw dy dz dl g5 dx dq g6 g7 ce cd cg,[]⟩,kF N [Tf,Qtf,Qr5,Qr8,Qlq] [(3,.an (.dc 19 [8,9,10,11,12,13,14,15,16,17,18,19,20,21,22,23,24,25,3] [5000,5001,5002,5003] [] (.op ⟨.nl 1 .done,[],[],[],[5000]⟩ (.op ⟨.nl 1 .done,[],[5000],[],[5000]⟩ (.op ⟨.nl 1 .done,[],[],[],[5000]⟩ (.op ⟨.nl 1 .done,[],[],[],[5000]⟩ (.op ⟨.nl 1 .done,[],[5000],[],[]⟩ (.op ⟨.nl 1 .done,[],[],[],[5000]⟩ (.op ⟨.nl 1 .done,[],[5000],[],[5000]⟩ (.op ⟨.nl 1 .done,[],[],[],[5000]⟩ (.op ⟨.nl 1 .done,[],[],[],[5000]⟩ (.op ⟨.nl 1 .done,[],[5000],[],[]⟩ (.op ⟨.nl 1 .done,[],[],[],[5000]⟩ (.op ⟨.nl 1 .done,[],[5000],[],[5000]⟩ (.op ⟨.nl 1 .done,[],[],[],[5000]⟩ (.op ⟨.nl 1 .done,[],[],[],[5000]⟩ (.op ⟨.nl 1 .done,[],[5000],[],[]⟩ (.op ⟨.nl 1 .done,[],[],[],[5000]⟩ (.op ⟨.call 0 .done,[],[5000,5001,5002,5003],[],[]⟩ (.op ⟨.call 1 .done,[],[],[],[]⟩ Q88)))))))))))))))))))),(5,.an (.dr 15 Jpu (.call 2 Vo))),(7,.an (.dc 34 [43,44,45,46,47,48,49,50,51,52,53,54,55,56,57,58,59,60,61,62,63,64,65,66,67,68,69,70,42,71,72,73,5,6] [5000,3] [] (.op ⟨.nl 1 .done,[],[],[],[5000]⟩ (.op ⟨.nl 1 .done,[],[5000],[],[5000]⟩ (.op ⟨.nl 1 .done,[],[],[],[5000]⟩ (.op ⟨.nl 1 .done,[],[],[],[5000]⟩ (.op ⟨.nl 1 .done,[],[5000],[],[]⟩ (.op ⟨.nl 1 .done,[],[],[],[5000]⟩ (.op ⟨.nl 1 .done,[],[5000],[],[5000]⟩ (.op ⟨.nl 1 .done,[],[],[],[5000]⟩ (.op ⟨.nl 1 .done,[],[5000],[],[]⟩ (.op ⟨.nl 1 .done,[],[],[],[5000]⟩ (.op ⟨.nl 1 .done,[],[5000],[],[5000]⟩ (.op ⟨.nl 1 .done,[],[],[],[5000]⟩ (.op ⟨.nl 1 .done,[],[],[],[5000]⟩ (.op ⟨.nl 1 .done,[],[5000],[],[]⟩ (.op ⟨.nl 1 .done,[],[],[],[]⟩ (.op ⟨.nl 1 .done,[],[3],[],[]⟩ (.op ⟨.nl 1 .done,[],[],[],[5000]⟩ (.op ⟨.nl 1 .done,[],[5000],[],[5000]⟩ (.op ⟨.nl 1 .done,[],[],[],[5000]⟩ (.op ⟨.nl 1 .done,[],[],[],[5000]⟩ (.op ⟨.nl 1 .done,[],[5000],[],[]⟩ (.op ⟨.call 3 .done,[],[],[],[]⟩ (.op ⟨.nl 1 .done,[],[],[],[5000]⟩ (.op ⟨.nl 1 .done,[],[5000],[],[5000]⟩ (.op ⟨.nl 1 .done,[],[],[],[5000]⟩ (.op ⟨.nl 1 .done,[],[],[],[5000]⟩ (.op ⟨.nl 1 .done,[],[5000],[],[]⟩ (.op ⟨.call 4 .done,[],[],[17001],[17001]⟩ (.op ⟨.nl 1 .done,[],[],[],[17001]⟩ (.op ⟨.nl 1 .done,[],[],[],[17001]⟩ (.op ⟨.nl 1 .done,[],[],[],[]⟩ (.op ⟨.nl 1 .done,[],[],[],[]⟩ (.op ⟨.nl 1 .done,[],[],[],[17001]⟩ Qvf)))))))))))))))))))))))))))))))))))] Tryz.func57⟩
def Qyc(N:Nat):V:=⟨⟨56,Joj,[Jok],fun(ct,cp,cw,dh,di,gc,cy,cz,d4,d5,d6,d7,d8,d9,da,db,de,cd,cg,ci)=>Qg6 N ct cp cw dh di gc cy cz d4 d5 d6 d7 d8 d9 da db de cd cg ci,[5000]⟩,kF N [Qeg] [] Tryz.func56⟩
def Qn9(N:Nat):V:=⟨⟨48,⟨[(0,.f 56 Qmv),(1,.p 5005 [])],Jol⟩,[Jom],fun(ct,cp,cw,dh,di,gc,cy,cz,d4,d5,d6,d7,d8,d9,da,db,de,cd,cg,ci,cj)=>Px N ct cp cw dh di gc cy cz d4 d5 d6 d7 d8 d9 da db de cd cg ci cj,[5000]⟩,kF N [Qyc] [(3,.rg (.n 1 Qi3))] Tryz.func48⟩
def Qga(N:Nat):V:=⟨⟨172,(sD [Vr]),[zs2],Or N,[]⟩,kF N [Ax] [] Tryz.func172⟩
def Qsd(N:Nat):V:=⟨⟨173,Qmy,[Qmy],fun(x0,x1)=>Qax N x0 x1,[]⟩,kF N [Ax,Ip,Ki,Qga] [] Tryz.func173⟩
def Qfo(N:Nat):V:=⟨⟨171,⟨[(0,.s 5000)],[(5000,Qbu)]⟩,[Jnw],Ar N,[5000]⟩,kF N [] [(8,.lp [9,10] [] ⟨[(3,Q9l),(11,zs3)],[(100000,Qbx)]⟩ [(.x 0,⟨[(3,.m 100200)],[(100200,Qbx)]⟩)]),(16,.jn [11] [] [(.n,⟨[(3,Q9m)],[(100100,Qbx)]⟩)])] Tryz.func171⟩
def Qti(N:Nat):V:=⟨⟨98,(sD [Ue,.i,.i,.bool]),[⟨[(0,Jcl),(1,zs3),(2,zs3)],Jm1⟩],fun(x0,x1,x2,x3)=>Qdf N x0 x1 x2 x3,[]⟩,kF N [Io,Qfo,Qga,Qsd] [] Tryz.func98⟩
def Qoa(N:Nat):V:=⟨⟨279,zs2,[zs5],Py N,[]⟩,kF N [] [(6,.lp [0,5] [] zs9 Qri)] Tryz.func279⟩
def Lf(N:Nat):V:=⟨⟨175,Jh8,[zs5],Wt N,[]⟩,kF N [Qoa] [(3,.rg (.n 9 (.sp 11 4 [1] [1] ⟨[(15,zs7)],[]⟩ (.nl 2 Qi3) Qaz (.n 11 .done))))] Tryz.func175⟩
def Th(N:Nat):V:=⟨⟨176,Jh8,[zs5],Gq N,[]⟩,kF N [] [] Tryz.func176⟩
def Qob(N:Nat):V:=⟨⟨174,(sD [.sl Yq]),[zs5],Pz N,[]⟩,kF N [Lf,Th,Ay] [(6,.lp [0,5,6] [] Qnj Qri),(19,.rg (.n 1 (.call 0 (.n 2 (.sp 15 4 [3,4,7] [4] Jg0 Qaz Q2l Jg7))))),(26,.jn [7] [4] [(.n,Jg3)]),(26,.an (.dc 9 [30,31,32,33,34,35,36,37,38] [] [4] (.op ⟨.nl 1 .done,[],[],[],[]⟩ (.op ⟨.nl 1 .done,[],[],[],[]⟩ (.op ⟨.nl 1 .done,[],[],[],[]⟩ (.so 32 (.op ⟨.nl 1 .done,[],[],[],[]⟩ (.op ⟨.nl 1 .done,[],[],[],[]⟩ (.op ⟨.nl 1 .done,[],[],[],[]⟩ (.op ⟨.nl 1 .done,[],[],[],[]⟩ (.op ⟨.nl 1 .done,[],[],[],[]⟩ (.op ⟨.nl 1 .done,[],[4],[],[]⟩ (.tl Jlb))))))) Jra))))))] Tryz.func174⟩
def Qoc(N:Nat):V:=⟨⟨177,⟨[(0,Gu),(1,I8)],[(5000,.var 35 Joe),(5001,Q2o)]⟩,[Nh],fun(ca,ce)=>P0 N ca ce,[5000,5001]⟩,kF N [Ay] [(6,.lp [0,1,6,7] [] Qk3 Jrg),(35,.an (.dr 6 Q2b .done))] Tryz.func177⟩
def Qtj(N:Nat):V:=⟨⟨99,(sD [.sl Yq,Yq]),[⟨[(0,Sy),(1,zs3)],[(1,Qbv)]⟩],fun(x0,x1)=>Qdg N x0 x1,[]⟩,kF N [Qob,Lf,Th,Qoc] [(4,.rg (.n 1 (.call 0 (.n 2 (.sp 14 4 [2,3] [2,3] Q19 Qaz Q2l .done))))),(21,.rg (.n 1 (.call 3 Jlh))),(25,.jn [2,7,8] [2,3] [(.n,⟨[(9,Qb8)],[(100100,Q2o)]⟩)]),(29,.an (.dr 9 (.n 9 .done) Vo)),(30,.an (.dr 9 (.n 9 .done) Vo)),(43,.jn [2,8] [2,3,100100] [(.n,⟨[(10,Qha)],[(100200,Qbv)]⟩)])] Tryz.func99⟩
def Qse(N:Nat):V:=⟨⟨59,Jh6,[⟨Qi8,[(5000,.var 102 (.ag (sL [H4,Q9v,V8,Av,Bz,Qvo,zs3,Q9w]))),(1,Ub),(2,Uc),(3,Uv)]⟩],fun(cx,dg,cq,g8,g9,gp,du,dv,dw,dy,dz,dl,g5,dx,dq,g6,g7,ce,cd,cg)=>Qay N cx dg cq g8 g9 gp du dv dw dy dz dl g5 dx dq g6 g7 ce cd cg,[]⟩,kF N [Qti,Tf,Qtj] [(3,.an (.dc 27 [9,10,11,12,13,14,15,16,17,18,19,20,21,22,23,24,25,26,27,28,8,29,30,31,3,1000000025,4] [5000] [] (.op ⟨.nl 1 .done,[],[],[],[5000]⟩ (.op ⟨.nl 1 .done,[],[5000],[],[5000]⟩ (.op ⟨.nl 1 .done,[],[],[],[5000]⟩ (.op ⟨.nl 1 .done,[],[5000],[],[]⟩ (.op ⟨.nl 1 .done,[],[],[],[5000]⟩ (.op ⟨.nl 1 .done,[],[5000],[],[5000]⟩ (.op ⟨.nl 1 .done,[],[],[],[5000]⟩ (.op ⟨.nl 1 .done,[],[],[],[5000]⟩ (.op ⟨.nl 1 .done,[],[5000],[],[]⟩ (.op ⟨.nl 1 .done,[],[],[],[5000]⟩ (.op ⟨.nl 1 .done,[],[5000],[],[5000]⟩ (.op ⟨.nl 1 .done,[],[],[],[5000]⟩ (.op ⟨.nl 1 .done,[],[],[],[5000]⟩ (.op ⟨.nl 1 .done,[],[5000],[],[]⟩ (.op ⟨.nl 1 .done,[],[],[],[5000]⟩ (.op ⟨.nl 1 .done,[],[5000],[],[5000]⟩ (.op ⟨.nl 1 .done,[],[],[],[5000]⟩ (.op ⟨.nl 1 .done,[],[],[],[5000]⟩ (.op ⟨.nl 1 .done,[],[5000],[],[]⟩ (.op ⟨.call 0 .done,[],[],[12803,12802,12801],[12801,12802,12803]⟩ (.op ⟨.nl 1 .done,[],[],[],[12801,12802,12803]⟩ (.op ⟨.nl 1 .done,[],[],[],[12801,12802,12803]⟩ (.op ⟨.nl 1 .done,[],[],[],[]⟩ (.op ⟨.nl 1 .done,[],[],[],[]⟩ (.op ⟨.nl 1 .done,[],[],[3],[3]⟩ (.op ⟨.nl 1 .done,[3],[12801,12802,12803],[],[3,12801,12802,12803]⟩ Qvf)))))))))))))))))))))))))))),(5,.gh (.fz 12803 (.dt 3 .done))),(5,.an (.dc 30 [33,34,35,36,37,38,39,40,41,42,43,44,45,46,47,48,49,50,51,52,53,54,55,56,57,58,32,59,60,6] [3,5000,5001,5002,5003] [] (.op ⟨.nl 1 .done,[],[],[],[3]⟩ (.op ⟨.nl 1 .done,[],[3],[],[]⟩ (.op ⟨.nl 1 .done,[],[],[],[5000]⟩ (.op ⟨.nl 1 .done,[],[5000],[],[5000]⟩ (.op ⟨.nl 1 .done,[],[],[],[5000]⟩ (.op ⟨.nl 1 .done,[],[],[],[5000]⟩ (.op ⟨.nl 1 .done,[],[5000],[],[]⟩ (.op ⟨.nl 1 .done,[],[],[],[5000]⟩ (.op ⟨.nl 1 .done,[],[5000],[],[5000]⟩ (.op ⟨.nl 1 .done,[],[],[],[5000]⟩ (.op ⟨.nl 1 .done,[],[],[],[5000]⟩ (.op ⟨.nl 1 .done,[],[5000],[],[]⟩ (.op ⟨.nl 1 .done,[],[],[],[5000]⟩ (.op ⟨.call 1 .done,[],[5000,5001,5002,5003],[],[]⟩ (.op ⟨.nl 1 .done,[],[],[],[5000]⟩ (.op ⟨.nl 1 .done,[],[5000],[],[5000]⟩ (.op ⟨.nl 1 .done,[],[],[],[5000]⟩ (.op ⟨.nl 1 .done,[],[],[],[5000]⟩ (.op ⟨.nl 1 .done,[],[5000],[],[]⟩ (.op ⟨.nl 1 .done,[],[],[],[5000]⟩ (.op ⟨.nl 1 .done,[],[5000],[],[5000]⟩ (.op ⟨.nl 1 .done,[],[],[],[5000]⟩ (.op ⟨.nl 1 .done,[],[],[],[5000]⟩ (.op ⟨.nl 1 .done,[],[5000],[],[]⟩ (.op ⟨.nl 1 .done,[],[],[],[]⟩ (.op ⟨.call 2 .done,[],[],[15801],[15801]⟩ (.op ⟨.nl 1 .done,[],[],[],[15801]⟩ (.op ⟨.nl 1 .done,[],[],[],[15801]⟩ (.op ⟨.nl 1 .done,[],[],[],[]⟩ (.op ⟨.nl 1 .done,[],[],[],[15801]⟩ Ln))))))))))))))))))))))))))))))))] Tryz.func59⟩
def Qyd(N:Nat):V:=⟨⟨58,Joj,[Jok],fun(ct,cp,cw,dh,di,gc,cy,cz,d4,d5,d6,d7,d8,d9,da,db,de,cd,cg,ci)=>Qg7 N ct cp cw dh di gc cy cz d4 d5 d6 d7 d8 d9 da db de cd cg ci,[5000]⟩,kF N [Qse] [] Tryz.func58⟩
def Qod(N:Nat):V:=⟨⟨48,⟨[(0,.f 58 Qmv),(1,.p 5005 [])],Jol⟩,[Jom],fun(ct,cp,cw,dh,di,gc,cy,cz,d4,d5,d6,d7,d8,d9,da,db,de,cd,cg,ci,cj)=>P1 N ct cp cw dh di gc cy cz d4 d5 d6 d7 d8 d9 da db de cd cg ci cj,[5000]⟩,kF N [Qyd] [(3,.rg (.n 1 Qi3))] Tryz.func48⟩
def Q6r(N:Nat):V:=⟨⟨17,(sD [Vx,Ue,J2]),[⟨[(0,Q9v),(1,Q9w)],[(1,Ub),(2,Uc),(3,Uv)]⟩],fun(x0,x1,x2)=>Ds N x0 x1 x2,[]⟩,kF N [Qx3,Qx5,Qnq,Qn5,Qn9,Qod] [(7,.an (.dc 5 [18,19,20,21,1000000004] [4,5,6] [] (.op ⟨.nl 1 .done,[],[4],[],[]⟩ (.op ⟨.call 0 .done,[],[],[11903,11902,11901],[11901,11902,11903]⟩ (.op ⟨.nl 1 .done,[],[5],[],[]⟩ (.op ⟨.nl 1 .done,[],[],[],[]⟩ (.op ⟨.nl 1 .done,[6],[11901,11902,11903],[],[6,11901,11902,11903]⟩ Ln))))))),(17,.rg (.n 2 (.call 1 .done))),(19,.rg (.n 2 (.call 2 .done))),(21,.rg (.n 2 (.call 3 .done))),(23,.rg Jh1),(25,.rg (.n 2 (.call 5 .done))),(31,.an (.dc 6 [47,48,49,50,51,1000000005] [4,5,9,6] [] (.op ⟨.nl 1 .done,[],[4],[],[]⟩ (.op ⟨.call 0 .done,[],[],[14803,14802,14801],[14801,14802,14803]⟩ (.op ⟨.nl 1 .done,[],[5],[],[]⟩ (.op ⟨.nl 1 .done,[],[9],[],[]⟩ (.op ⟨.nl 1 .done,[],[],[],[]⟩ (.op ⟨.nl 1 .done,[6],[14801,14802,14803],[],[6,14801,14802,14803]⟩ Ln)))))))),(35,.an (.dc 9 [52,53,54,55,56,57,58,59,1000000008] [8,28,6] [] (.op ⟨.nl 1 .done,[],[8],[],[28]⟩ (.op ⟨.nl 1 .done,[],[28],[],[28]⟩ (.op ⟨.nl 1 .done,[],[],[],[28]⟩ (.op ⟨.nl 1 .done,[],[28],[],[]⟩ (.op ⟨.nl 1 .done,[],[8],[],[28]⟩ (.op ⟨.nl 1 .done,[],[28],[],[28]⟩ (.op ⟨.nl 1 .done,[],[],[],[28]⟩ (.op ⟨.nl 1 .done,[],[28],[],[14401,14402,14403]⟩ (.op ⟨.nl 1 .done,[6],[],[],[6]⟩ Ln)))))))))))] Tryz.func17⟩
def Xy(N n:Nat):Con:=⟨100,Qrl,[Qrl],fun x0=>J3 N n x0,[]⟩
theorem W0(N:Nat):∀n,KO (Xy N n)
 | 0=>⟨F4 fun _=>rfl,I6 Tryz.func100 rfl⟩
 | n+1=>have ih:=W0 N n; kF N [fun _=>⟨_,ih⟩] [(8,.lp [1,2] [1,2] ⟨Jia,[(100000,.var 180 (.ag (sL [zs3,zs3,Yd,Qnl]))),(100001,Q9k)]⟩ [(.x 0,⟨Qvg,[(100100,.var 180 (.ag (sL [zs3,zs3,Yd,Qbw]))),(100101,Q9k)]⟩)]),(17,.an (.dc 9 [19,20,21,22,23,24,25,26,27] [100000] [1] (.op ⟨.nl 1 .done,[],[],[],[100000]⟩ (.op ⟨.nl 1 .done,[],[100000],[],[100001]⟩ (.op ⟨.nl 1 .done,[],[],[],[1]⟩ (.op ⟨.nl 1 .done,[],[1],[],[]⟩ (.op ⟨.nl 1 .done,[],[],[],[]⟩ (.op ⟨.nl 1 .done,[],[],[],[]⟩ (.op ⟨.nl 1 .done,[],[],[],[]⟩ (.op ⟨.call 0 .done,[],[],[],[]⟩ (.op ⟨.nl 1 .done,[],[],[],[]⟩ Qrk)))))))))))] Tryz.func100
def Rb(N:Nat):V:=⟨Xy N N,W0 N N⟩
def Nr(N:Nat):V:=⟨⟨60,Q2d,[⟨[(0,Q2k)],Jht⟩],Kb N,[]⟩,kF N [Rb] [(8,.lp [1,2] [1,2] ⟨Jia,Jng⟩ Jnh),(17,.an (.dc 18 [24,25,26,27,28,29,30,31,32,33,34,35,36,37,38,39,40,41] [100000] [1] (.op ⟨.nl 1 .done,[],[],[],[100000]⟩ (.op ⟨.nl 1 .done,[],[100000],[],[100001]⟩ (.op ⟨.nl 1 .done,[],[],[],[1]⟩ (.op ⟨.nl 1 .done,[],[1],[],[]⟩ (.op ⟨.nl 1 .done,[],[],[],[]⟩ (.op ⟨.nl 1 .done,[],[],[],[]⟩ (.op ⟨.nl 1 .done,[],[],[],[]⟩ (.op ⟨.nl 1 .done,[],[],[],[]⟩ (.op ⟨.nl 1 .done,[],[],[32],[32]⟩ (.op ⟨.nl 1 .done,[],[],[],[1]⟩ (.op ⟨.nl 1 .done,[],[1],[],[]⟩ (.op ⟨.nl 1 .done,[],[],[],[]⟩ (.op ⟨.nl 1 .done,[],[],[],[]⟩ (.op ⟨.nl 1 .done,[],[],[],[]⟩ (.op ⟨.nl 1 .done,[],[],[],[]⟩ (.op ⟨.nl 1 .done,[32],[],[39],[39]⟩ (.op ⟨.nl 1 .done,[],[],[],[39]⟩ (.op ⟨.fz 39 (.nl 1 .done),[39],[],[],[39]⟩ Qrk)))))))))))))))))))),(23,.lp [1,2] [1,2] ⟨[(3,Qk5),(5,zs3)],Jni⟩ Jnj),(32,.an (.dc 18 [51,52,53,54,55,56,57,58,59,60,61,62,63,64,65,66,67,68] [100200] [1] (.op ⟨.nl 1 .done,[],[],[],[100200]⟩ (.op ⟨.nl 1 .done,[],[100200],[],[100202]⟩ (.op ⟨.nl 1 .done,[],[],[],[1]⟩ (.op ⟨.nl 1 .done,[],[1],[],[]⟩ (.op ⟨.nl 1 .done,[],[],[],[]⟩ (.op ⟨.nl 1 .done,[],[],[],[]⟩ (.op ⟨.nl 1 .done,[],[],[],[]⟩ (.op ⟨.nl 1 .done,[],[],[],[]⟩ (.op ⟨.nl 1 .done,[],[],[59],[59]⟩ (.op ⟨.nl 1 .done,[],[],[],[1]⟩ (.op ⟨.nl 1 .done,[],[1],[],[]⟩ (.op ⟨.nl 1 .done,[],[],[],[]⟩ (.op ⟨.nl 1 .done,[],[],[],[]⟩ (.op ⟨.nl 1 .done,[],[],[],[]⟩ (.op ⟨.nl 1 .done,[],[],[],[]⟩ (.op ⟨.nl 1 .done,[59],[],[66],[66]⟩ (.op ⟨.nl 1 .done,[],[],[],[66]⟩ (.op ⟨.fz 66 (.nl 1 .done),[66],[],[],[66]⟩ Qrk)))))))))))))))))))),(38,.lp [1,2] [1,2] ⟨[(3,Qvj),(6,zs3)],Jnk⟩ Jnm),(51,.rg (.n 3 (.fz 86 Qi6))),(57,.lp [1,2] [1,2] ⟨[(3,.p 100600 []),(8,zs3)],Jnn⟩ Jnp)] Tryz.func60⟩
def Rc(N:Nat):V:=⟨⟨18,(sD [Vx]),[⟨[(0,.ag (sL [Sy,Q2a,.s 3,.s 4,.s 5,.s 6]))],[(1,Qrr),(2,Qrs),(3,Qja),(4,Qrt),(5,H3),(6,Jib)]⟩],Yz N,[]⟩,kF N [Nr] [(3,.an (.dc 14 [11,12,13,14,15,16,17,18,19,20,21,22,23,3] [1] [] (.op ⟨.nl 1 .done,[],[],[11],[11]⟩ (.op ⟨.nl 1 .done,[],[],[],[1]⟩ (.op ⟨.nl 1 .done,[],[1],[],[]⟩ (.op ⟨.nl 1 .done,[11],[],[14],[14]⟩ (.op ⟨.nl 1 .done,[],[],[15],[15]⟩ (.op ⟨.nl 1 .done,[],[],[],[1]⟩ (.op ⟨.nl 1 .done,[],[1],[],[]⟩ (.op ⟨.nl 1 .done,[15],[],[18],[18]⟩ (.op ⟨.nl 1 .done,[],[],[19],[19]⟩ (.op ⟨.nl 1 .done,[],[],[],[1]⟩ (.op ⟨.nl 1 .done,[],[1],[],[]⟩ (.op ⟨.nl 1 .done,[19],[],[22],[22]⟩ (.op ⟨.nl 1 .done,[],[],[],[14,18,22]⟩ Q88))))))))))))))),(8,.lp [1,2] [1,2] ⟨Jia,[(100000,.var 29 (.ag (sL [Qnl,Jlg,.ns,Jp2,.s 100004,.ns]))),(100001,Qrr),(100002,Qrs),(100003,Qrt),(100004,H3)]⟩ [(.x 0,⟨Qvg,[(100100,.var 29 (.ag (sL [Qbw,Jg4,.ns,Jg5,.s 100104,.ns]))),(100101,Qrr),(100102,Qrs),(100103,Qrt),(100104,H3)]⟩)]),(17,.an (.dc 9 [31,32,33,34,35,36,37,38,39] [100000] [1] (.op ⟨.nl 1 .done,[],[],[],[100000]⟩ (.op ⟨.nl 1 .done,[],[100000],[],[100002]⟩ (.op ⟨.nl 1 .done,[],[],[],[1]⟩ (.op ⟨.nl 1 .done,[],[1],[],[]⟩ (.op ⟨.nl 1 .done,[],[],[],[]⟩ (.op ⟨.nl 1 .done,[],[],[],[]⟩ (.op ⟨.nl 1 .done,[],[],[],[]⟩ (.op ⟨.call 0 .done,[],[],[13804,13803,13802,13801],[13801,13802,13803,13804]⟩ (.op ⟨.fz 13801 (.fz 13802 (.fz 13803 (.fz 13804 (.nl 1 .done)))),[13801,13802,13803,13804],[],[],[13801,13802,13803,13804]⟩ Qrk))))))))))),(23,.lp [1,2] [1,2] ⟨[(3,Qk5),(5,zs3)],[(100200,.var 29 (.ag (sL [Qx2,Jlf,Jp1,.s 100204,.s 100205,.ns]))),(100201,Qrr),(100202,Qrs),(100203,Qja),(100204,Qrt),(100205,H3)]⟩ [(.x 2,⟨Jnl,[(100500,.var 29 (.ag (sL [Jhu,.s 100502,.s 100503,.s 100504,.s 100505,.ns]))),(100501,Qrr),(100502,Qrs),(100503,Qja),(100504,Qrt),(100505,H3)]⟩)]),(40,.lp [3,5] [100200,100201,100202,100203,100204,100205] ⟨[(6,Qf9),(7,zs3)],[(100300,.var 108 (.ag (sL [Yd,zs3,zs3,Yd,zs7,Q2j]))),(100301,Qvm)]⟩ [(.x 4,⟨[(6,Qvj)],[(100400,.var 108 (.ag (sL [Yd,zs3,zs3,Yd,zs7,Q9i]))),(100401,Qvm)]⟩)]),(53,.rg (.n 3 (.fz 78 Qi6))),(55,.rg (.n 3 (.fz 100401 Qi6))),(61,.lp [1,2] [1,2] ⟨[(3,.p 100600 []),(9,zs3)],[(100600,.var 29 (.ag (sL [Jhv,.s 100602,.s 100603,.s 100604,.s 100605,.s 100606]))),(100601,Qrr),(100602,Qrs),(100603,Qja),(100604,Qrt),(100605,H3),(100606,Jib)]⟩ [(.x 6,⟨Jno,[(100700,.var 29 (.ag (sL [Jhw,.s 100702,.s 100703,.s 100704,.s 100705,.s 100706]))),(100701,Qrr),(100702,Qrs),(100703,Qja),(100704,Qrt),(100705,H3),(100706,Jib)]⟩)]),(74,.rg (.n 3 (.fz 107 Qi6)))] Tryz.func18⟩
def Qfp(N:Nat):V:=⟨⟨22,(sD [Xd,Xd]),[zs5],fun(x0,x1)=>At N x0 x1,[]⟩,kF N [] [(22,.lp [2,3] [2,3] zs4 zs8),(32,.an (.dr 11 (.n 11 .done) .done)),(43,.lp [2,3] [2,3] zs9 Jk6),(53,.an (.dr 11 (.n 11 .done) .done)),(64,.lp [2,3] [2,3] Qnj Jk7),(74,.an (.dr 11 (.n 11 .done) .done))] Tryz.func22⟩
def Nz(N:Nat):V:=⟨⟨63,Q9u,[zs5],fun(x0,x1)=>Kx N x0 x1,[]⟩,kF N [] [(14,.lp [2,3] [2,3] zs4 zs8),(24,.an (.dr 11 (.n 11 .done) .done))] Tryz.func63⟩
def Rd(N:Nat):V:=⟨⟨21,(sD [Ue,Ue]),[zs5],fun(x0,x1)=>Ur N x0 x1,[]⟩,kF N [Nz] [(14,.lp [2,3] [2,3] zs4 zs8),(24,.an (.dr 10 Jg7 Qi3)),(35,.lp [2,3] [2,3] zs9 Jk6),(45,.an (.dr 11 (.n 11 .done) .done)),(56,.lp [2,3] [2,3] Qnj Jk7),(66,.an (.dr 11 (.n 11 .done) .done))] Tryz.func21⟩
def Qfq(N:Nat):V:=⟨⟨25,Jon,[zs5],fun(x0,x1,x2)=>Wy N x0 x1 x2,[]⟩,kF N [Qd5,Qcf,Qfg] [(4,.rg (.n 5 (.sp 13 5 [1,2,3] [3] Q19 Fs Q2c .done))),(14,.lp [1] [3] Qnj Jha),(25,.rg (.n 4 (.call 1 (.n 2 (.sp 31 8 [7] [] ⟨[(39,zs7)],[]⟩ Qi9 (.nl 5 Jlb) (.n 1 (.sp 40 8 [7] [] Jpr Qi9 Qi9 (.n 1 (.sp 49 8 [7] [] ⟨[(57,zs7)],[]⟩ Qi9 Qi9 .done))))))))),(34,.lp [7] [] Qk3 [(.x 2,zs6),(.r,⟨[(6,zs7)],[]⟩)]),(44,.an (.dr 11 (.n 11 .done) .done))] Tryz.func25⟩
def Qoe(N:Nat):V:=⟨⟨66,Jhh,[Q2g],P2 N,[]⟩,kF N [] [(3,.an (.dc 8 [6,7,8,9,10,11,12,3] [1] [] (.op ⟨.nl 1 .done,[],[],[],[1]⟩ (.op ⟨.nl 1 .done,[],[1],[],[]⟩ (.op ⟨.nl 1 .done,[],[],[8],[8]⟩ (.op ⟨.nl 1 .done,[],[],[],[1]⟩ (.op ⟨.nl 1 .done,[],[1],[],[]⟩ (.op ⟨.nl 1 .done,[],[],[11],[11]⟩ (.op ⟨.nl 1 .done,[],[],[],[8,11]⟩ Q88))))))))),(8,.lp [2,14,15] [1,2] ⟨[(3,S5),(16,zs3)],[(100000,.var 37 Jp3),(100001,Un),(100002,Qbu),(100003,Qbv)]⟩ [(.x 0,⟨Qvg,[(100100,.var 37 (.ag (sL [Qbw,Jg4,Jg5]))),(100101,Un),(100102,Qbu),(100103,Qbv)]⟩)]),(21,.rg (.n 3 (.fz 22 Qi6)))] Tryz.func66⟩
def Qye(N:Nat):V:=⟨⟨119,(sD [J2]),[(sD [Lj])],Cu N,[]⟩,kF N [] [] Tryz.func119⟩
def Qlr(N:Nat):V:=⟨⟨118,(sD [Lj,Lj]),[zs5],fun(x0,x1)=>Gs N x0 x1,[]⟩,kF N [] [] Tryz.func118⟩
def Lg(N n:Nat):Con:=⟨67,Joo,[Joo],fun x0=>Zu N n x0,[]⟩
theorem Ns(N:Nat):∀n,KO (Lg N n)
 | 0=>⟨F4 fun _=>rfl,I6 Tryz.func67 rfl⟩
 | n+1=>have ih:=Ns N n; kF N [fun _=>⟨_,ih⟩,Qye,Qlr] [(11,.an (.dc 11 [11,12,13,14,15,16,17,18,19,20,21] [] [] (.op ⟨.nl 1 .done,[],[],[],[]⟩ (.op ⟨.nl 1 .done,[],[],[],[]⟩ (.op ⟨.nl 1 .done,[],[],[],[]⟩ (.op ⟨.nl 1 .done,[],[],[],[]⟩ (.op ⟨.nl 1 .done,[],[],[],[]⟩ (.op ⟨.call 0 .done,[],[],[],[]⟩ (.op ⟨.nl 1 .done,[],[],[],[]⟩ (.op ⟨.nl 1 .done,[],[],[],[]⟩ (.op ⟨.nl 1 .done,[],[],[],[]⟩ (.op ⟨.nl 1 .done,[],[],[],[]⟩ (.op ⟨.nl 1 .done,[],[],[],[]⟩ (.tl Jh7)))))))))))))),(16,.lp [] [] ⟨[(3,Jop),(4,Jop),(5,P3)],[(100000,Qm0)]⟩ [(.x 0,⟨Jle,[(100200,Qm0)]⟩)]),(25,.jn [3,4,5] [100000] Jrd),(25,.an (.dc 15 [34,35,36,37,38,39,40,41,42,43,44,45,46,47,48] [] [] (.op ⟨.nl 1 .done,[],[],[],[]⟩ (.op ⟨.nl 1 .done,[],[],[],[]⟩ (.op ⟨.nl 1 .done,[],[],[],[]⟩ (.op ⟨.nl 1 .done,[],[],[],[]⟩ (.so 37 (.op ⟨.nl 1 .done,[],[],[],[]⟩ (.op ⟨.nl 1 .done,[],[],[],[]⟩ (.op ⟨.nl 1 .done,[],[],[],[]⟩ (.op ⟨.nl 1 .done,[],[],[],[]⟩ Joq)))) (.op ⟨.nl 1 .done,[],[],[],[]⟩ (.op ⟨.nl 1 .done,[],[],[],[]⟩ (.op ⟨.nl 1 .done,[],[],[],[]⟩ (.op ⟨.nl 1 .done,[],[],[],[]⟩ (.so 41 (.op ⟨.nl 1 .done,[],[],[],[]⟩ (.op ⟨.nl 1 .done,[],[],[],[]⟩ (.op ⟨.nl 1 .done,[],[],[],[]⟩ (.op ⟨.call 1 .done,[],[],[],[]⟩ (.op ⟨.nl 1 .done,[],[],[],[]⟩ (.op ⟨.nl 1 .done,[],[],[],[]⟩ (.op ⟨.nl 1 .done,[],[],[],[]⟩ (.tl (.call 1 (.call 2 Jck)))))))))) Joq))))))))))))] Tryz.func67
def Qof(N:Nat):V:=⟨Lg N N,Ns N N⟩
def Ti(N:Nat):V:=⟨⟨30,(sD [Vx,Ue,.sl J2]),[Jor],fun(x0,x1,x2)=>Zc N x0 x1 x2,[]⟩,kF N [Qoe,Qof,Q6r] [(10,.gh (.fz 11501 (.fz 11502 (.fz 11503 .done)))),(10,.lp [3,6,17,18] [3,4,6] ⟨[(8,S5),(9,Qnl),(19,zs3)],[(100000,.var 37 Q9v),(100001,Jic)]⟩ [(.x 0,⟨[(8,Qb8),(9,Qbw)],[(100100,.var 37 B1),(100101,Jic)]⟩)]),(25,.rg (.n 2 (.fz 12701 (.fz 12702 (.fz 12703 Q6o)))))] Tryz.func30⟩
def Qgb(N:Nat):V:=⟨⟨27,(sD [Vx,.sl J2]),[Jor],fun(x0,x1)=>Uu N x0 x1,[]⟩,kF N [Ti] [] Tryz.func27⟩
def Qls(N:Nat):V:=⟨⟨64,(sD [.sl Xd]),[Q9n],Qdh N,[]⟩,kF N [] [(8,.lp [10,11] [] ⟨[(5,zs3),(6,zs3),(7,zs3),(12,zs3)],[]⟩ [(.x 0,⟨[(5,zs3),(6,zs3),(7,zs3)],[]⟩)])] Tryz.func64⟩
def Qeh(N:Nat):V:=⟨⟨26,(sD []),[zs5],fun _=>Zd N,[]⟩,kF N [Qa4,Qgb,Qls] [(13,.an (.dc 10 [14,15,16,17,18,13,19,20,3,1000000009] [1,2] [] (.op ⟨.call 0 .done,[],[],[],[]⟩ (.op ⟨.nl 1 .done,[],[1],[],[]⟩ (.op ⟨.nl 1 .done,[],[2],[],[]⟩ (.op ⟨.nl 1 .done,[],[],[],[]⟩ (.op ⟨.call 1 .done,[],[],[11801],[11801]⟩ (.op ⟨.nl 1 .done,[],[],[],[11801]⟩ (.op ⟨.nl 1 .done,[],[],[],[]⟩ (.op ⟨.nl 1 .done,[],[],[],[11801]⟩ Jne)))))))))),(16,.rg (.n 10 (.sp 30 7 [3,4] [1,2,3,11801] Jpq Qa0 Qa0 (.n 1 (.sp 38 7 [3,4] [1,2,3,11801] ⟨[(45,zs7)],[]⟩ Qa0 Qa0 .done))))),(25,.rg (.n 7 (.sp 58 6 [3,4,5,6,7] [1,2,3,11801] ⟨[(64,zs7)],[]⟩ Qs9 Qs9 (.n 1 (.sp 65 9 [3,4,5,6,7] [1,2,3,11801] ⟨[(74,zs7)],[]⟩ Qk4 Qk4 (.n 1 (.sp 75 6 [3,4,5,6,7] [1,2,3,11801] ⟨[(81,zs7)],[]⟩ Qs9 Qs9 (.n 1 (.sp 82 9 [3,4,5,6,7] [1,2,3,11801] ⟨[(91,zs7)],[]⟩ Qk4 Qk4 (.n 13 (.sp 104 7 [3] [1,2,3,11801] ⟨[(111,zs7)],[]⟩ Qa0 Qa0 Vo)))))))))))] Tryz.func26⟩
def Re(N:Nat):V:=⟨⟨29,(sD [.sl Xd,.sl Xd]),[zs5],fun(x0,x1)=>Us N x0 x1,[]⟩,kF N [Qfp] [(14,.lp [0,1] [] zs4 zs8),(24,.an (.dr 8 Qi4 Qi3))] Tryz.func29⟩
def Xz(N:Nat):V:=⟨⟨7,Jon,[zs5],fun(x0,x1,x2)=>Vn N x0 x1 x2,[]⟩,kF N [Qfq,Qeh,Rc,Qgb,Ti,Rd,Re] [(16,.lp [1,2,3] [3] ⟨[(7,P3),(8,Qnl),(9,zs3)],[(100000,Qm0),(100001,Qm0)]⟩ [(.x 0,⟨[(7,Qha),(8,Qx2)],[(100200,Qm0),(100201,Qm0)]⟩)]),(24,.jn [9] [] [(.n,⟨[(7,Qdj),(8,Qbw)],[(100100,Qm0),(100101,Qm0)]⟩)]),(34,.gh (.fz 100201 .done)),(34,.an (.dc 10 [58,59,60,61,62,57,63,64,12,1000000009] [3,10] [] (.op ⟨.nl 1 .done,[],[3],[],[]⟩ (.op ⟨.call 2 .done,[],[],[15906,15905,15904,15903,15902,15901],[15901,15902,15903,15904,15905,15906]⟩ (.op ⟨.nl 1 .done,[],[10],[],[]⟩ (.op ⟨.nl 1 .done,[],[],[],[]⟩ (.op ⟨.call 4 .done,[15904,15905,15906,15901,15902,15903],[],[16201],[15901,15902,15903,15904,15905,15906,16201]⟩ (.op ⟨.nl 1 .done,[],[],[],[16201]⟩ (.op ⟨.nl 1 .done,[],[],[],[]⟩ (.op ⟨.nl 1 .done,[],[],[],[16201]⟩ (.op ⟨.nl 1 .done,[],[],[12],[12]⟩ (.op ⟨.nl 1 .done,[12],[],[],[12]⟩ Ln)))))))))))),(38,.rg (.n 2 (.call 5 (.n 1 (.fz 17101 (.sp 77 8 [11,13,15] [3,10,12,14,70,15201,15202,15203,15204,15205,15206,15401,15901,15902,15903,15904,15905,15906,16201,16701,16702,16703,16704,16705,16706,17101,100200,100201] ⟨[(85,zs7)],[]⟩ (.nl 6 (.call 6 Vo)) Qi9 (.n 1 (.sp 86 2 [] [3,10,12,14,70,15201,15202,15203,15204,15205,15206,15401,15901,15902,15903,15904,15905,15906,16201,16701,16702,16703,16704,16705,16706,17101,100200,100201] ⟨[(88,zs7)],[]⟩ Jg6 Qs7 Vo))))))))] Tryz.func7⟩
end Gx
