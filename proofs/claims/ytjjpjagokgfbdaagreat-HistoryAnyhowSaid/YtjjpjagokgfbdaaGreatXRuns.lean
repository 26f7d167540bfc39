/- The interpreter gives these functions. -/
import Derived.Test.YtjjpjagokgfbdaaGreatXFns
import Derived.Test.YtjjpjagokgfbdaaGreatProg
import Derived.Test.YtjjpjagokgfbdaaGreatXRn
import Derived.Test.YtjjpjagokgfbdaaGreatXShelf
namespace Gx
open Go Gd Go.Proofs
set_option linter.unusedVariables false
def tab:Tab:=[
 ⟨1,.func⟨[]⟩⟨[]⟩false,.nilFunc,1,8⟩,
 ⟨2,.int .i64,.int .i64 0,1,8⟩,
 ⟨3,.int .i64,.int .i64 0,1,8⟩,
 ⟨4,.bool,.bool false,1,1⟩,
 ⟨5,.int .u8,.int .u8 0,1,1⟩,
 ⟨6,.int .u8,.int .u8 0,1,1⟩,
 ⟨9,.string,Ye [],1,16⟩,
 ⟨22,.slice 144,.slice none 0 0,1,24⟩,
 ⟨23,.slice 100,.slice none 0 0,1,24⟩,
 ⟨24,.slice 108,.slice none 0 0,1,24⟩,
 ⟨25,.slice 209,.slice none 0 0,1,24⟩,
 ⟨26,.slice 3,.slice none 0 0,1,24⟩,
 ⟨27,.slice 113,.slice none 0 0,1,24⟩,
 ⟨29,.struct⟨[⟨"Events",22,0,false, "", "",0⟩,⟨"Tariffs",23,1,false, "", "",24⟩,⟨"Products",24,2,false, "", "",48⟩,⟨"Taxes",25,3,false, "", "",72⟩,⟨"Holidays",26,4,false, "", "",96⟩,⟨"Agreements",27,5,false, "", "",120⟩]⟩,.agg⟨[.slice none 0 0,.slice none 0 0,.slice none 0 0,.slice none 0 0,.slice none 0 0,.slice none 0 0]⟩,6,144⟩,
 ⟨30,.slice 40,.slice none 0 0,1,24⟩,
 ⟨33,.slice 68,.slice none 0 0,1,24⟩,
 ⟨34,.slice 63,.slice none 0 0,1,24⟩,
 ⟨35,.slice 88,.slice none 0 0,1,24⟩,
 ⟨37,.struct⟨[⟨"Buckets",33,0,false, "", "",0⟩,⟨"Wallets",34,1,false, "", "",24⟩,⟨"Counters",35,2,false, "", "",48⟩]⟩,.agg⟨[.slice none 0 0,.slice none 0 0,.slice none 0 0]⟩,3,72⟩,
 ⟨40,.struct⟨[⟨"Id",3,0,false, "", "",0⟩,⟨"Kind",3,1,false, "", "",8⟩,⟨"Account",3,2,false, "", "",16⟩,⟨"Sub",3,3,false, "", "",24⟩,⟨"A",9,4,false, "", "",32⟩,⟨"B",9,5,false, "", "",48⟩,⟨"Start",3,6,false, "", "",64⟩,⟨"Units",3,7,false, "", "",72⟩,⟨"Trunk",3,8,false, "", "",80⟩,⟨"Inbound",4,9,false, "", "",88⟩,⟨"Source",3,10,false, "", "",96⟩,⟨"Serial",3,11,false, "", "",104⟩]⟩,.agg⟨[.int .i64 0,.int .i64 0,.int .i64 0,.int .i64 0,Ye [],Ye [],.int .i64 0,.int .i64 0,.int .i64 0,.bool false,.int .i64 0,.int .i64 0]⟩,12,112⟩,
 ⟨41,.int .i64,.int .i64 0,1,8⟩,
 ⟨42,.slice 70,.slice none 0 0,1,24⟩,
 ⟨43,.slice 86,.slice none 0 0,1,24⟩,
 ⟨44,.slice 116,.slice none 0 0,1,24⟩,
 ⟨46,.struct⟨[⟨"Usage",40,0,false, "", "",0⟩,⟨"Err",41,12,false, "", "",112⟩,⟨"Plan",9,13,false, "", "",120⟩,⟨"Version",3,14,false, "", "",136⟩,⟨"Zone",9,15,false, "", "",144⟩,⟨"Takes",42,16,false, "", "",160⟩,⟨"Segments",43,17,false, "", "",184⟩,⟨"Setup",3,18,false, "", "",208⟩,⟨"Gross",3,19,false, "", "",216⟩,⟨"Net",3,20,false, "", "",224⟩,⟨"Given",44,21,false, "", "",232⟩,⟨"Paid",3,22,false, "", "",256⟩,⟨"Owed",3,23,false, "", "",264⟩]⟩,.agg⟨[.int .i64 0,.int .i64 0,.int .i64 0,.int .i64 0,Ye [],Ye [],.int .i64 0,.int .i64 0,.int .i64 0,.bool false,.int .i64 0,.int .i64 0,.int .i64 0,Ye [],.int .i64 0,Ye [],.slice none 0 0,.slice none 0 0,.int .i64 0,.int .i64 0,.int .i64 0,.slice none 0 0,.int .i64 0,.int .i64 0]⟩,24,272⟩,
 ⟨56,.slice 46,.slice none 0 0,1,24⟩,
 ⟨63,.struct⟨[⟨"Account",3,0,false, "", "",0⟩,⟨"Balance",3,1,false, "", "",8⟩,⟨"Floor",3,2,false, "", "",16⟩,⟨"Held",3,3,false, "", "",24⟩,⟨"Until",3,4,false, "", "",32⟩]⟩,.agg⟨[.int .i64 0,.int .i64 0,.int .i64 0,.int .i64 0,.int .i64 0]⟩,5,40⟩,
 ⟨64,.slice 9,.slice none 0 0,1,24⟩,
 ⟨66,.struct⟨[⟨"From",3,0,false, "", "",0⟩,⟨"To",3,1,false, "", "",8⟩]⟩,.agg⟨[.int .i64 0,.int .i64 0]⟩,2,16⟩,
 ⟨68,.struct⟨[⟨"Account",3,0,false, "", "",0⟩,⟨"Sub",3,1,false, "", "",8⟩,⟨"Product",9,2,false, "", "",16⟩,⟨"Index",3,3,false, "", "",32⟩,⟨"Kind",3,4,false, "", "",40⟩,⟨"Zones",64,5,false, "", "",48⟩,⟨"Valid",66,6,false, "", "",72⟩,⟨"Units",3,8,false, "", "",88⟩,⟨"Left",3,9,false, "", "",96⟩,⟨"Priority",3,10,false, "", "",104⟩,⟨"Shared",4,11,false, "", "",112⟩]⟩,.agg⟨[.int .i64 0,.int .i64 0,Ye [],.int .i64 0,.int .i64 0,.slice none 0 0,.int .i64 0,.int .i64 0,.int .i64 0,.int .i64 0,.int .i64 0,.bool false]⟩,12,120⟩,
 ⟨70,.struct⟨[⟨"Sub",3,0,false, "", "",0⟩,⟨"Product",9,1,false, "", "",8⟩,⟨"Index",3,2,false, "", "",24⟩,⟨"From",3,3,false, "", "",32⟩,⟨"Units",3,4,false, "", "",40⟩]⟩,.agg⟨[.int .i64 0,Ye [],.int .i64 0,.int .i64 0,.int .i64 0]⟩,5,48⟩,
 ⟨73,.slice 122,.slice none 0 0,1,24⟩,
 ⟨83,.func⟨[3]⟩⟨[4]⟩false,.nilFunc,1,8⟩,
 ⟨86,.struct⟨[⟨"Band",9,0,false, "", "",0⟩,⟨"Start",3,1,false, "", "",16⟩,⟨"Units",3,2,false, "", "",24⟩,⟨"Amount",3,3,false, "", "",32⟩]⟩,.agg⟨[Ye [],.int .i64 0,.int .i64 0,.int .i64 0]⟩,4,40⟩,
 ⟨88,.struct⟨[⟨"Sub",3,0,false, "", "",0⟩,⟨"Kind",3,1,false, "", "",8⟩,⟨"From",3,2,false, "", "",16⟩,⟨"Units",3,3,false, "", "",24⟩,⟨"Spent",3,4,false, "", "",32⟩]⟩,.agg⟨[.int .i64 0,.int .i64 0,.int .i64 0,.int .i64 0,.int .i64 0]⟩,5,40⟩,
 ⟨90,.pointer 102,.pointer none,1,8⟩,
 ⟨92,.struct⟨[⟨"Period",66,0,false, "", "",0⟩,⟨"Plan",9,2,false, "", "",16⟩,⟨"Products",64,3,false, "", "",32⟩,⟨"Suspended",4,4,false, "", "",56⟩,⟨"Family",4,5,false, "", "",57⟩]⟩,.agg⟨[.int .i64 0,.int .i64 0,Ye [],.slice none 0 0,.bool false,.bool false]⟩,6,64⟩,
 ⟨94,.struct⟨[⟨"Id",3,0,false, "", "",0⟩,⟨"Since",3,1,false, "", "",8⟩,⟨"Anchor",3,2,false, "", "",16⟩,⟨"Prepaid",4,3,false, "", "",24⟩,⟨"Closed",4,4,false, "", "",25⟩,⟨"Subs",26,5,false, "", "",32⟩]⟩,.agg⟨[.int .i64 0,.int .i64 0,.int .i64 0,.bool false,.bool false,.slice none 0 0]⟩,6,56⟩,
 ⟨95,.slice 135,.slice none 0 0,1,24⟩,
 ⟨96,.slice 138,.slice none 0 0,1,24⟩,
 ⟨97,.slice 142,.slice none 0 0,1,24⟩,
 ⟨98,.slice 182,.slice none 0 0,1,24⟩,
 ⟨100,.struct⟨[⟨"Name",9,0,false, "", "",0⟩,⟨"From",3,1,false, "", "",16⟩,⟨"Split",4,2,false, "", "",24⟩,⟨"Zones",95,3,false, "", "",32⟩,⟨"Bands",96,4,false, "", "",56⟩,⟨"Rates",97,5,false, "", "",80⟩,⟨"Discounts",98,6,false, "", "",104⟩]⟩,.agg⟨[Ye [],.int .i64 0,.bool false,.slice none 0 0,.slice none 0 0,.slice none 0 0,.slice none 0 0]⟩,7,128⟩,
 ⟨102,.struct⟨[⟨"book",29,0,false, "", "billing/rate",0⟩,⟨"state",37,6,false, "", "billing/rate",144⟩,⟨"u",40,9,false, "", "billing/rate",216⟩,⟨"spell",92,21,false, "", "billing/rate",328⟩,⟨"account",94,27,false, "", "billing/rate",392⟩,⟨"tariff",100,33,false, "", "billing/rate",448⟩,⟨"free",3,40,false, "", "billing/rate",576⟩,⟨"r",46,41,false, "", "billing/rate",584⟩]⟩,.agg⟨[.slice none 0 0,.slice none 0 0,.slice none 0 0,.slice none 0 0,.slice none 0 0,.slice none 0 0,.slice none 0 0,.slice none 0 0,.slice none 0 0,.int .i64 0,.int .i64 0,.int .i64 0,.int .i64 0,Ye [],Ye [],.int .i64 0,.int .i64 0,.int .i64 0,.bool false,.int .i64 0,.int .i64 0,.int .i64 0,.int .i64 0,Ye [],.slice none 0 0,.bool false,.bool false,.int .i64 0,.int .i64 0,.int .i64 0,.bool false,.bool false,.slice none 0 0,Ye [],.int .i64 0,.bool false,.slice none 0 0,.slice none 0 0,.slice none 0 0,.slice none 0 0,.int .i64 0,.int .i64 0,.int .i64 0,.int .i64 0,.int .i64 0,Ye [],Ye [],.int .i64 0,.int .i64 0,.int .i64 0,.bool false,.int .i64 0,.int .i64 0,.int .i64 0,Ye [],.int .i64 0,Ye [],.slice none 0 0,.slice none 0 0,.int .i64 0,.int .i64 0,.int .i64 0,.slice none 0 0,.int .i64 0,.int .i64 0]⟩,65,856⟩,
 ⟨103,.func⟨[]⟩⟨[41]⟩false,.nilFunc,1,8⟩,
 ⟨106,.slice 110,.slice none 0 0,1,24⟩,
 ⟨108,.struct⟨[⟨"Name",9,0,false, "", "",0⟩,⟨"From",3,1,false, "", "",16⟩,⟨"Fee",3,2,false, "", "",24⟩,⟨"Category",9,3,false, "", "",32⟩,⟨"Prorate",4,4,false, "", "",48⟩,⟨"Bundles",106,5,false, "", "",56⟩]⟩,.agg⟨[Ye [],.int .i64 0,.int .i64 0,Ye [],.bool false,.slice none 0 0]⟩,6,80⟩,
 ⟨110,.struct⟨[⟨"Kind",3,0,false, "", "",0⟩,⟨"Zones",64,1,false, "", "",8⟩,⟨"Units",3,2,false, "", "",32⟩,⟨"Rollover",3,3,false, "", "",40⟩,⟨"Priority",3,4,false, "", "",48⟩,⟨"Shared",4,5,false, "", "",56⟩]⟩,.agg⟨[.int .i64 0,.slice none 0 0,.int .i64 0,.int .i64 0,.int .i64 0,.bool false]⟩,6,64⟩,
 ⟨111,.slice 140,.slice none 0 0,1,24⟩,
 ⟨113,.struct⟨[⟨"Partner",3,0,false, "", "",0⟩,⟨"Kind",3,1,false, "", "",8⟩,⟨"Inbound",4,2,false, "", "",16⟩,⟨"Valid",66,3,false, "", "",24⟩,⟨"Steps",111,5,false, "", "",40⟩,⟨"Cap",3,6,false, "", "",64⟩]⟩,.agg⟨[.int .i64 0,.int .i64 0,.bool false,.int .i64 0,.int .i64 0,.slice none 0 0,.int .i64 0]⟩,7,72⟩,
 ⟨116,.struct⟨[⟨"Name",9,0,false, "", "",0⟩,⟨"Amount",3,1,false, "", "",16⟩]⟩,.agg⟨[Ye [],.int .i64 0]⟩,2,24⟩,
 ⟨119,.slice 125,.slice none 0 0,1,24⟩,
 ⟨122,.struct⟨[⟨"Usage",3,0,false, "", "",0⟩,⟨"Account",3,1,false, "", "",8⟩,⟨"Sub",3,2,false, "", "",16⟩,⟨"Kind",3,3,false, "", "",24⟩,⟨"Start",3,4,false, "", "",32⟩,⟨"Paid",3,5,false, "", "",40⟩,⟨"Owed",3,6,false, "", "",48⟩]⟩,.agg⟨[.int .i64 0,.int .i64 0,.int .i64 0,.int .i64 0,.int .i64 0,.int .i64 0,.int .i64 0]⟩,7,56⟩,
 ⟨125,.struct⟨[⟨"Kind",3,0,false, "", "",0⟩,⟨"Sub",3,1,false, "", "",8⟩,⟨"Name",9,2,false, "", "",16⟩,⟨"Category",9,3,false, "", "",32⟩,⟨"Count",3,4,false, "", "",48⟩,⟨"Units",3,5,false, "", "",56⟩,⟨"Amount",3,6,false, "", "",64⟩,⟨"Rounded",3,7,false, "", "",72⟩]⟩,.agg⟨[.int .i64 0,.int .i64 0,Ye [],Ye [],.int .i64 0,.int .i64 0,.int .i64 0,.int .i64 0]⟩,8,80⟩,
 ⟨135,.struct⟨[⟨"Name",9,0,false, "", "",0⟩,⟨"Prefixes",64,1,false, "", "",16⟩]⟩,.agg⟨[Ye [],.slice none 0 0]⟩,2,40⟩,
 ⟨136,.slice 319,.slice none 0 0,1,24⟩,
 ⟨138,.struct⟨[⟨"Name",9,0,false, "", "",0⟩,⟨"Slots",136,1,false, "", "",16⟩]⟩,.agg⟨[Ye [],.slice none 0 0]⟩,2,40⟩,
 ⟨140,.struct⟨[⟨"Upto",3,0,false, "", "",0⟩,⟨"Quantum",3,1,false, "", "",8⟩,⟨"Price",3,2,false, "", "",16⟩]⟩,.agg⟨[.int .i64 0,.int .i64 0,.int .i64 0]⟩,3,24⟩,
 ⟨142,.struct⟨[⟨"Kind",3,0,false, "", "",0⟩,⟨"Zone",9,1,false, "", "",8⟩,⟨"Band",9,2,false, "", "",24⟩,⟨"Setup",3,3,false, "", "",40⟩,⟨"Steps",111,4,false, "", "",48⟩]⟩,.agg⟨[.int .i64 0,Ye [],Ye [],.int .i64 0,.slice none 0 0]⟩,5,72⟩,
 ⟨144,.struct⟨[⟨"At",3,0,false, "", "",0⟩,⟨"Kind",3,1,false, "", "",8⟩,⟨"Account",3,2,false, "", "",16⟩,⟨"Sub",3,3,false, "", "",24⟩,⟨"Number",9,4,false, "", "",32⟩,⟨"Name",9,5,false, "", "",48⟩,⟨"Value",3,6,false, "", "",64⟩]⟩,.agg⟨[.int .i64 0,.int .i64 0,.int .i64 0,.int .i64 0,Ye [],Ye [],.int .i64 0]⟩,7,72⟩,
 ⟨151,.struct⟨[⟨"Id",3,0,false, "", "",0⟩,⟨"Account",3,1,false, "", "",8⟩,⟨"Since",3,2,false, "", "",16⟩,⟨"Plan",9,3,false, "", "",24⟩,⟨"Numbers",64,4,false, "", "",40⟩,⟨"Products",64,5,false, "", "",64⟩,⟨"Suspended",4,6,false, "", "",88⟩,⟨"Family",4,7,false, "", "",89⟩]⟩,.agg⟨[.int .i64 0,.int .i64 0,.int .i64 0,Ye [],.slice none 0 0,.slice none 0 0,.bool false,.bool false]⟩,8,96⟩,
 ⟨172,.struct⟨[⟨"Kind",3,0,false, "", "",0⟩,⟨"Units",3,1,false, "", "",8⟩,⟨"Weekday",3,2,false, "", "",16⟩,⟨"Minute",3,3,false, "", "",24⟩,⟨"Total",3,4,false, "", "",32⟩,⟨"Spent",3,5,false, "", "",40⟩,⟨"Zone",9,6,false, "", "",48⟩,⟨"Band",9,7,false, "", "",64⟩,⟨"Family",4,8,false, "", "",80⟩]⟩,.agg⟨[.int .i64 0,.int .i64 0,.int .i64 0,.int .i64 0,.int .i64 0,.int .i64 0,Ye [],Ye [],.bool false]⟩,9,88⟩,
 ⟨178,.slice 180,.slice none 0 0,1,24⟩,
 ⟨180,.struct⟨[⟨"Op",3,0,false, "", "",0⟩,⟨"Num",3,1,false, "", "",8⟩,⟨"Text",9,2,false, "", "",16⟩,⟨"Args",178,3,false, "", "",32⟩]⟩,.agg⟨[.int .i64 0,.int .i64 0,Ye [],.slice none 0 0]⟩,4,56⟩,
 ⟨182,.struct⟨[⟨"Name",9,0,false, "", "",0⟩,⟨"When",180,1,false, "", "",16⟩,⟨"Points",3,5,false, "", "",72⟩]⟩,.agg⟨[Ye [],.int .i64 0,.int .i64 0,Ye [],.slice none 0 0,.int .i64 0]⟩,6,80⟩,
 ⟨188,.struct⟨[⟨"start",3,0,false, "", "billing/history",0⟩,⟨"source",3,1,false, "", "billing/history",8⟩,⟨"serial",3,2,false, "", "billing/history",16⟩,⟨"id",3,3,false, "", "billing/history",24⟩]⟩,.agg⟨[.int .i64 0,.int .i64 0,.int .i64 0,.int .i64 0]⟩,4,32⟩,
 ⟨199,.slice 94,.slice none 0 0,1,24⟩,
 ⟨200,.slice 151,.slice none 0 0,1,24⟩,
 ⟨202,.struct⟨[⟨"Accounts",199,0,false, "", "",0⟩,⟨"Subs",200,1,false, "", "",24⟩,⟨"Ended",26,2,false, "", "",48⟩]⟩,.agg⟨[.slice none 0 0,.slice none 0 0,.slice none 0 0]⟩,3,72⟩,
 ⟨209,.struct⟨[⟨"Category",9,0,false, "", "",0⟩,⟨"From",3,1,false, "", "",16⟩,⟨"Points",3,2,false, "", "",24⟩]⟩,.agg⟨[Ye [],.int .i64 0,.int .i64 0]⟩,3,32⟩,
 ⟨215,.slice 92,.slice none 0 0,1,24⟩,
 ⟨219,.struct⟨[⟨"Accounts",199,0,false, "", "",0⟩,⟨"Subs",200,1,false, "", "",24⟩]⟩,.agg⟨[.slice none 0 0,.slice none 0 0]⟩,2,48⟩,
 ⟨221,.map 9 9,.map none,1,8⟩,
 ⟨231,.pointer 234,.pointer none,1,8⟩,
 ⟨232,.map 237 4,.map none,1,8⟩,
 ⟨234,.struct⟨[⟨"list",33,0,false, "", "billing/bundle",0⟩,⟨"has",232,1,false, "", "billing/bundle",24⟩]⟩,.agg⟨[.slice none 0 0,.map none]⟩,2,32⟩,
 ⟨237,.struct⟨[⟨"sub",3,0,false, "", "billing/bundle",0⟩,⟨"product",9,1,false, "", "billing/bundle",8⟩,⟨"index",3,2,false, "", "billing/bundle",24⟩,⟨"from",3,3,false, "", "billing/bundle",32⟩]⟩,.agg⟨[.int .i64 0,Ye [],.int .i64 0,.int .i64 0]⟩,4,40⟩,
 ⟨240,.slice 245,.slice none 0 0,1,24⟩,
 ⟨242,.slice 66,.slice none 0 0,1,24⟩,
 ⟨245,.struct⟨[⟨"account",3,0,false, "", "billing/bundle",0⟩,⟨"sub",3,1,false, "", "billing/bundle",8⟩,⟨"product",9,2,false, "", "billing/bundle",16⟩,⟨"active",242,3,false, "", "billing/bundle",32⟩]⟩,.agg⟨[.int .i64 0,.int .i64 0,Ye [],.slice none 0 0]⟩,4,56⟩,
 ⟨246,.slice 249,.slice none 0 0,1,24⟩,
 ⟨249,.struct⟨[⟨"bucket",68,0,false, "", "billing/bundle",0⟩,⟨"rollover",3,12,false, "", "billing/bundle",120⟩]⟩,.agg⟨[.int .i64 0,.int .i64 0,Ye [],.int .i64 0,.int .i64 0,.slice none 0 0,.int .i64 0,.int .i64 0,.int .i64 0,.int .i64 0,.int .i64 0,.bool false,.int .i64 0]⟩,13,128⟩,
 ⟨264,.array 2 3,.agg⟨[.int .i64 0,.int .i64 0]⟩,2,16⟩,
 ⟨267,.map 3 3,.map none,1,8⟩,
 ⟨293,.map 3 4,.map none,1,8⟩,
 ⟨296,.array 5 4,.agg⟨[.bool false,.bool false,.bool false,.bool false,.bool false]⟩,5,5⟩,
 ⟨302,.slice 305,.slice none 0 0,1,24⟩,
 ⟨305,.struct⟨[⟨"at",3,0,false, "", "billing/subscribe",0⟩,⟨"s",151,1,false, "", "billing/subscribe",8⟩]⟩,.agg⟨[.int .i64 0,.int .i64 0,.int .i64 0,.int .i64 0,Ye [],.slice none 0 0,.slice none 0 0,.bool false,.bool false]⟩,9,104⟩,
 ⟨308,.func⟨[305,305]⟩⟨[4]⟩false,.nilFunc,1,8⟩,
 ⟨309,.func⟨[305,305]⟩⟨[305]⟩false,.nilFunc,1,8⟩,
 ⟨310,.pointer 379,.pointer none,1,8⟩,
 ⟨319,.struct⟨[⟨"Days",3,0,false, "", "",0⟩,⟨"From",3,1,false, "", "",8⟩,⟨"To",3,2,false, "", "",16⟩]⟩,.agg⟨[.int .i64 0,.int .i64 0,.int .i64 0]⟩,3,24⟩,
 ⟨322,.func⟨[135]⟩⟨[4]⟩false,.nilFunc,1,8⟩,
 ⟨326,.map 9 293,.map none,1,8⟩,
 ⟨337,.struct⟨[⟨"sub",3,0,false, "", "billing/bucket",0⟩,⟨"product",9,1,false, "", "billing/bucket",8⟩,⟨"index",3,2,false, "", "billing/bucket",24⟩,⟨"from",3,3,false, "", "billing/bucket",32⟩]⟩,.agg⟨[.int .i64 0,Ye [],.int .i64 0,.int .i64 0]⟩,4,40⟩,
 ⟨340,.slice 343,.slice none 0 0,1,24⟩,
 ⟨343,.struct⟨[⟨"Band",9,0,false, "", "",0⟩,⟨"Period",66,1,false, "", "",16⟩]⟩,.agg⟨[Ye [],.int .i64 0,.int .i64 0]⟩,3,32⟩,
 ⟨346,.array 3 264,.agg⟨[.int .i64 0,.int .i64 0,.int .i64 0,.int .i64 0,.int .i64 0,.int .i64 0]⟩,6,48⟩,
 ⟨349,.func⟨[138]⟩⟨[4]⟩false,.nilFunc,1,8⟩,
 ⟨351,.func⟨[319]⟩⟨[4]⟩false,.nilFunc,1,8⟩,
 ⟨375,.map 3 94,.map none,1,8⟩,
 ⟨376,.map 3 151,.map none,1,8⟩,
 ⟨377,.map 9 3,.map none,1,8⟩,
 ⟨379,.struct⟨[⟨"accounts",375,0,false, "", "billing/customer",0⟩,⟨"subs",376,1,false, "", "billing/customer",8⟩,⟨"ever",293,2,false, "", "billing/customer",16⟩,⟨"owners",377,3,false, "", "billing/customer",24⟩,⟨"live",267,4,false, "", "billing/customer",32⟩,⟨"opened",26,5,false, "", "billing/customer",40⟩,⟨"added",26,6,false, "", "billing/customer",64⟩]⟩,.agg⟨[.map none,.map none,.map none,.map none,.map none,.slice none 0 0,.slice none 0 0]⟩,7,88⟩,
 ⟨381,.map 3 26,.map none,1,8⟩,
 ⟨384,.func⟨[92]⟩⟨[4]⟩false,.nilFunc,1,8⟩,
 ⟨386,.func⟨[4,4]⟩⟨[4]⟩false,.nilFunc,1,8⟩,
 ⟨388,.func⟨[108]⟩⟨[4]⟩false,.nilFunc,1,8⟩,
 ⟨393,.struct⟨[⟨"Year",3,0,false, "", "",0⟩,⟨"Month",3,1,false, "", "",8⟩,⟨"Day",3,2,false, "", "",16⟩]⟩,.agg⟨[.int .i64 0,.int .i64 0,.int .i64 0]⟩,3,24⟩,
 ⟨401,.array 4 3,.agg⟨[.int .i64 0,.int .i64 0,.int .i64 0,.int .i64 0]⟩,4,32⟩,
 ⟨411,.func⟨[66,66]⟩⟨[4]⟩false,.nilFunc,1,8⟩,
 ⟨412,.func⟨[66,66]⟩⟨[66]⟩false,.nilFunc,1,8⟩,
 ⟨413,.slice 415,.slice none 0 0,1,24⟩,
 ⟨415,.struct⟨[⟨"at",3,0,false, "", "billing/interval",0⟩,⟨"list",3,1,false, "", "billing/interval",8⟩,⟨"by",3,2,false, "", "billing/interval",16⟩]⟩,.agg⟨[.int .i64 0,.int .i64 0,.int .i64 0]⟩,3,24⟩,
 ⟨418,.func⟨[415,415]⟩⟨[3]⟩false,.nilFunc,1,8⟩,
 ⟨434,.array 12 3,.agg⟨[.int .i64 0,.int .i64 0,.int .i64 0,.int .i64 0,.int .i64 0,.int .i64 0,.int .i64 0,.int .i64 0,.int .i64 0,.int .i64 0,.int .i64 0,.int .i64 0]⟩,12,96⟩]
def tx:TX:=⟨tab,[(1,.ref),(2,(.int .i64)),(3,(.int .i64)),(4,.bool),(5,(.int .u8)),(6,(.int .u8)),(9,.str),(22,(.sl Jv)),(23,(.sl J7)),(24,(.sl Yp)),(25,(.sl Dd)),(26,(.sl(.int .i64))),(27,(.sl V3)),(29,Vw),(30,(.sl J2)),(33,(.sl Yo)),(34,(.sl Vq)),(35,(.sl Yq)),(37,Ud),(40,J2),(41,(.int .i64)),(42,(.sl Qev)),(43,(.sl Lh)),(44,(.sl Qac)),(46,Xa),(56,(.sl Xa)),(63,Vq),(64,(.sl .str)),(66,Q8),(68,Yo),(70,Qev),(73,(.sl Qml)),(83,.ref),(86,Lh),(88,Yq),(90,.ref),(92,Cf),(94,V0),(95,(.sl V8)),(96,(.sl Vv)),(97,(.sl G0)),(98,(.sl Vc)),(100,J7),(102,Jcd),(103,.ref),(106,(.sl K5)),(108,Yp),(110,K5),(111,(.sl Gz)),(113,V3),(116,Qac),(119,(.sl Qu9)),(122,Qml),(125,Qu9),(135,V8),(136,(.sl Kn)),(138,Vv),(140,Gz),(142,G0),(144,Jv),(151,Vg),(172,R9),(178,(.sl Ko)),(180,Ko),(182,Vc),(188,Li),(199,(.sl V0)),(200,(.sl Vg)),(202,U7),(209,Dd),(215,(.sl Cf)),(219,Qrb),(221,.ref),(231,.ref),(232,.ref),(234,Qs1),(237,Ux),(240,(.sl Ue)),(242,(.sl Q8)),(245,Ue),(246,(.sl H9)),(249,H9),(264,(.arr 2(.int .i64))),(267,.ref),(293,.ref),(296,(.arr 5 .bool)),(302,(.sl Vh)),(305,Vh),(308,.ref),(309,.ref),(310,.ref),(319,Kn),(322,.ref),(326,.ref),(337,Sa),(340,(.sl Qgx)),(343,Qgx),(346,(.arr 3(.arr 2(.int .i64)))),(349,.ref),(351,.ref),(375,.ref),(376,.ref),(377,.ref),(379,Qnd),(381,.ref),(384,.ref),(386,.ref),(388,.ref),(393,Qew),(401,(.arr 4(.int .i64))),(411,.ref),(412,.ref),(413,(.sl Vx)),(415,Vx),(418,.ref),(434,(.arr 12(.int .i64)))],[]⟩
theorem Jgq:Tryz.prog.follows .mixedOrders=true:=by kernel_rfl
theorem Jgr:Q4 Tryz.prog tab:=by repeat(first | exact trivial | refine⟨⟨⟨by kernel_rfl,by kernel_rfl⟩,by kernel_rfl⟩,?_⟩)
abbrev KO (c:Con):Prop:=Qfx Tryz.prog tx.gl c∧Runs Tryz.prog c.f
abbrev IO (i:It):Prop:=Jb2 Tryz.prog tx.gl i∧Runs Tryz.prog i.f
abbrev V:={c // KO c}
def kcs (N:Nat)(L:List(Nat→V)):List Con:=L.map fun k=>(k N).1
theorem Q8v (N:Nat):∀L:List(Nat→V),Q1e Tryz.prog tx.gl(kcs N L)
 | []=>Jqx
 | c::L=>Jpg(c N).2.1(c N).2.2(Q8v N L)
def Q8w (fn:Func):Bool:=decide(fn.name ≠ "runtime.NumGoroutine")&&!fn.body.isNone
theorem I5 {f:FuncId} {fn:Func}(hf:Tryz.prog.funcs[f]?=some fn)(h:Q8w fn=true):Runs Tryz.prog f:=by
 simp only [Q8w,QQ,decide_eq_true_eq,XA] at h
 exact⟨fn,hf,h.1,h.2⟩
theorem kF (N:Nat){c:Con}(L:List(Nat→V))(ps:List(Nat×Pc)){fn:Func}(hf:Tryz.prog.funcs[c.f]?=some fn)(hg:Q8w fn=true:=by rfl)(h:∀x,c.fn x=Jfv tx(kcs N L)N fn(Jpj((kcs N L).map Con.f)ps fn.body)c.ro c.Γ c.Δ x:=by intro x; kernel_rfl):KO c :=
 ⟨Jkw(Y:=tx)(N:=N)Jgr Jgq(Q8v N L)hf rfl h,I5 hf hg⟩
def ics (L:List{i // IO i}):List It:=L.map(·.1)
theorem Jmh:∀L:List {i // IO i},∀i∈ics L,Jb2 Tryz.prog tx.gl i∧Runs Tryz.prog i.f
 | [],_,h=>by cases h
 | c::L,i,h=>by
  rcases QX.1 h with rfl | h
  ·exact c.2
  ·exact Jmh L i h
theorem kR (N:Nat){c:Con}(L:List(Nat→V))(I:List{i // IO i})(an:AnR){fn:Func}(hf:Tryz.prog.funcs[c.f]?=some fn)(hg:Q8w fn=true)(h:∀x,c.fn x=Jgl tx(kcs N L)N(ics I)fn an c.ro c.Γ c.Δ x):KO c :=
 ⟨Jgm(Y:=tx)(N:=N)(an:=an)Jgr Jgq(Q8v N L)(Jmh I)hf rfl h,I5 hf hg⟩
def Vy:Con:=⟨377,⟨[(0,.s 5000),(1,.f 378(.nil))],[(5000,.row 415 Vx)]⟩,[⟨[],[(5000,.row 415 Vx)]⟩],Qf1(fun x:Q7=>x.1),[]⟩
theorem Gq:KO Vy:=⟨Qu7(c:=Vy)(e:=415)(u:=Vx)rfl(fun x=>x)(fun y=>y)(ev:=[⟨1,[],.f 378 .nil⟩])(vx:=[.func(.func 378) #[] #[]])rfl(fun _=>by kernel_rfl)(fun _=>by kernel_rfl)rfl Q8u(fun _ _=>Jca)(fun p w=>AnyF.slices_SortFunc_none{ Tryz.sortFunc377 with } p 0 _ w)(fun _ _ h blk cap w hH hb _=>Q1x(u:=Vx)rfl(fun x:Q7=>x.1)Tryz.sortFunc377 Tryz.isAgg415 Tryz.sizeOf415(enters_of Tryz.func378(by kernel_rfl)rfl)Tryz.clo378 h blk cap w hH hb),I5 Tryz.func377 rfl⟩
def I6:Con:=⟨380,⟨[(0,.s 5000)],[(5000,.row 3(.int .i64))]⟩,[⟨[],[(5000,.row 3(.int .i64))]⟩],Qu2,[]⟩
theorem Qg8:KO I6:=⟨Qu7(c:=I6)(e:=3)(u:=(.int .i64))rfl(fun x=>x)(fun y=>y)(ev:=[])(vx:=[])rfl(fun _=>by kernel_rfl)(fun _=>by kernel_rfl)rfl Q8t(fun _ _=>Jcb)(fun p w=>AnyM.slices_Sort_int_none Tryz.sortInts380 p 0 w)(fun _ _ h blk cap w hH hb _=>Q1y Tryz.sortInts380 h blk cap w hH hb),I5 Tryz.func380 rfl⟩
def Av:Con:=⟨381,⟨[(0,.s 5000)],[(5000,.row 3(.int .i64))]⟩,[⟨[(0,.s 0)],[(0,.row 3(.int .i64))]⟩],R8,[]⟩
theorem Qb4:KO Av:=⟨Qu8(c:=Av)(e:=3)(u:=(.int .i64))rfl(fun x=>x)(fun y=>y)(ev:=[])(vx:=[])rfl(fun _=>by kernel_rfl)(fun _=>by kernel_rfl)rfl rfl Q8t(fun _ _=>Qxv)(fun p w=>Any.slices_Compact_int_empty Tryz.compactInts381 p 0 w)(fun _ _ h blk cap w hH hb hc=>Qra Tryz.compactInts381 h blk cap w hH hb hc),I5 Tryz.func381 rfl⟩
def K7:Con:=⟨382,⟨[(0,.s 5000),(1,.f 383(.nil))],[(5000,.row 3(.int .i64))]⟩,[⟨[(0,.s 0)],[(0,.row 3(.int .i64))]⟩],Qu3(fun m=>decide(m≥1440)),[]⟩
theorem In:KO K7:=⟨Qu8(c:=K7)(e:=3)(u:=(.int .i64))rfl(fun x=>x)(fun y=>y)(ev:=[⟨1,[],.f 383 .nil⟩])(vx:=[.func(.func 383) #[] #[]])rfl(fun _=>by kernel_rfl)(fun _=>by kernel_rfl)rfl rfl Q8u(fun _ _=>Jcc)(fun p w=>Qs0 Tryz.deleteFunc382 p w)(fun _ _ h blk cap w hH hb hc=>Q1z Tryz.deleteFunc382 Tryz.zeroValue3(enters_of Tryz.func383(by kernel_rfl)rfl)Tryz.clo383 h blk cap w hH hb hc),I5 Tryz.func382 rfl⟩
def zs1:Shp:=sD [Ko,.i]
def zs2:Shp:=sD [.i]
def zs3:Sk:=.d .i
def zs4:Shp:=⟨[(5,zs3)],[]⟩
def zs5:Shp:=sD [.bool]
def zs6:Shp:=⟨[],[]⟩
def zs7:Sk:=.d .bool
def zs8:Exs:=[(.x 0,zs6),(.r,⟨[(4,zs7)],[]⟩)]
def zs9:Shp:=⟨[(6,zs3)],[]⟩
def Jky:Exs:=[(.x 2,zs6),(.r,⟨[(4,zs7)],[]⟩)]
def Qne:Shp:=⟨[(7,zs3)],[]⟩
def Jkz:Exs:=[(.x 4,zs6),(.r,⟨[(4,zs7)],[]⟩)]
def Qkz:Shp:=⟨[(8,zs3)],[]⟩
def Jq3:Exs:=[(.x 6,zs6),(.r,⟨[(4,zs7)],[]⟩)]
def Qnf:Shp:=sD [.str]
def Vp:Hn:=.n 1 .done
def Sx:Hn:=.nl 3 Vp
def Qdf:Shp:=⟨[(3,zs3)],[]⟩
def Qrd:Exs:=[(.x 0,zs6),(.r,⟨[(2,zs7)],[]⟩)]
def Jpk:Shp:=⟨[(37,zs7)],[]⟩
def Fr:Hn:=.nl 4 Vp
def Jk0:Shp:=⟨[(49,zs7)],[]⟩
def Jpl:Shp:=⟨[(48,zs7)],[]⟩
def Jpm:Hn:=.nl 5 .done
def Jpn:Shp:=⟨[(55,zs7)],[]⟩
def Jgs:Shp:=⟨[(19,zs7)],[]⟩
def Qk0:Hn:=.nl 8 Vp
def Qs2:Hn:=.nl 1 Vp
def Jk1:Hn:=.nl 4(.n 3 Qs2)
def Jk2:Hn:=.call 1 Qs2
def Jgt:Hn:=.nl 2 Jk2
def Jk3:Hn:=.call 2 Qs2
def Jpo:Hn:=.n 15 .done
def Jq4:Hn:=.nl 2(.call 3 Qs2)
def Jk4:Shp:=sD [U7,.i]
def Q6e:Shp:=⟨[(4,zs3)],[]⟩
def Qs3:Exs:=[(.x 0,zs6),(.r,Q6e)]
def Jgu:Hn:=.call 0 Qs2
def Jce:Hn:=.nl 2 Vp
def Jq5:HT:=.op ⟨.nl 1 .done,[],[],[],[]⟩(.op⟨.nl 1 .done,[],[],[],[]⟩(.op⟨.nl 1 .done,[],[],[],[]⟩(.op⟨.nl 1 .done,[],[],[],[]⟩(.op⟨.nl 1 .done,[],[],[],[]⟩(.op⟨.nl 1 .done,[],[],[],[]⟩(.tl Jce))))))
def Jq6:HT:=.op ⟨.nl 1 .done,[],[],[],[]⟩Jq5
def Jpp:Shp:=sD [U7,Jv]
def Jk5:Hn:=.nl 3 Jk2
def Qs4:Hn:=.nl 5 Vp
def Jgv:Shp:=⟨[(41,zs7)],[]⟩
def Q10:Shp:=sD [.sl .str,.str]
def Jq7:Exs:=[(.n,zs6),(.r,Q6e)]
def Jq8:Exs:=[(.n,⟨[(53,zs7)],[]⟩)]
def Sy:Sk:=.s 1
def Qg9:List (Nat×Sk):=[(0,Sy)]
def Qre:SkO:=.row 9 .str
def Q6f:Shp:=⟨Qg9,[(1,Qre)]⟩
def Q11:Shp:=⟨[(18,zs7)],[]⟩
def Qay:Hn:=.nl 6 Vp
def S5:Sk:=.s 100000
def Qi1:Sk:=.s 100200
def Jk6:List (Nat×Sk):=[(5,Qi1)]
def Jpq:Exs:=[(.x 0,⟨Jk6,[(100200,Qre)]⟩)]
def Qe7:Sk:=.s 100100
def Jpr:Exs:=[(.n,⟨[(5,Qe7)],[(100100,Qre)]⟩)]
def Jq9:Shp:=sD [Vg,Jv]
def S6:Sk:=.p 100000 []
def Yd:Sk:=.d .str
def Jps:Sk:=.d (.sl .str)
def Jpt:SkO:=.var 151(.ag(sL [zs3,zs3,zs3,Yd,Jps,Jps,zs7,zs7]))
def Q12:Sk:=.s 2
def Jcf:Sk:=.ag (sL [Sy,Q12,.s 3])
def Q6g:SkO:=.row 94 V0
def Qs5:SkO:=.row 151 Vg
def H1:SkO:=.row 3 .i
def Nh:HT:=.tl Vp
def Qb5:Sk:=.p 100100 []
def Jpu:Sk:=.p 100101 []
def Jgw:Sk:=.s 100102
def Jgx:Sk:=.s 100103
def Qk1:Sk:=.p 100200 []
def Q13:Sk:=.s 100201
def Jk7:Sk:=.s 100202
def Jpv:Sk:=.s 100203
def Q6h:Hn:=.n 3 .done
def Qrf:HT:=.tl Q6h
def Jra:Exs:=[(.n,⟨[(90,zs7)],[]⟩)]
def Q6i:Hn:=.n 2 .done
def Jcg:HT:=.tl Q6i
def Ni:Shp:=sD [.i,.i]
def Qrg:Sk:=.s 100001
def Jk8:Sk:=.s 100002
def Jpw:Sk:=.s 100003
def Jpx:Sk:=.ag (sL [Qrg,Jk8,Jpw])
def Jrb:Exs:=[(.x 0,zs6),(.r,⟨[(2,zs3),(3,zs3)],[]⟩)]
def Q14:Hn:=.n 6 .done
def Qi2:Hn:=.call 0 Vp
def Jk9:Hn:=.n 5 .done
def Jgy:Hn:=.call 1 Vp
def Qng:Exs:=[(.x 0,zs6),(.r,⟨[(2,zs3)],[]⟩)]
def Jpy:Exs:=[(.x 2,zs6),(.r,⟨[(2,zs3)],[]⟩)]
def Jgz:Hn:=.n 10 .done
def Jrc:Shp:=sD [Yp]
def Jla:Hn:=.nl 13 .done
def Jg0:Shp:=sD [.int .u8]
def Q15:Hn:=.nl 2 Jgu
def Jg1:Shp:=⟨[(35,zs7)],[]⟩
def Jg2:Exs:=[(.x 0,zs6),(.r,⟨[(6,zs7)],[]⟩)]
def Qi3:Hn:=.n 8 .done
def Jmi:Shp:=sD [.sl V8]
def Jmj:Shp:=sD [.sl Vv]
def Jmk:Shp:=sD [J7,.str]
def Jml:Shp:=sD [.sl Gz]
def Q16:Shp:=sD [J7]
def Qrh:Shp:=sD [Ko]
def Qva:HT:=.op ⟨.nl 1 .done,[],[],[],[]⟩Nh
def Q8x:Hn:=.n 7 .done
def Jmm:Exs:=[(.n,⟨[(42,zs7)],[]⟩)]
def Jg3:List (Nat×SkO):=[(100000,H1)]
def Jmn:Shp:=⟨[(7,S5),(8,zs3)],Jg3⟩
def Jg4:Shp:=⟨[(4,zs3),(5,zs3)],[]⟩
def Q17:Shp:=sD [Q8]
def Q18:Shp:=sD [.sl .i,.i]
def Jg5:Shp:=⟨Qg9,[(1,H1)]⟩
def Qri:Sk:=.s 100400
def Jg6:List (Nat×SkO):=[(100400,H1)]
def Qmn:Sk:=.s 100300
def Jg7:List (Nat×SkO):=[(100200,H1)]
def Q8y:Sk:=.s 100500
def Jmo:Shp:=⟨[(0,.d (.sl .i))],[]⟩
def Jmp:Shp:=sD [Q8,.i]
def Dz:SkO:=.row 66 Q8
def Qi4:Shp:=⟨Qg9,[(1,Dz)]⟩
def Q8z:List (Nat×SkO):=[(100000,Dz)]
def Jg8:List (Nat×SkO):=[(100400,Dz)]
def Jmq:HT:=.op ⟨.nl 1 .done,[],[],[],[]⟩(.op⟨.nl 1 .done,[],[],[],[]⟩Jcg)
def Jmr:HT:=.op ⟨.nl 1 .done,[],[],[],[]⟩Jmq
def Q80:Shp:=sD [Q8,Q8]
def Jms:Shp:=sD [Q8,.bool]
def Jmt:Hn:=.nl 2(.call 5 Vp)
def Jg9:Shp:=sD [Ud]
def Um:SkO:=.row 68 Yo
def Qbs:SkO:=.row 63 Vq
def Qbt:SkO:=.row 88 Yq
def Jmu:List (Nat×SkO):=[(1,Um),(2,Qbs),(3,Qbt)]
def Q19:Shp:=⟨[(0,Jcf)],Jmu⟩
def Q81:HT:=.op ⟨.nl 1 .done,[],[],[3],[3]⟩Nh
def Qvb:List (Nat×Sk):=[(3,Qb5)]
def Qdg:Sk:=.s 100101
def Qi5:Hn:=.n 4 .done
def Jha:List (Nat×Sk):=[(5,S5),(10,zs3)]
def Qf8:Sk:=.p 100300 []
def Jhb:Sk:=.p 100301 []
def Q82:SkO:=.var 151(.ag(sL [zs3,zs3,zs3,Yd,.ns,.ns,zs7,zs7]))
def Qvc:Shp:=sD [.sl Jv,.i]
def Qmo:SkO:=.row 305 Vh
def Q2a:Sk:=.p 100001 []
def Jhc:Sk:=.d Vg
def Jhd:SkO:=.var 151 Jhc
def Jhe:Sk:=.p 100201 []
def Q83:Hn:=.nl 9 Vp
def Jmv:Shp:=sD [Vh,Vh]
def Jmw:List (Nat×Sk):=[(7,S5),(13,zs3)]
def Jmx:HT:=.op ⟨.nl 1 .done,[],[],[],[]⟩(.op⟨.nl 1 .done,[],[],[],[]⟩(.op⟨.nl 1 .done,[],[],[],[]⟩(.op⟨.nl 1 .done,[],[],[],[]⟩(.op⟨.nl 1 .done,[],[],[],[]⟩(.tl Qs2)))))
def Q84:HT:=.op ⟨.nl 1 .done,[],[],[],[]⟩(.op⟨.nl 1 .done,[],[],[],[]⟩Jmx)
def Q85:SkO:=.row 92 Cf
def Qdh:Sk:=.d Q8
def Jhf:SkO:=.var 66 Qdh
def Q86:Shp:=sD [.sl Jv,.i,.i]
def Jmy:SkO:=.var 92(.ag(sL [Qdh,Yd,.ns,zs7,zs7]))
def Jhg:List (Nat×Sk):=[(6,Qk1),(7,zs7)]
def Aw:Sk:=.d Cf
def Q2b:SkO:=.map .i V0
def Qmp:SkO:=.map .i .bool
def Qbu:SkO:=.map .i .i
def Jmz:Sk:=.d (.sl Jv)
def Ot:SkO:=.var 3 zs3
def Gr:Sk:=.p 5000 []
def Q87:Sk:=.m 5001
def Qvd:Sk:=.m 5002
def Q88:Sk:=.m 5003
def Q89:Sk:=.m 5004
def Q9a:Sk:=.m 5005
def Qi6:Sk:=.s 5006
def Qrj:Sk:=.s 5007
def Jhh:List (Nat×SkO):=[(5000,.var 379(.ag(sL [Q87,Qvd,Q88,Q89,Q9a,Qi6,Qrj]))),(5001,Q2b),(5002,.map .i Vg),(5003,Qmp),(5004,.map .str .i),(5005,Qbu),(5006,H1),(5007,H1)]
def Jhi:List (Nat×SkO):=[(5004,.map .str .i)]
def Qbv:List (Nat×Sk):=[(0,Gr)]
def Jm0:Hn:=.fz 5006(.dt 5000 .done)
def Jm1:Shp:=⟨[(0,.ag (sL [Sy,Q12]))],[(1,Q6g),(2,Qs5)]⟩
def Jhj:SkO:=.mapC .i(.sl 3 .i)
def Q2c:Sk:=.s 100301
def Jhk:Sk:=.s 100302
def Qve:Sk:=.p 100400 []
def Q9b:Sk:=.s 100401
def Jm2:List (Nat×Sk):=[(6,S6),(15,zs3)]
def Jm3:SkO:=.var 94(.ag(sL [zs3,zs3,zs3,zs7,zs7,.ns]))
def B1:Sk:=.d V0
def H2:Sk:=.d Vw
def B2:Sk:=.d Ud
def V7:Sk:=.d J2
def Qrk:Sk:=.s 5001
def Ou:Sk:=.s 5002
def S7:Sk:=.s 5003
def Qbw:Sk:=.s 5004
def Qmq:Sk:=.s 5005
def Jm4:Sk:=.ag (sL [V7,zs3,Yd,zs3,Yd,Qrj,.s 5008,zs3,zs3,zs3,.s 5009,zs3,zs3])
def B3:SkO:=.row 135 V8
def Ww:SkO:=.row 138 Vv
def Hk:SkO:=.row 142 G0
def Fp:SkO:=.row 182 Vc
def Ua:SkO:=.row 70 Qev
def Ub:SkO:=.row 86 Lh
def Uu:SkO:=.row 116 Qac
def Qi7:List (Nat×Sk):=[(0,zs3)]
def Q2d:Sk:=.ag (sL [Yd,zs3,zs7,Sy,Q12,.s 3,.s 4])
def Jm5:Sk:=.ag (sL [V7,zs3,Yd,zs3,Yd,.s 5,.s 6,zs3,zs3,zs3,.s 7,zs3,zs3])
def Jm6:SkO:=.var 102(.ag(sL [H2,B2,V7,.ag(sL [Qdh,Yd,Jps,zs7,zs7]),.ag(sL [zs3,zs3,zs3,zs7,zs7,.d(.sl .i)]),Q2d,zs3,Jm5]))
def Jm7:HT:=.op ⟨.nl 1 .done,[],[],[3],[3]⟩(.op⟨.nl 1 .done,[3],[],[],[3]⟩Nh)
def I7:Sk:=.p 5001 []
def Qmr:Sk:=sL [Gr]
def Qms:SkO:=.var 41 zs3
def Jm8:Shp:=sD [.sl Kn]
def Q9c:SkO:=.row 140 Gz
def Q9d:SkO:=.row 180 Ko
def Jhl:List (Nat×SkO):=[(1,B3),(2,Ww),(3,Hk),(4,Fp)]
def Jm9:List (Nat×SkO):=[(100000,.var 100(.ag(sL [Yd,zs3,zs7,Qrg,.ns,.ns,.ns]))),(100001,B3)]
def Jna:Exs:=[(.x 0,⟨Qvb,[(100100,.var 100(.ag(sL [Yd,zs3,zs7,Qdg,.ns,.ns,.ns]))),(100101,B3)]⟩)]
def Jnb:List (Nat×SkO):=[(100200,.var 100(.ag(sL [Yd,zs3,zs7,Q13,Jk7,.ns,.ns]))),(100201,B3),(100202,Ww)]
def Jnc:Exs:=[(.x 2,⟨[(3,Qf8)],[(100300,.var 100(.ag(sL [Yd,zs3,zs7,Q2c,Jhk,.ns,.ns]))),(100301,B3),(100302,Ww)]⟩)]
def Jnd:List (Nat×SkO):=[(100400,.var 100(.ag(sL [Yd,zs3,zs7,Q9b,.s 100402,.s 100403,.ns]))),(100401,B3),(100402,Ww),(100403,Hk)]
def Jne:List (Nat×Sk):=[(3,.p 100500 [])]
def Jhm:Sk:=.s 100501
def Jnf:Exs:=[(.x 4,⟨Jne,[(100500,.var 100(.ag(sL [Yd,zs3,zs7,Jhm,.s 100502,.s 100503,.ns]))),(100501,B3),(100502,Ww),(100503,Hk)]⟩)]
def Jhn:Sk:=.s 100601
def Jng:List (Nat×SkO):=[(100600,.var 100(.ag(sL [Yd,zs3,zs7,Jhn,.s 100602,.s 100603,.s 100604]))),(100601,B3),(100602,Ww),(100603,Hk),(100604,Fp)]
def Jnh:List (Nat×Sk):=[(3,.p 100700 [])]
def Jho:Sk:=.s 100701
def Jni:Exs:=[(.x 6,⟨Jnh,[(100700,.var 100(.ag(sL [Yd,zs3,zs7,Jho,.s 100702,.s 100703,.s 100704]))),(100701,B3),(100702,Ww),(100703,Hk),(100704,Fp)]⟩)]
def Jhp:Exs:=[(.n,Qkz)]
def Jnj:List (Nat×SkO):=[(5000,.var 135(.d V8))]
def Qmt:Sk:=.d (.sl V8)
def Jnk:Shp:=⟨[(0,Qmt),(1,.f 241 Qmr)],Jnj⟩
def Qvf:SkO:=.map .str .str
def Q9e:Sk:=.m 100000
def Q9f:Sk:=.m 100100
def Q2e:Hn:=.nl 1 Jk2
def Jnl:An:=.two (.reg Q6i) .nil
def Jhq:Sk:=.ag (sL [V7,zs3,Yd,zs3,Yd,Qmq,Qi6,zs3,zs3,zs3,Qrj,zs3,zs3])
def Jnm:Sk:=.ag (sL [V7,zs3,Yd,zs3,Yd,.s 4,.s 5,zs3,zs3,zs3,.s 6,zs3,zs3])
def Jhr:SkO:=.var 102(.ag(sL [H2,B2,V7,Aw,B1,.ag(sL [Yd,zs3,zs7,Qmt,Sy,Q12,.s 3]),zs3,Jnm]))
def Jnn:Shp:=sD [.sl Yo]
def Jno:HT:=.op ⟨.nl 1 .done,[],[],[],[1]⟩(.op⟨.nl 1 .done,[],[1],[],[]⟩Qrf)
def Jhs:Shp:=⟨[(11,zs3)],[]⟩
def Jnp:Shp:=⟨[(0,.m 1)],[(1,Qbu)]⟩
def Qmu:Hn:=.nl 7 Vp
def Q9g:Shp:=sD [.i,.i,.i]
def Qmv:Shp:=sD [Vq,.i]
def Q2f:SkO:=.var 63(.d Vq)
def Jht:Hn:=.n 2(.call 4 .done)
def Q9h:Shp:=sD [Yo]
def Jhu:Shp:=⟨[(0,.ag (sL [zs3,zs3,Yd,zs3,zs3,Sy,Qdh,zs3,zs3,zs3,zs7]))],[(1,Qre)]⟩
def Qrl:Shp:=⟨[(9,zs3)],[]⟩
def Q2g:SkO:=.var 9 Yd
def Q9i:Sk:=.d (.sl Q8)
def Jnq:Exs:=[(.x 0,⟨[(7,Qi1)],[(100200,Dz)]⟩)]
def Jnr:Exs:=[(.n,⟨[(7,Qe7)],[(100100,Dz)]⟩)]
def Q9j:SkO:=.row 245 Ue
def Qvg:SkO:=.mapC .str(.mp .i .bool)
def Jhv:Shp:=⟨[(25,zs7)],[]⟩
def Jhw:Hn:=.nl 1 Qi2
def Q9k:SkO:=.var 393(.d Qew)
def Qmw:SkO:=.row 415 Vx
def Jns:Shp:=⟨[(0,Q9i),(1,zs3),(2,Gr)],[(5000,.var 413 Qrk),(5001,Qmw)]⟩
def Jnt:Shp:=⟨[],[(5000,.var 413 Sy),(1,Qmw)]⟩
def Q9l:SkO:=.var 264(.d(.arr 2 .i))
def Jnu:List (Nat×SkO):=[(5000,Q2g),(5001,Ot)]
def Qi8:SkO:=.row 108 Yp
def Qvh:SkO:=.row 110 K5
def Q9m:SkO:=.row 249 H9
def Q9n:Shp:=sD [Yo,Yo]
def Qbx:SkO:=.map Ux .bool
def Jnv:HT:=.op ⟨.call 0 .done,[],[],[],[]⟩Nh
def Jnw:HT:=.op ⟨.nl 1 .done,[],[],[],[]⟩(.op⟨.nl 1 .done,[],[],[],[]⟩(.op⟨.nl 1 .done,[],[],[],[]⟩(.op⟨.nl 1 .done,[],[],[],[]⟩(.op⟨.nl 1 .done,[],[],[],[]⟩(.op⟨.nl 1 .done,[],[],[],[]⟩(.op⟨.nl 1 .done,[],[],[],[]⟩(.op⟨.nl 1 .done,[],[],[],[]⟩(.op⟨.nl 1 .done,[],[],[],[]⟩(.op⟨.nl 1 .done,[],[],[],[]⟩(.op⟨.nl 1 .done,[],[],[],[]⟩(.op⟨.nl 1 .done,[],[],[],[]⟩(.op⟨.nl 1 .done,[],[],[],[]⟩(.op⟨.nl 1 .done,[],[],[],[]⟩(.tl Sx))))))))))))))
def Jnx:List (Nat×SkO):=[(5000,.var 138(.d Vv))]
def Jny:Sk:=.d (.sl Vv)
def Jnz:Shp:=⟨[(0,Jny),(1,.f 271 Qmr)],Jnx⟩
def Jn0:List (Nat×SkO):=[(5000,Ot),(5001,Ot)]
def Jn1:Shp:=⟨[(0,.d (.sl Kn)),(1,.f 273(sL [Gr,I7]))],Jn0⟩
def Qvi:SkO:=.row 343 Qgx
def Jn2:SkO:=.var 142(.ag(sL [zs3,Yd,Yd,zs3,.ns]))
def Jhx:List (Nat×SkO):=[(5000,Q9c)]
def Qrm:Shp:=sD [.i,.bool]
def Jn3:Shp:=sD [J7,.sl .i,J2,.i]
def Jn4:List (Nat×Sk):=[(0,Sy),(1,zs3),(2,zs3)]
def Jn5:HT:=.op ⟨.nl 1 .done,[],[],[],[]⟩(.op⟨.nl 1 .done,[],[],[],[]⟩(.op⟨.nl 1 .done,[],[],[],[]⟩Qva))
def Qvj:Sk:=.d J7
def Jn6:SkO:=.var 102(.ag(sL [H2,Jcf,V7,Aw,B1,Qvj,zs3,Jnm]))
def Jn7:Sk:=.d (.sl Yq)
def Q9o:Sk:=.ag (sL [.d(.sl Yo),.d(.sl Vq),Jn7])
def Q9p:Sk:=.ag (sL [V7,zs3,Yd,zs3,Yd,Sy,Q12,zs3,zs3,zs3,.s 3,zs3,zs3])
def Jhy:Shp:=⟨Qbv,[(5000,.var 102(.ag(sL [H2,B2,V7,Aw,B1,Qvj,zs3,.ag(sL [V7,zs3,Yd,zs3,Yd,Qrk,Ou,zs3,zs3,zs3,S7,zs3,zs3])]))),(5001,Ua),(5002,Ub),(5003,Uu)]⟩
def Jhz:Hn:=.call 0 Q6i
def Jh0:Shp:=sD [Yq]
def Q2h:SkO:=.var 88(.d Yq)
def Jn8:SkO:=.var 172(.d R9)
def Jn9:Shp:=⟨[(0,zs3),(1,Gr),(2,I7)],[(5000,.var 180(.d Ko)),(5001,Jn8)]⟩
def Q2i:Shp:=sD [Ko,R9]
def Joa:HT:=.op ⟨.nl 1 .done,[],[],[],[2]⟩(.op⟨.nl 1 .done,[],[2],[],[]⟩(.op⟨.nl 1 .done,[],[],[],[]⟩(.op⟨.nl 1 .done,[],[],[],[]⟩(.op⟨.nl 1 .done,[],[3],[],[]⟩(.op⟨.call 2 .done,[],[],[],[]⟩Jn5)))))
def Job:Shp:=⟨[(8,zs3),(9,zs3)],[]⟩
def Jh1:SkO:=.var 102(.ag(sL [H2,B2,V7,Aw,B1,Qvj,zs3,Q9p]))
def Joc:Shp:=⟨Qbv,[(5000,.var 90 I7),(5001,.var 102(.ag(sL [H2,B2,V7,Aw,B1,Qvj,zs3,.ag(sL [V7,zs3,Yd,zs3,Yd,Ou,S7,zs3,zs3,zs3,Qbw,zs3,zs3])]))),(5002,Ua),(5003,Ub),(5004,Uu)]⟩
def Jod:Shp:=⟨Qi7,[(5001,Jh1),(1,Ua),(2,Ub),(3,Uu)]⟩
def Joe:List (Nat×SkO):=[(5000,.var 90 I7),(5001,.var 102(.ag(sL [H2,B2,V7,Aw,B1,Qvj,zs3,.ag(sL [V7,zs3,Yd,zs3,Yd,Ou,S7,zs3,zs3,zs3,Qbw,zs3,zs3])]))),(5002,Ua),(5003,Ub),(5004,Uu),(5005,Qms)]
def Jof:Shp:=⟨[],[(5001,Jh1),(5005,Qms),(1,Ua),(2,Ub),(3,Uu)]⟩
def Jh2:List (Nat×Sk):=[(3,S6),(4,zs3)]
def Qrn:SkO:=.row 144 Jv
def Qro:SkO:=.row 100 J7
def Qrp:SkO:=.row 209 Dd
def Jh3:SkO:=.row 113 V3
def Jog:Shp:=sD [Vw,.sl J2,.i]
def Joh:Shp:=sD [.sl J2]
def Joi:Sk:=.d (.sl J2)
def Joj:SkO:=.row 40 J2
def Jok:HT:=.op ⟨.nl 1 .done,[],[],[],[]⟩(.op⟨.nl 1 .done,[],[],[],[]⟩(.op⟨.nl 1 .done,[],[],[],[]⟩(.op⟨.nl 1 .done,[],[],[],[]⟩(.op⟨.nl 1 .done,[],[],[],[]⟩(.op⟨.nl 1 .done,[],[],[],[]⟩(.op⟨.nl 1 .done,[],[],[],[]⟩(.tl Fr)))))))
def Jh4:SkO:=.row 46 Xa
def Jol:Shp:=⟨[(0,B2),(1,Sy)],[(1,Jh4)]⟩
def H3 (N n:Nat):Con:=⟨128,zs1,[zs2],fun(x0,x1)=>Yg N n x0 x1,[]⟩
theorem Fq (N:Nat):∀n,KO(H3 N n)
 | 0=>⟨F4 fun _=>rfl,I5 Tryz.func128 rfl⟩
 | n+1=>have ih:=Fq N n; kF N [fun _=>⟨_,ih⟩] [(16,.lp [1,2] [2]⟨[(5,zs3),(6,zs3)],[]⟩ [(.x 0,zs4)])] Tryz.func128
def Qdi (N:Nat):V:=⟨H3 N N,Fq N N⟩
def Qdj (N:Nat):V:=⟨⟨74,(sD [J7,.i]),[zs5],fun(x0,x1)=>Ei N x0 x1,[]⟩,kF N [Qdi] [(14,.lp [1,2] [2] zs4 zs8),(35,.lp [1,2] [2] zs9 Jky),(56,.lp [1,2] [2] Qne Jkz),(77,.lp [1,2] [2] Qkz Jq3)] Tryz.func74⟩
def I8 (N:Nat):V:=⟨⟨215,zs2,[(sD [.arr 5 .bool])],Wg N,[]⟩,kF N [] [(25,.jn [2,3] [2] [(.n,⟨[(13,zs7)],[]⟩)]),(35,.jn [2,3] [2] [(.n,⟨[(17,zs7)],[]⟩)]),(49,.jn [2] [2] [(.n,⟨[(22,zs7)],[]⟩)])] Tryz.func215⟩
def Qi9 (N:Nat):V:=⟨⟨311,zs2,[zs5],Ea N,[]⟩,kF N [] [] Tryz.func311⟩
def Kg (N:Nat):V:=⟨⟨134,Qnf,[zs5],Vi N,[]⟩,kF N [] [(4,.rg(.n 9(.sp 12 4 [0] []⟨[(16,zs7)],[]⟩Sx Sx(.n 1(.sp 17 4 [0] []⟨[(21,zs7)],[]⟩Sx Sx .done))))),(14,.lp [0] [] Qdf Qrd),(24,.rg(.n 5(.sp 32 5 [3] [] Jpk Fr Fr(.n 1(.sp 38 11 [3] [] Jk0(.nl 5(.sp 43 5 [3,38] [] Jpl Jpm Jpm Vp))(.nl 10 Vp)(.n 1(.sp 50 5 [3] [] Jpn Fr Fr .done)))))))] Tryz.func134⟩
def D0 (N:Nat):V:=⟨⟨184,Qnf,[zs5],Xb N,[]⟩,kF N [] [(6,.lp [0] [] Qdf Qrd),(16,.rg(.n 5(.sp 14 5 [3] [] Jgs Fr Fr .done)))] Tryz.func184⟩
def Qdk (N:Nat):V:=⟨⟨312,(sD [Jv]),[zs5],Ej N,[]⟩,kF N [] [] Tryz.func312⟩
def Qe8 (N:Nat):V:=⟨⟨214,(sD [Jv,.i]),[zs2],fun(x0,x1)=>F7 N x0 x1,[]⟩,kF N [I8,Qi9,Kg,D0,Qdk] [(30,.rg(.n 9(.sp 37 9 [2,5] [2,5]⟨[(46,zs7)],[]⟩Qk0 Jk1(.n 1(.sp 47 9 [2,5] [2,5]⟨[(56,zs7)],[]⟩Qk0 Jk1(.n 1(.sp 57 9 [2,5] [2,5]⟨[(66,zs7)],[]⟩Qk0 Jk1(.n 1(.sp 67 9 [2,5] [2,5]⟨[(76,zs7)],[]⟩Qk0 Jk1 .done))))))))),(38,.rg(.n 3(.sp 79 5 [2,5] [2,5]⟨[(84,zs7)],[]⟩Jgt Fr(.n 1(.sp 85 9 [2,5] [2,5]⟨[(94,zs7)],[]⟩Qk0(.nl 3(.sp 88 5 [2,5,85] []⟨[(93,zs7)],[]⟩(.nl 2(.call 1(.nl 2 .done)))Jpm Vp)) .done))))),(46,.rg(.n 3(.sp 97 5 [2,5] [2,5]⟨[(102,zs7)],[]⟩(.nl 2 Jk3)Fr Jpo))),(54,.rg(.n 3(.sp 120 5 [2,5] [2,5]⟨[(125,zs7)],[]⟩Jq4 Fr .done))),(62,.rg(.n 3(.sp 128 4 [2] [2,5]⟨[(132,zs7)],[]⟩(.nl 1(.call 4 Qs2))Sx .done)))] Tryz.func214⟩
def Hl (N:Nat):V:=⟨⟨218,Jk4,[zs2],fun(x0,x1)=>V9 N x0 x1,[]⟩,kF N [] [(6,.lp [1,2] [2] zs4 Qs3)] Tryz.func218⟩
def Wb (N:Nat):V:=⟨⟨180,Jk4,[zs2],fun(x0,x1)=>Uk N x0 x1,[]⟩,kF N [] [(6,.lp [1,2] [2] zs4 Qs3)] Tryz.func180⟩
def D1 (N:Nat):V:=⟨⟨181,Jk4,[zs5],fun(x0,x1)=>Xc N x0 x1,[]⟩,kF N [] [(6,.lp [1,2] [2] zs4 zs8)] Tryz.func181⟩
def Qe9 (N:Nat):V:=⟨⟨313,Jk4,[zs5],fun(x0,x1)=>F9 N x0 x1,[]⟩,kF N [D1] [(6,.lp [1,2] [2] zs4 zs8),(16,.jn [5] [] [(.n,⟨[(31,zs7)],[]⟩)]),(16,.an(.dc 16 [13,14,15,16,17,18,19,20,21,22,23,24,25,26,27,28] [] [2](.op⟨.nl 1 .done,[],[],[],[2]⟩(.op⟨.nl 1 .done,[],[2],[],[]⟩(.op⟨.nl 1 .done,[],[],[],[]⟩(.op⟨.nl 1 .done,[],[],[],[]⟩(.op⟨.nl 1 .done,[],[],[],[]⟩(.op⟨.nl 1 .done,[],[],[],[]⟩(.op⟨.nl 1 .done,[],[],[],[]⟩(.op⟨.nl 1 .done,[],[],[],[]⟩(.op⟨.nl 1 .done,[],[],[],[]⟩(.so 21(.op⟨.nl 1 .done,[],[2],[],[]⟩(.op⟨.nl 1 .done,[],[],[],[2]⟩(.op⟨.nl 1 .done,[],[2],[],[]⟩(.op⟨.nl 1 .done,[],[],[],[]⟩(.op⟨.nl 1 .done,[],[],[],[]⟩(.op⟨.nl 1 .done,[],[],[],[]⟩(.op⟨.nl 1 .done,[],[],[],[]⟩(.tl Jgu))))))))Jq6))))))))))))] Tryz.func313⟩
def P4 (N:Nat):V:=⟨⟨216,Jpp,[zs2],fun(x0,x1)=>Xd N x0 x1,[]⟩,kF N [Hl,Wb,Qe9] [(38,.rg(.n 4(.sp 26 6 [2,3,5] [2,3]⟨[(32,zs7)],[]⟩Jk5 Qs4 .done))),(46,.rg(.n 4(.sp 36 5 [2,3,5] [2,3] Jgv(.nl 3(.call 2 Vp))Fr(.n 1(.sp 42 13 [2,3,5] [2,3] Jpn(.nl 12 Vp)(.nl 4(.sp 46 8 [2,5,42] []⟨[(54,zs7)],[]⟩(.nl 8 .done)(.nl 8 .done)Vp)) .done)))))] Tryz.func216⟩
def Nj (N:Nat):V:=⟨⟨315,Q10,[zs5],fun(x0,x1)=>Uy N x0 x1,[]⟩,kF N [] [(6,.lp [0,1] [] zs4 zs8)] Tryz.func315⟩
def Qdl (N:Nat):V:=⟨⟨314,(sD [U7,.str]),[zs5],fun(x0,x1)=>Ek N x0 x1,[]⟩,kF N [Nj] [(6,.lp [1,2] [2] zs4 zs8)] Tryz.func314⟩
def Qdm (N:Nat):V:=⟨⟨217,Jpp,[zs2],fun(x0,x1)=>El N x0 x1,[]⟩,kF N [Wb,D1,Qdl,Nj] [(23,.jn [] [2,3,6] Jq7),(67,.jn [3,6,23] [] Jq8),(81,.jn [3,6] [] [(.n,⟨[(62,zs7)],[]⟩)])] Tryz.func217⟩
def Qdn (N:Nat):V:=⟨⟨129,(sD [U7,Jv,.i]),[zs2],fun(x0,x1,x2)=>Em N x0 x1 x2,[]⟩,kF N [Qe8,I8,P4,Qdm] [] Tryz.func129⟩
def Qfa (N:Nat):V:=⟨⟨316,Q10,[Q6f],fun(x0,x1)=>Wh N x0 x1,[]⟩,kF N [] [(6,.lp [0,1] [] zs4 [(.x 0,zs4)]),(9,.rg(.n 5(.sp 11 7 [5] [] Q11 Qay Qay .done)))] Tryz.func316⟩
def Qaz (N:Nat):V:=⟨⟨317,Q10,[Q6f],fun(x0,x1)=>Z3 N x0 x1,[]⟩,kF N [] [(8,.lp [0,1] []⟨[(5,S5),(6,zs3)],[(100000,Qre)]⟩Jpq),(16,.jn [6] [] Jpr)] Tryz.func317⟩
def Qa0 (N:Nat):V:=⟨⟨219,Jq9,[(sD [Vg])],fun(x0,x1)=>Gc N x0 x1,[]⟩,kF N [Qfa,Qaz] [(3,.jn [4] [3,4] [(.n,⟨[(2,S6)],[(100000,Jpt)]⟩)])] Tryz.func219⟩
def Qdo (N:Nat):V:=⟨⟨130,Jpp,[⟨[(0,Jcf)],[(1,Q6g),(2,Qs5),(3,H1)]⟩],fun(x0,x1)=>Eo N x0 x1,[]⟩,kF N [Hl,Wb,Qa0] [(3,.an(.dc 14 [7,8,9,10,11,12,13,14,15,16,17,18,19,5] [2] [](.op⟨.nl 1 .done,[],[],[7],[7]⟩(.op⟨.nl 1 .done,[],[],[],[2]⟩(.op⟨.nl 1 .done,[],[2],[],[]⟩(.op⟨.nl 1 .done,[7],[],[10],[10]⟩(.op⟨.nl 1 .done,[],[],[11],[11]⟩(.op⟨.nl 1 .done,[],[],[],[2]⟩(.op⟨.nl 1 .done,[],[2],[],[]⟩(.op⟨.nl 1 .done,[11],[],[14],[14]⟩(.op⟨.nl 1 .done,[],[],[15],[15]⟩(.op⟨.nl 1 .done,[],[],[],[2]⟩(.op⟨.nl 1 .done,[],[2],[],[]⟩(.op⟨.nl 1 .done,[15],[],[18],[18]⟩(.op⟨.nl 1 .done,[],[],[],[10,14,18]⟩(.op⟨.nl 1 .done,[],[],[5],[5]⟩Nh)))))))))))))))),(5,.jn [] [2,3] [(.n,⟨[(4,Qb5),(5,Jpu)],[(100100,.var 202(.ag(sL [.ns,.ns,.ns]))),(100101,.var 202(.ag(sL [Jgw,Jgx,.s 100104]))),(100102,Q6g),(100103,Qs5),(100104,H1)]⟩),(.r,⟨[(4,Qk1)],[(100200,.var 202(.ag(sL [Q13,Jk7,Jpv]))),(100201,Q6g),(100202,Qs5),(100203,H1)]⟩)]),(15,.an(.dc 6 [66,67,68,69,70,71] [5] [2,3](.op⟨.nl 1 .done,[],[],[],[5]⟩(.op⟨.nl 1 .done,[],[5],[],[10]⟩(.op⟨.nl 1 .done,[],[2],[],[]⟩(.op⟨.nl 1 .done,[],[],[],[3]⟩(.op⟨.nl 1 .done,[],[3],[],[]⟩(.op⟨.call 0 .done,[],[],[],[]⟩Qrf)))))))),(21,.jn [2,3,4,5] [4,5,10,14,18] Jra),(33,.an(.dc 10 [26,27,28,29,30,31,32,33,34,35] [5,14] [3](.op⟨.nl 1 .done,[],[],[],[5]⟩(.op⟨.nl 1 .done,[],[5],[],[14]⟩(.op⟨.nl 1 .done,[],[],[],[]⟩(.op⟨.nl 1 .done,[],[],[],[5]⟩(.op⟨.nl 1 .done,[],[5],[],[14]⟩(.op⟨.nl 1 .done,[],[],[],[]⟩(.op⟨.nl 1 .done,[],[14],[],[14]⟩(.op⟨.nl 1 .done,[],[14],[],[]⟩(.op⟨.nl 1 .done,[],[3],[],[]⟩(.op⟨.call 2 .done,[],[],[],[]⟩Jcg))))))))))))] Tryz.func130⟩
def Qdp (N:Nat):V:=⟨⟨75,(sD [.sl Jv]),[Ni],Ep N,[]⟩,kF N [Qdn,Qdo] [(18,.lp [0] []⟨[(4,S6),(5,zs3),(6,zs3)],[(100000,.var 202 Jpx),(100001,Q6g),(100002,Qs5),(100003,H1)]⟩Jrb),(28,.an(.dr 6 Q14 Qi2)),(38,.an(.dr 5 Jk9 Jgy))] Tryz.func75⟩
def Qdq (N:Nat):V:=⟨⟨318,(sD [.sl .str]),[zs2],Er N,[]⟩,kF N [Kg] [(14,.lp [0] [] Qdf Qng),(35,.lp [0] [] Q6e Jpy),(45,.an(.dr 10 Jgz .done))] Tryz.func318⟩
def Qb6 (N:Nat):V:=⟨⟨220,(sD [K5]),[zs2],Ho N,[]⟩,kF N [Qdq] [] Tryz.func220⟩
def Qha (N:Nat):V:=⟨⟨131,Jrc,[zs2],Cg N,[]⟩,kF N [Kg,Qb6] [(46,.lp [1] [1] Qdf Qng)] Tryz.func131⟩
def Qdr (N:Nat):V:=⟨⟨76,(sD [.sl Yp]),[zs2],Es N,[]⟩,kF N [Qha] [(14,.lp [0] [] Qdf Qng),(34,.an(.dr 44(.n 3(.sp 24 41 [3] []⟨[(65,zs7)],[]⟩(.nl 13(.sp 37 27 [3,24] []⟨[(64,zs7)],[]⟩(.nl 27 .done)(.nl 13(.sp 50 13 [3,24,37] []⟨[(63,zs7)],[]⟩Jla Jla(.nl 1 .done)))Vp))(.nl 40 Vp) .done)) .done))] Tryz.func76⟩
def Qds (N:Nat):V:=⟨⟨319,Jg0,[zs5],Xe N,[]⟩,kF N [] [] Tryz.func319⟩
def Qdt (N:Nat):V:=⟨⟨320,Jg0,[zs5],Et N,[]⟩,kF N [] [] Tryz.func320⟩
def I9 (N:Nat):V:=⟨⟨221,Qnf,[zs5],Wi N,[]⟩,kF N [Qds,Qdt] [(4,.rg(.n 9(.sp 12 5 [0] []⟨[(17,zs7)],[]⟩Fr Q15 .done))),(14,.lp [0] [] Qdf Qrd),(24,.rg(.n 3(.call 0(.n 2(.sp 29 6 [3] [] Jg1 Jk5 Qs4(.n 1(.sp 36 5 [3] [] Jgv Fr Fr .done)))))))] Tryz.func221⟩
def La (N:Nat):V:=⟨⟨303,Qnf,[zs5],Wj N,[]⟩,kF N [] [(4,.rg(.n 9(.sp 14 4 [0] [] Q11 Sx Sx(.n 1(.sp 19 4 [0] []⟨[(23,zs7)],[]⟩Sx Sx .done))))),(14,.lp [0] [] Qdf Qrd),(24,.an(.dr 22(.n 5(.sp 34 5 [3] []⟨[(39,zs7)],[]⟩Fr Fr(.n 5(.sp 44 5 [3,39] [] Jk0 Fr Fr Q6i)))) .done)),(26,.rg(.n 7(.sp 56 5 [3] []⟨[(61,zs7)],[]⟩Fr Fr .done)))] Tryz.func303⟩
def Qa1 (N:Nat):V:=⟨⟨351,(sD [.sl V8,.i,.i]),[zs5],fun(x0,x1,x2)=>Ge N x0 x1 x2,[]⟩,kF N [] [(6,.lp [0,1,2] [] Qne Jg2),(18,.lp [7] [] Qkz [(.x 2,zs6),(.r,⟨[(6,zs7)],[]⟩)]),(34,.an(.dr 17(.n 17 .done) .done))] Tryz.func351⟩
def Qfb (N:Nat):V:=⟨⟨281,(sD [.sl V8,.i]),[zs2],fun(x0,x1)=>Aa N x0 x1,[]⟩,kF N [La,D0,Qa1] [(16,.lp [0,1,5] [5] zs9 Qs3),(26,.an(.dr 8 Qi3 .done)),(53,.lp [0,1,5] [5] Qne [(.x 2,zs6),(.r,Q6e)])] Tryz.func281⟩
def Qdu (N:Nat):V:=⟨⟨183,Jmi,[zs2],Eu N,[]⟩,kF N [Qfb] [(14,.lp [0] [] Qdf Qng)] Tryz.func183⟩
def Qdv (N:Nat):V:=⟨⟨304,(sD [.sl Kn,.bool]),[zs2],fun(x0,x1)=>Ev N x0 x1,[]⟩,kF N [] [(38,.lp [0] [] zs4 Qs3)] Tryz.func304⟩
def Qdw (N:Nat):V:=⟨⟨204,Jmj,[zs2],Ew N,[]⟩,kF N [La,Qdv] [(22,.lp [0] [] Qdf Qng),(43,.lp [3] [] Q6e Jpy),(53,.an(.dr 11(.n 11 .done) .done))] Tryz.func204⟩
def Qfc (N:Nat):V:=⟨⟨321,Jmk,[zs5],fun(x0,x1)=>Ab N x0 x1,[]⟩,kF N [] [(6,.lp [1,2] [2] zs4 zs8)] Tryz.func321⟩
def Qfd (N:Nat):V:=⟨⟨322,Jmk,[zs5],fun(x0,x1)=>Ac N x0 x1,[]⟩,kF N [] [(6,.lp [1,2] [2] zs4 zs8)] Tryz.func322⟩
def D2 (N:Nat):V:=⟨⟨136,Jml,[zs2],Xf N,[]⟩,kF N [] [(24,.lp [0] []⟨[(3,zs3),(4,zs3)],[]⟩Qng)] Tryz.func136⟩
def Qdx (N:Nat):V:=⟨⟨222,Q16,[zs2],Ey N,[]⟩,kF N [Qfc,Qfd,D2] [(14,.lp [1] [1] Qdf Qng),(35,.rg(.n 3(.call 0(.n 2(.sp 35 6 [3,4] [4] Jgv Qs4 Jk5 .done)))))] Tryz.func222⟩
def Qdy (N:Nat):V:=⟨⟨409,zs2,[zs2],Ez N,[]⟩,kF N [] [] Tryz.func409⟩
def Qhb (N:Nat):V:=⟨⟨434,Q10,[zs5],fun(x0,x1)=>G1 N x0 x1,[]⟩,kF N [] [(6,.lp [0,1] [] zs4 zs8)] Tryz.func434⟩
def H4 (N:Nat):V:=⟨⟨410,Qnf,[zs2],Un N,[]⟩,kF N [Qhb] [] Tryz.func410⟩
def Qhc (N:Nat):V:=⟨⟨392,Qrh,[zs2],Ch N,[]⟩,kF N [Qdy,H4] [(4,.an(.dc 6 [3,4,5,6,7,8] [1] [](.op⟨.nl 1 .done,[],[],[],[1]⟩(.op⟨.nl 1 .done,[],[1],[],[]⟩(.op⟨.call 0 .done,[],[],[],[]⟩(.op⟨.nl 1 .done,[],[],[],[1]⟩(.op⟨.nl 1 .done,[],[1],[],[]⟩Qva))))))),(28,.rg(.n 4(.sp 35 5 [1] [1]⟨[(40,zs7)],[]⟩Jgt Fr .done)))] Tryz.func392⟩
def Qb7 (N:Nat):V:=⟨⟨393,(sD [Ko,.sl .i]),[zs2],fun(x0,x1)=>Hp N x0 x1,[]⟩,kF N [H4] [(41,.an(.dr 7 Q8x .done)),(48,.jn [] [2] Jq7),(52,.jn [1,30] [] [(.n,Jg1)]),(66,.jn [1,30] [] Jmm),(80,.jn [1] [] [(.n,Jk0)])] Tryz.func393⟩
def B4 (N n:Nat):Con:=⟨364,zs1,[Ni],fun(x0,x1)=>Vj N n x0 x1,[]⟩
theorem D3 (N:Nat):∀n,KO(B4 N n)
 | 0=>⟨F4 fun _=>rfl,I5 Tryz.func364 rfl⟩
 | n+1=>have ih:=D3 N n; kF N [Qhc,fun _=>⟨_,ih⟩,Qb7] [(26,.lp [1,2] [2] Jmn [(.x 0,⟨[(7,Qe7)],[(100100,H1)]⟩),(.r,Jg4)])] Tryz.func364
def Qja (N:Nat):V:=⟨B4 N N,D3 N N⟩
def Qfe (N:Nat):V:=⟨⟨306,Qrh,[Ni],Ad N,[]⟩,kF N [Qja] [] Tryz.func306⟩
def P5 (N:Nat):V:=⟨⟨223,Q16,[zs2],Xg N,[]⟩,kF N [I9,Qfe] [(14,.lp [1] [1] Qdf Qng),(37,.lp [3,4] [4] zs4 Jpy),(47,.an(.dr 9(.n 9 .done) .done))] Tryz.func223⟩
def Qb8 (N:Nat):V:=⟨⟨132,Q16,[zs2],Hq N,[]⟩,kF N [I9,Qdu,Qdw,Qdx,P5] [(21,.jn [1] [1] [(.n,Qdf)]),(27,.jn [1] [1] [(.n,Qdf)]),(33,.jn [] [1] [(.n,Qdf)])] Tryz.func132⟩
def Qdz (N:Nat):V:=⟨⟨133,(sD [J7,J7]),[zs2],fun(x0,x1)=>E0 N x0 x1,[]⟩,kF N [] [] Tryz.func133⟩
def Qd0 (N:Nat):V:=⟨⟨77,(sD [.sl J7]),[zs2],E1 N,[]⟩,kF N [Qb8,Qdz] [(14,.lp [0] [] Qdf Qng),(34,.jn [3] [] [(.n,⟨[(36,zs7)],[]⟩)]),(34,.an(.dc 12 [22,23,24,25,26,27,28,29,30,31,32,33] [] [](.op⟨.nl 1 .done,[],[],[],[]⟩(.op⟨.nl 1 .done,[],[],[],[]⟩(.op⟨.nl 1 .done,[],[],[],[]⟩(.so 24(.op⟨.nl 1 .done,[],[],[],[]⟩(.op⟨.nl 1 .done,[],[],[],[]⟩(.op⟨.nl 1 .done,[],[],[],[]⟩(.op⟨.nl 1 .done,[],[],[],[]⟩(.op⟨.nl 1 .done,[],[],[],[]⟩(.op⟨.nl 1 .done,[],[],[],[]⟩(.op⟨.nl 1 .done,[],[],[],[]⟩(.op⟨.nl 1 .done,[],[],[],[]⟩(.op⟨.nl 1 .done,[],[],[],[]⟩(.tl Jk2))))))))))(.op⟨.nl 1 .done,[],[],[],[]⟩(.op⟨.nl 1 .done,[],[],[],[]⟩Jq6))))))))] Tryz.func77⟩
def Qd1 (N:Nat):V:=⟨⟨78,(sD [.sl Dd]),[zs5],E2 N,[]⟩,kF N [Kg] [(6,.lp [0] [] Qdf Qrd),(26,.an(.dr 35(.n 3(.sp 41 32 [3,4] [4]⟨[(73,zs7)],[]⟩(.nl 10(.sp 51 21 [3,4,41] []⟨[(72,zs7)],[]⟩(.nl 21 .done)(.nl 10(.sp 61 10 [3,4,41,51] []⟨[(71,zs7)],[]⟩(.nl 10 .done)(.nl 10 .done)(.nl 1 .done)))Vp))(.nl 31 Vp) .done)) .done))] Tryz.func78⟩
def Gs (N:Nat):V:=⟨⟨135,Q17,[zs5],U8 N,[]⟩,kF N [] [] Tryz.func135⟩
def Qhd (N:Nat):V:=⟨⟨397,Q18,[Jg5],fun(x0,x1)=>G2 N x0 x1,[]⟩,kF N [] [(10,.lp [0,1] []⟨[(5,S5),(6,zs7),(7,zs3)],Jg3⟩ [(.x 0,⟨[(5,Qri),(6,zs7)],Jg6⟩)]),(18,.jn [7] [] [(.n,⟨[(5,Qmn),(6,zs7)],[(100300,H1)]⟩)]),(20,.jn [7] [] [(.n,⟨[(5,Qi1),(6,zs7)],Jg7⟩)]),(21,.rg(.n 3(.sp 16 7 [5,6,7] [100000]⟨[(23,zs7)],[]⟩Qay Qay .done))),(34,.jn [] [] [(.n,⟨[(5,Q8y)],[(100500,H1)]⟩)])] Tryz.func397⟩
def Qb9 (N:Nat):V:=⟨⟨367,(sD [.sl .i,.sl Q8]),[(sD [.sl .i])],fun(x0,x1)=>Kf N x0 x1,[]⟩,kF N [Gs,Qhd] [(6,.lp [1] []⟨[(0,.d(.sl .i)),(5,zs3)],[]⟩ [(.x 0,Jmo)]),(14,.jn [5] [] [(.n,Jmo)]),(18,.an(.dc 12 [17,18,19,20,21,22,23,24,25,26,27,28] [] [](.op⟨.nl 1 .done,[],[],[],[]⟩(.op⟨.nl 1 .done,[],[],[],[]⟩(.op⟨.nl 1 .done,[],[],[],[]⟩(.op⟨.nl 1 .done,[],[],[],[]⟩(.op⟨.nl 1 .done,[],[],[],[]⟩(.op⟨.nl 1 .done,[],[],[],[]⟩(.op⟨.call 1 .done,[],[],[12301],[12301]⟩(.op⟨.nl 1 .done,[],[],[],[]⟩(.op⟨.nl 1 .done,[],[],[],[]⟩(.op⟨.nl 1 .done,[],[],[],[]⟩(.op⟨.nl 1 .done,[],[],[],[]⟩(.op⟨.nl 1 .done,[],[],[],[]⟩(.tl Jgy)))))))))))))))] Tryz.func367⟩
def S8 (N:Nat):V:=⟨⟨358,Jmp,[zs5],fun(x0,x1)=>X9 N x0 x1,[]⟩,kF N [Gs] [] Tryz.func358⟩
def Qjb (N:Nat):V:=⟨⟨368,(sD [.sl Q8,.i]),[zs5],fun(x0,x1)=>Eb N x0 x1,[]⟩,kF N [S8] [(6,.lp [0,1] [] zs4 zs8)] Tryz.func368⟩
def Qca (N:Nat):V:=⟨⟨323,(sD [.sl Q8,.sl Q8,.bool,.bool]),[Qi4],fun(x0,x1,x2,x3)=>Hr N x0 x1 x2 x3,[]⟩,kF N [Qb9,Qjb] [(10,.lp [0,1,2,3,9] []⟨[(10,S5),(11,zs3)],Q8z⟩ [(.x 0,⟨[(10,Q8y)],[(100500,Dz)]⟩)]),(18,.jn [11] [] [(.n,⟨[(10,Qri)],Jg8⟩)]),(21,.rg(.n 5(.call 1(.n 2(.sp 31 13 [10,11] [100000]⟨[(44,zs7)],[]⟩(.nl 12 Vp)(.nl 3(.sp 34 9 [10,11,31] []⟨[(43,zs7)],[]⟩(.nl 5(.call 1(.nl 3 .done)))(.nl 9 .done)Vp)) .done))))),(28,.an(.dr 15(.n 3(.sp 49 12 [10,11,12] [100000]⟨[(61,zs7)],[]⟩(.nl 11 Vp)(.nl 11 Vp) .done)) .done)),(31,.an(.dc 12 [72,73,74,75,76,77,78,79,80,81,82,83] [] [](.op⟨.nl 1 .done,[],[],[],[100000]⟩(.op⟨.nl 1 .done,[],[],[],[]⟩(.op⟨.nl 1 .done,[],[],[],[]⟩(.op⟨.nl 1 .done,[],[],[],[]⟩(.op⟨.nl 1 .done,[],[],[],[]⟩(.op⟨.nl 1 .done,[],[],[],[]⟩(.op⟨.nl 1 .done,[],[],[],[]⟩(.op⟨.nl 1 .done,[],[],[],[]⟩(.op⟨.nl 1 .done,[],[],[],[]⟩Jmr)))))))))))] Tryz.func323⟩
def Qcb (N:Nat):V:=⟨⟨224,(sD [.sl Q8,.sl Q8]),[Qi4],fun(x0,x1)=>Hs N x0 x1,[]⟩,kF N [Qca] [] Tryz.func224⟩
def P6 (N:Nat):V:=⟨⟨137,Q80,[Jms],fun(x0,x1)=>Xh N x0 x1,[]⟩,kF N [Qcb] [] Tryz.func137⟩
def Nx (N:Nat):V:=⟨⟨79,(sD [.sl V3]),[zs5],Kq N,[]⟩,kF N [Gs,D2,P6] [(6,.lp [0] [] Qdf Qrd),(19,.rg(.n 19(.sp 37 5 [3,4] [4]⟨[(42,zs7)],[]⟩Fr Q15(.n 1(.sp 43 5 [3,4] [4] Jpl Fr Jgt Jgz))))),(28,.lp [3,4] [4] zs4 [(.x 2,zs6),(.r,⟨[(2,zs7)],[]⟩)])] Tryz.func79⟩
def Qd2 (N:Nat):V:=⟨⟨41,(sD [Vw,.i]),[zs5],fun(x0,x1)=>E3 N x0 x1,[]⟩,kF N [Qdj,Qdp,Qdr,Qd0,Qd1,Nx] [(14,.lp [1,2] [2] zs4 zs8),(35,.lp [1,2] [2] zs9 Jky),(56,.lp [1,2] [2] Qne Jkz),(77,.lp [2] [2] Qkz Jq3),(87,.an(.dr 32(.n 7(.sp 111 7 [8] []⟨[(118,zs7)],[]⟩Qay Qay(.n 1(.sp 119 17 [8] []⟨[(136,zs7)],[]⟩(.nl 16 Vp)(.nl 3(.sp 122 13 [8,119] []⟨[(135,zs7)],[]⟩Jla Jla Vp)) .done)))) .done)),(97,.rg(.n 3(.sp 145 5 [2] [2]⟨[(150,zs7)],[]⟩(.nl 2 Jk3)Fr(.n 1(.sp 151 5 [2] [2]⟨[(156,zs7)],[]⟩Jq4 Fr(.n 1(.sp 157 4 [2] [2]⟨[(161,zs7)],[]⟩(.nl 2(.call 4 Vp))Sx(.n 1(.sp 162 4 [2] [2]⟨[(166,zs7)],[]⟩Jmt Sx Vp)))))))))] Tryz.func41⟩
def Qcc (N:Nat):V:=⟨⟨42,(sD [J2]),[zs5],Ht N,[]⟩,kF N [] [] Tryz.func42⟩
def Qff (N:Nat):V:=⟨⟨43,zs2,[zs5],Ag N,[]⟩,kF N [] [] Tryz.func43⟩
def Qa2 (N:Nat):V:=⟨⟨44,(sD []),[(sD [Vw])],fun _=>Do N,[]⟩,kF N [] [] Tryz.func44⟩
def Qxw (N:Nat):V:=⟨⟨47,Jg9,[Q19],Qae N,[]⟩,kF N [] [(3,.an(.dc 8 [6,7,8,9,10,11,12,3] [1] [](.op⟨.nl 1 .done,[],[],[],[1]⟩(.op⟨.nl 1 .done,[],[1],[],[]⟩(.op⟨.nl 1 .done,[],[],[8],[8]⟩(.op⟨.nl 1 .done,[],[],[],[1]⟩(.op⟨.nl 1 .done,[],[1],[],[]⟩(.op⟨.nl 1 .done,[],[],[11],[11]⟩(.op⟨.nl 1 .done,[],[],[],[8,11]⟩Q81))))))))),(8,.lp [2,14,15] [1,2]⟨[(3,S6),(16,zs3)],[(100000,.var 37 Jpx),(100001,Um),(100002,Qbs),(100003,Qbt)]⟩ [(.x 0,⟨Qvb,[(100100,.var 37(.ag(sL [Qdg,Jgw,Jgx]))),(100101,Um),(100102,Qbs),(100103,Qbt)]⟩)]),(21,.rg(.n 3(.fz 22 Qi5)))] Tryz.func47⟩
def Qk2 (N:Nat):V:=⟨⟨369,Q10,[Q6f],fun(x0,x1)=>Mi N x0 x1,[]⟩,kF N [] [(6,.lp [0,1] [] zs4 [(.x 0,zs4)]),(9,.rg(.n 5(.sp 11 7 [5] [] Q11 Qay Qay .done)))] Tryz.func369⟩
def Qfg (N:Nat):V:=⟨⟨370,Q10,[Q6f],fun(x0,x1)=>Ah N x0 x1,[]⟩,kF N [] [(8,.lp [1,8,9] []⟨Jha,[(100000,Qre)]⟩Jpq),(16,.jn [10] [] Jpr)] Tryz.func370⟩
def Qk3 (N:Nat):V:=⟨⟨324,Jq9,[(sD [Vg])],fun(x0,x1)=>Mj N x0 x1,[]⟩,kF N [Qk2,Qfg] [(3,.jn [] [3] [(.n,⟨[(2,Qf8),(4,Jhb)],[(100300,Jpt),(100301,Q82)]⟩),(.r,⟨[(4,Qk1)],[(100200,Q82)]⟩)]),(31,.jn [2,3,4,6] [2,4] Jmm),(39,.jn [2,3,4] [2,4] [(.n,Jk0)])] Tryz.func324⟩
def Qfh (N:Nat):V:=⟨⟨226,Qvc,[⟨Qg9,[(1,Qmo)]⟩],fun(x0,x1)=>Ai N x0 x1,[]⟩,kF N [Qk3] [(10,.lp [1,10,11] []⟨[(5,S5),(6,Q2a),(12,zs3)],[(100000,Qmo),(100001,Jhd)]⟩ [(.x 0,⟨[(5,Qmn)],[(100300,Qmo)]⟩)]),(18,.jn [12] [] [(.n,⟨[(5,Qi1),(6,Jhe)],[(100200,Qmo),(100201,Jhd)]⟩)]),(32,.an(.dr 13(.n 3(.sp 31 10 [5,6,8,9,12] [8,100000,100001] Jgv Q83 Q83 .done)) .done))] Tryz.func226⟩
def Qjc (N:Nat):V:=⟨⟨228,(sD [Vg,Vg]),[zs5],fun(x0,x1)=>Ih N x0 x1,[]⟩,kF N [] [(14,.lp [3,43,44] [2,3]⟨[(45,zs3)],[]⟩zs8)] Tryz.func228⟩
def Qd3 (N:Nat):V:=⟨⟨227,Jmv,[zs5],fun(x0,x1)=>E4 N x0 x1,[]⟩,kF N [Qjc] [] Tryz.func227⟩
def Qd4 (N:Nat):V:=⟨⟨229,Jmv,[(sD [Vh])],fun(x0,x1)=>E5 N x0 x1,[]⟩,kF N [] [] Tryz.func229⟩
def H5 (N:Nat):V:=⟨⟨225,⟨[(0,.d(.sl Vh)),(1,.f 227 .nil),(2,.f 229 .nil)],[]⟩,[⟨Qg9,[(1,Qmo)]⟩],Y9 N,[]⟩,kF N [Qd3,Qd4] [(8,.lp [1,2,11,12] []⟨Jmw,[(100000,Qmo)]⟩ [(.x 0,⟨[(7,Qi1)],[(100200,Qmo)]⟩)]),(16,.jn [13] [] [(.n,⟨[(7,Qe7)],[(100100,Qmo)]⟩)]),(22,.an(.dc 10 [19,20,21,22,23,24,25,26,27,28] [100000,9] [](.op⟨.nl 1 .done,[],[],[],[]⟩(.op⟨.nl 1 .done,[],[],[],[]⟩(.op⟨.nl 1 .done,[],[],[],[]⟩(.so 21(.op⟨.nl 1 .done,[],[],[],[]⟩(.op⟨.nl 1 .done,[],[],[],[100000]⟩(.op⟨.nl 1 .done,[],[],[],[]⟩(.op⟨.nl 1 .done,[],[],[],[]⟩(.op⟨.nl 1 .done,[],[100000],[],[100000]⟩(.op⟨.nl 1 .done,[],[100000],[],[]⟩(.op⟨.nl 1 .done,[],[9],[],[]⟩(.tl Qi2))))))))Q84)))))),(24,.an(.dc 11 [31,32,33,34,35,36,37,38,39,40,41] [100000,9] [](.op⟨.nl 1 .done,[],[],[],[100000]⟩(.op⟨.nl 1 .done,[],[],[],[]⟩(.op⟨.nl 1 .done,[],[],[],[]⟩(.op⟨.nl 1 .done,[],[],[],[]⟩(.op⟨.nl 1 .done,[],[],[],[100000]⟩(.op⟨.nl 1 .done,[],[],[],[]⟩(.op⟨.nl 1 .done,[],[],[],[]⟩(.op⟨.nl 1 .done,[],[100000],[],[100000]⟩(.op⟨.nl 1 .done,[],[100000],[],[]⟩(.op⟨.nl 1 .done,[],[9],[],[]⟩(.op⟨.call 1 .done,[],[],[],[]⟩Jcg)))))))))))))] Tryz.func225⟩
def Nk (N:Nat):V:=⟨⟨138,Qvc,[⟨Qg9,[(1,Q85)]⟩],fun(x0,x1)=>G3 N x0 x1,[]⟩,kF N [Qfh,H5] [(10,.lp [5,14,15] [11201,11301]⟨[(6,S5),(16,zs3)],[(100000,Q85)]⟩ [(.x 0,⟨[(6,Qmn)],[(100300,Q85)]⟩)]),(18,.jn [16] [] [(.n,⟨[(6,Qi1)],[(100200,Q85)]⟩)]),(30,.jn [6,8,16] [8,100000] [(.n,⟨[(9,Qb5)],[(100100,Jhf)]⟩)]),(35,.an(.dc 17 [40,41,42,43,44,45,46,47,48,49,50,51,52,53,54,55,56] [100100,8] [](.op⟨.nl 1 .done,[],[],[],[100000]⟩(.op⟨.nl 1 .done,[],[100100],[],[]⟩(.op⟨.nl 1 .done,[],[],[],[8]⟩(.op⟨.nl 1 .done,[],[],[],[8]⟩(.op⟨.nl 1 .done,[],[8],[],[]⟩(.op⟨.nl 1 .done,[],[],[],[8]⟩(.op⟨.nl 1 .done,[],[],[],[8]⟩(.op⟨.nl 1 .done,[],[8],[],[]⟩(.op⟨.nl 1 .done,[],[],[48],[48]⟩(.op⟨.nl 1 .done,[],[],[],[8]⟩(.op⟨.nl 1 .done,[],[],[],[8]⟩(.op⟨.nl 1 .done,[],[8],[],[]⟩(.op⟨.nl 1 .done,[],[],[],[8]⟩(.op⟨.nl 1 .done,[],[],[],[8]⟩(.op⟨.nl 1 .done,[],[8],[],[]⟩(.op⟨.nl 1 .done,[],[],[],[48]⟩(.op⟨.fz 48(.nl 1 .done),[48],[],[],[48]⟩Jcg)))))))))))))))))))] Tryz.func138⟩
def Kw (N:Nat):V:=⟨⟨230,Q17,[zs5],V5 N,[]⟩,kF N [] [] Tryz.func230⟩
def Lb (N:Nat):V:=⟨⟨139,Jmp,[zs5],fun(x0,x1)=>Wk N x0 x1,[]⟩,kF N [Kw] [] Tryz.func139⟩
def Qrq (N:Nat):V:=⟨⟨84,Q86,[(sD [Cf,.bool])],fun(x0,x1,x2)=>Qaf N x0 x1 x2,[]⟩,kF N [Nk,Lb] [(6,.lp [2,12,13] [11201]⟨[(6,S6),(14,zs3)],[(100000,Jmy)]⟩ [(.x 0,⟨[(6,Qb5)],[(100100,Jmy)]⟩),(.r,⟨Jhg,[(100200,.var 92 Aw)]⟩)])] Tryz.func84⟩
def Qk4 (N:Nat):V:=⟨⟨231,(sD []),[⟨[(0,.p 1 [])],[(1,.var 379(.ag(sL [.m 2,.m 3,.m 4,.m 5,.m 6,.ns,.ns]))),(2,Q2b),(3,.map .i Vg),(4,Qmp),(5,.map .str .i),(6,Qbu)]⟩],fun _=>Mm N,[]⟩,kF N [] [] Tryz.func231⟩
def Qnh (N:Nat):V:=⟨⟨232,Qvc,[⟨[(0,.f 325(sL [.p 1 [],.p 2 []]))],[(1,.var 22 Jmz),(2,Ot)]⟩],fun(x0,x1)=>Pf N x0 x1,[]⟩,kF N [] [] Tryz.func232⟩
def Qhe:AnY:=(.two (.reg(.n 3 .done))(.un(.lp [2,6,7] []⟨[(8,.d .i)],[]⟩ [(.x 0,⟨[],[]⟩),(.r,⟨[],[]⟩)](.two(.reg(.n 1 .done))(.two(.two .nil .nil)(.two(.un(.two(.reg(.n 4 .done))(.two(.yr(.h 5(.n 5 .done)(.so 16(.mv(.h 1(.nl 1 .done)(.yl(.h 2(.nl 1(.n 1 .done)) .done))))(.h 5(.nl 4(.n 1 .done)) .done))))(.two .nil .nil))))(.reg(.n 2 .done))))))))
def Nl (N:Nat):It:=⟨325,[(.sl Jv),(.int .i64)],Jv,fun(x1,x2)=>Ii N x1 x2⟩
theorem Qfi (N:Nat):IO(Nl N):=⟨Jkx(Y:=tx)(N:=N)(it:=Nl N)(an:=Qhe)Jgr Jgq(Q8v N [])Tryz.func325 rfl(fun x=>by kernel_rfl),I5 Tryz.func325 rfl⟩
def Qd5 (N:Nat):V:=⟨⟨326,Q18,[Jg5],fun(x0,x1)=>Xi N x0 x1,[]⟩,kF N [] [(6,.lp [0,1] [] zs4 [(.x 0,zs4)]),(9,.rg(.n 5(.sp 11 7 [5] [] Q11 Qay Qay .done)))] Tryz.func326⟩
def Ta (N:Nat):V:=⟨⟨371,Q10,[Q6f],fun(x0,x1)=>Zh N x0 x1,[]⟩,kF N [] [(6,.lp [0,1] [] zs4 [(.x 0,zs4)]),(9,.rg(.n 5(.sp 11 7 [5] [] Q11 Qay Qay .done)))] Tryz.func371⟩
def Qjd (N:Nat):V:=⟨⟨372,Q10,[Q6f],fun(x0,x1)=>Ec N x0 x1,[]⟩,kF N [] [(8,.lp [1,8,9] []⟨Jha,[(100000,Qre)]⟩Jpq),(16,.jn [10] [] Jpr)] Tryz.func372⟩
def P7 (N:Nat):V:=⟨⟨327,⟨[(0,Gr),(1,Jhc),(2,.d Jv)],Jhh⟩,[⟨[(0,Jhc)],Jhi⟩],fun(x1,x2,ce,cd,cg,ci,cj,ck,cm)=>Xj N x1 x2 ce cd cg ci cj ck cm,[5000,5001,5002,5003,5005,5006,5007]⟩,kF N [Ta,Qjd] [(3,.jn [6] [5,6] [(.n,⟨[(4,Q2a)],[(5004,.map .str .i),(100001,Jpt)]⟩)]),(10,.an(.dr 8 Qi3 Vp)),(16,.an(.dr 6 Q14 Vp))] Tryz.func327⟩
def Ny (N:Nat):V:=⟨⟨233,⟨[(0,Gr),(1,.d Jv)],Jhh⟩,[⟨[],[(5000,.var 379(.ag(sL [Q87,Qvd,Q88,Q89,Q9a,Sy,Q12]))),(5001,Q2b),(5002,.map .i Vg),(5003,Qmp),(5004,.map .str .i),(5005,Qbu),(1,H1),(2,H1)]⟩],fun(x1,ce,cd,cg,ci,cj,ck,cm)=>Kr N x1 ce cd cg ci cj ck cm,[]⟩,kF N [Qd5,P7] [(9,.jn [3] [3] [(.n,⟨Qbv,[(5000,.var 379(.ag(sL [Q87,Qvd,Q88,Q89,Q9a,.s 100006,.s 100007]))),(5001,Q2b),(5002,.map .i Vg),(5003,Qmp),(5004,.map .str .i),(5005,Qbu),(100006,H1),(100007,H1)]⟩)]),(10,.an(.dc 12 [38,39,40,41,42,43,44,37,45,46,4,1000000011] [5000,5001] [3](.op⟨.nl 1 .done,[],[],[],[5000]⟩(.op⟨.nl 1 .done,[],[5000],[],[5000]⟩(.op⟨.nl 1 .done,[],[],[],[5000]⟩(.op⟨.nl 1 .done,[],[5000],[],[5001]⟩(.op⟨.nl 1 .done,[],[],[],[3]⟩(.op⟨.nl 1 .done,[],[3],[],[]⟩(.op⟨.nl 1 .done,[],[5001],[],[]⟩(.op⟨.nl 1 .done,[],[],[],[]⟩(.op⟨.nl 1 .done,[],[],[],[]⟩(.op⟨.nl 1 .done,[],[],[],[]⟩(.op⟨.nl 1 .done,[],[],[4],[4]⟩(.op⟨.nl 1 .done,[4],[],[],[4]⟩Nh)))))))))))))),(14,.gh Jm0),(14,.an(.dc 8 [49,50,51,52,53,54,55,56] [5000] [3](.op⟨.nl 1 .done,[],[],[],[5000]⟩(.op⟨.nl 1 .done,[],[],[],[5000]⟩(.op⟨.nl 1 .done,[],[5000],[],[5000]⟩(.op⟨.nl 1 .done,[],[],[],[5000]⟩(.op⟨.nl 1 .done,[],[5000],[],[]⟩(.op⟨.nl 1 .done,[],[],[],[3]⟩(.op⟨.nl 1 .done,[],[3],[],[]⟩(.op⟨.call 0 .done,[],[],[15601],[15601]⟩Qrf)))))))))),(16,.an(.dr 16(.n 16 .done)Vp)),(21,.an(.dc 8 [77,78,79,80,81,82,83,6] [5000,3,5001] [](.op⟨.nl 1 .done,[],[],[],[5000]⟩(.op⟨.nl 1 .done,[],[5000],[],[5000]⟩(.op⟨.nl 1 .done,[],[],[],[5000]⟩(.op⟨.nl 1 .done,[],[5000],[],[5001]⟩(.op⟨.nl 1 .done,[],[],[],[3]⟩(.op⟨.nl 1 .done,[],[3],[],[]⟩(.op⟨.nl 1 .done,[],[5001],[],[]⟩(.op⟨.nl 1 .done,[],[],[6],[6]⟩Nh)))))))))),(24,.an(.dr 7 Q8x Vp)),(29,.jn [3] [3] [(.n,⟨Qbv,[(5000,.var 379(.ag(sL [Q87,Qvd,Q88,Q89,Q9a,.s 100106,.s 100107]))),(5001,Q2b),(5002,.map .i Vg),(5003,Qmp),(5004,.map .str .i),(5005,Qbu),(100106,H1),(100107,H1)]⟩)]),(30,.an(.dr 8 Qi3 .done)),(32,.gh(.fz 5007(.dt 5000 .done))),(32,.an(.dc 8 [102,103,104,105,106,107,108,109] [5000] [3](.op⟨.nl 1 .done,[],[],[],[5000]⟩(.op⟨.nl 1 .done,[],[],[],[5000]⟩(.op⟨.nl 1 .done,[],[5000],[],[5000]⟩(.op⟨.nl 1 .done,[],[],[],[5000]⟩(.op⟨.nl 1 .done,[],[5000],[],[]⟩(.op⟨.nl 1 .done,[],[],[],[3]⟩(.op⟨.nl 1 .done,[],[3],[],[]⟩(.op⟨.call 0 .done,[],[],[20901],[20901]⟩Qrf)))))))))),(35,.an(.dr 6 Q14 Vp)),(37,.an(.dr 8 Qi3 Vp)),(38,.an(.dr 15 Jpo Vp)),(43,.an(.dc 8 [143,144,145,146,147,148,149,7] [5000,3,5002] [](.op⟨.nl 1 .done,[],[],[],[5000]⟩(.op⟨.nl 1 .done,[],[5000],[],[5000]⟩(.op⟨.nl 1 .done,[],[],[],[5000]⟩(.op⟨.nl 1 .done,[],[5000],[],[5002]⟩(.op⟨.nl 1 .done,[],[],[],[3]⟩(.op⟨.nl 1 .done,[],[3],[],[]⟩(.op⟨.nl 1 .done,[],[5002],[],[]⟩(.op⟨.nl 1 .done,[],[],[7],[7]⟩Nh)))))))))),(48,.lp [0,3,7,151,152] [3,7,5000,5001,5002,5003,5005,5006,5007]⟨[(153,zs3)],Jhi⟩ [(.x 1,⟨[],Jhi⟩)]),(62,.an(.dr 8 Qi3 Vp)),(63,.an(.dr 6 Q14 Vp)),(65,.jn [0,3] [3,5000,5001,5002,5003,5004,5005,5006,5007] [(.n,⟨[(177,zs7)],[]⟩)]),(73,.an(.dc 12 [15,16,17,18,19,20,21,14,22,23,10,1000000011] [5000,3,5002] [](.op⟨.nl 1 .done,[],[],[],[5000]⟩(.op⟨.nl 1 .done,[],[5000],[],[5000]⟩(.op⟨.nl 1 .done,[],[],[],[5000]⟩(.op⟨.nl 1 .done,[],[5000],[],[5002]⟩(.op⟨.nl 1 .done,[],[],[],[3]⟩(.op⟨.nl 1 .done,[],[3],[],[]⟩(.op⟨.nl 1 .done,[],[5002],[],[]⟩(.op⟨.nl 1 .done,[],[],[],[]⟩(.op⟨.nl 1 .done,[],[],[],[]⟩(.op⟨.nl 1 .done,[],[],[],[]⟩(.op⟨.nl 1 .done,[],[],[10],[10]⟩(.op⟨.nl 1 .done,[10],[],[],[10]⟩Nh)))))))))))))),(77,.an(.dc 10 [25,26,27,28,29,30,31,32,33,34] [5000,3,10,5004,5001,5002,5003,5005,5006,5007] [](.op⟨.nl 1 .done,[],[],[],[5000]⟩(.op⟨.nl 1 .done,[],[5000],[],[5000]⟩(.op⟨.nl 1 .done,[],[],[],[5000]⟩(.op⟨.nl 1 .done,[],[5000],[],[5002]⟩(.op⟨.nl 1 .done,[],[],[],[3]⟩(.op⟨.nl 1 .done,[],[3],[],[]⟩(.op⟨.nl 1 .done,[],[],[],[5000]⟩(.op⟨.nl 1 .done,[],[10],[],[]⟩(.op⟨.nl 1 .done,[],[3],[],[]⟩(.op⟨.call 1 .done,[5004],[5000,5001,5002,5003,5005,5006,5007],[],[5004]⟩Nh))))))))))))] Tryz.func233⟩
def Nm (N:Nat):V:=⟨⟨234,⟨Qbv,Jhh⟩,[Jm1],fun(ce,cd,cg,ci,cj,ck,cm)=>Z7 N ce cd cg ci cj ck cm,[5000,5001,5002,5003,5004,5005,5006,5007]⟩,kF N [] [(5,.rg(.br Vp)),(10,.lp [0,2,16,17] [2]⟨[(3,S6),(4,.m 100001),(18,zs3)],[(100000,.var 219(.ag(sL [.ns,Jk8]))),(100001,Jhj),(100002,Qs5)]⟩ [(.x 0,⟨[(3,Qk1),(4,.m 100201)],[(100200,.var 219(.ag(sL [.ns,Jk7]))),(100201,Jhj),(100202,Qs5)]⟩)]),(18,.jn [18] [] [(.n,⟨[(3,Qb5),(4,.m 100101)],[(100100,.var 219(.ag(sL [.ns,Jgw]))),(100101,Jhj),(100102,Qs5)]⟩)]),(30,.gh(.op(.v 7 [.f 1 1])100001 700000 .done)),(30,.an(.dc 10 [33,34,35,36,37,38,39,40,41,42] [7,100001,700000] [](.op⟨.nl 1 .done,[],[],[],[100001]⟩(.op⟨.nl 1 .done,[],[],[],[7]⟩(.op⟨.nl 1 .done,[],[7],[],[]⟩(.op⟨.nl 1 .done,[],[],[],[100001]⟩(.op⟨.nl 1 .done,[],[],[],[7]⟩(.op⟨.nl 1 .done,[],[7],[],[]⟩(.op⟨.br .done,[],[100001,700000],[],[700000]⟩(.op⟨.nl 1 .done,[],[],[],[]⟩(.op⟨.nl 1 .done,[],[],[],[]⟩(.op⟨.nl 1 .done,[700000],[],[42],[42]⟩(.tl(.br .done)))))))))))))),(37,.gh(.fm 100201 .done)),(37,.lp [0,2,4,53,54] [2,100201]⟨[(3,Qf8),(55,zs3)],[(100300,.var 219(.ag(sL [Q2c,Jhk]))),(100301,Q6g),(100302,Qs5)]⟩ [(.x 2,⟨[(3,Qve)],[(100400,.var 219(.ag(sL [Q9b,.s 100402]))),(100401,Q6g),(100402,Qs5)]⟩)])] Tryz.func234⟩
def Qje:AnR:=(.pre (.reg(.n 1 .done))(.pre(.reg(.call 0(.n 2 .done)))(.inn(.pre(.reg(.n 2(.call 1 .done)))(.un(.rf 0 [4,5] [4,5]⟨[],[(10701,.var 379(.ag(sL [.m 100001,.m 100002,.m 100003,.m 100004,.m 100005,.s 100006,.s 100007]))),(100001,.map .i V0),(100002,.map .i Vg),(100003,.map .i .bool),(100004,.map .str .i),(100005,.map .i .i),(100006,.row 3 .i),(100007,.row 3 .i)]⟩(.reg(.n 2 .done))(.un(.reg(.n 2(.call 2 .done)))))))(.two(.reg(.n 1(.call 3(.n 1 .done)))) .nil))))
def Tb (N:Nat):V:=⟨⟨140,Qvc,[Jm1],fun(x0,x1)=>Aj N x0 x1,[]⟩,kR N [Qk4,Qnh,Ny,Nm] [⟨_,Qfi N⟩] Qje Tryz.func140 rfl fun x=>by kernel_rfl⟩
def Qrr (N:Nat):V:=⟨⟨85,Q86,[(sD [Vg,.bool])],fun(x0,x1,x2)=>Qag N x0 x1 x2,[]⟩,kF N [Tb] [(6,.lp [1,13,14] [11201,11202]⟨Jm2,[(100000,Q82)]⟩ [(.x 0,⟨[(6,Qb5)],[(100100,Q82)]⟩),(.r,⟨Jhg,[(100200,Jhd)]⟩)])] Tryz.func85⟩
def Qhf (N:Nat):V:=⟨⟨86,Q86,[(sD [V0,.bool])],fun(x0,x1,x2)=>Ci N x0 x1 x2,[]⟩,kF N [Tb] [(6,.lp [1,13,14] [11201,11202]⟨Jm2,[(100000,Jm3)]⟩ [(.x 0,⟨[(6,Qb5)],[(100100,Jm3)]⟩),(.r,⟨Jhg,[(100200,.var 94 B1)]⟩)])] Tryz.func86⟩
def Qfj (N:Nat):V:=⟨⟨50,⟨Qbv,[(5000,.var 102(.ag(sL [H2,B2,V7,.ag(sL [Qdh,Yd,Qrk,zs7,zs7]),.ag(sL [zs3,zs3,zs3,zs7,zs7,Ou]),.ag(sL [Yd,zs3,zs7,S7,Qbw,Qmq,Qi6]),zs3,Jm4]))),(5001,Qre),(5002,H1),(5003,B3),(5004,Ww),(5005,Hk),(5006,Fp),(5007,Ua),(5008,Ub),(5009,Uu)]⟩,[⟨Qi7,[(5000,Jm6),(1,B3),(2,Ww),(3,Hk),(4,Fp),(5,Ua),(6,Ub),(7,Uu)]⟩],fun(cx,dg,cq,je,jf,jg,jh,ji,jj,jk,jl,jm,gk,gm,gn,du,dv,dw,dy,dz,dl,g5,dx,dq,g6,g7,ce,cd,cg,ci,cj,ck,cm,dj,ge)=>Ak N cx dg cq je jf jg jh ji jj jk jl jm gk gm gn du dv dw dy dz dl g5 dx dq g6 g7 ce cd cg ci cj ck cm dj ge,[]⟩,kF N [Qrq,Qrr,Qhf] [(3,.an(.dc 21 [8,9,10,11,12,13,14,15,16,17,18,19,20,21,22,23,7,24,25,3,1000000020] [5000] [](.op⟨.nl 1 .done,[],[],[],[5000]⟩(.op⟨.nl 1 .done,[],[5000],[],[5000]⟩(.op⟨.nl 1 .done,[],[],[],[5000]⟩(.op⟨.nl 1 .done,[],[],[],[5000]⟩(.op⟨.nl 1 .done,[],[5000],[],[]⟩(.op⟨.nl 1 .done,[],[],[],[5000]⟩(.op⟨.nl 1 .done,[],[5000],[],[5000]⟩(.op⟨.nl 1 .done,[],[],[],[5000]⟩(.op⟨.nl 1 .done,[],[],[],[5000]⟩(.op⟨.nl 1 .done,[],[5000],[],[]⟩(.op⟨.nl 1 .done,[],[],[],[5000]⟩(.op⟨.nl 1 .done,[],[5000],[],[5000]⟩(.op⟨.nl 1 .done,[],[],[],[5000]⟩(.op⟨.nl 1 .done,[],[],[],[5000]⟩(.op⟨.nl 1 .done,[],[5000],[],[]⟩(.op⟨.call 0 .done,[],[],[],[]⟩(.op⟨.nl 1 .done,[],[],[],[]⟩(.op⟨.nl 1 .done,[],[],[],[]⟩(.op⟨.nl 1 .done,[],[],[],[]⟩Jm7))))))))))))))))))))),(13,.an(.dc 21 [29,30,31,32,33,34,35,36,37,38,39,40,41,42,43,44,28,45,46,5,1000000020] [5000] [](.op⟨.nl 1 .done,[],[],[],[5000]⟩(.op⟨.nl 1 .done,[],[5000],[],[5000]⟩(.op⟨.nl 1 .done,[],[],[],[5000]⟩(.op⟨.nl 1 .done,[],[],[],[5000]⟩(.op⟨.nl 1 .done,[],[5000],[],[]⟩(.op⟨.nl 1 .done,[],[],[],[5000]⟩(.op⟨.nl 1 .done,[],[5000],[],[5000]⟩(.op⟨.nl 1 .done,[],[],[],[5000]⟩(.op⟨.nl 1 .done,[],[],[],[5000]⟩(.op⟨.nl 1 .done,[],[5000],[],[]⟩(.op⟨.nl 1 .done,[],[],[],[5000]⟩(.op⟨.nl 1 .done,[],[5000],[],[5000]⟩(.op⟨.nl 1 .done,[],[],[],[5000]⟩(.op⟨.nl 1 .done,[],[],[],[5000]⟩(.op⟨.nl 1 .done,[],[5000],[],[]⟩(.op⟨.call 1 .done,[],[],[],[]⟩(.op⟨.nl 1 .done,[],[],[],[]⟩(.op⟨.nl 1 .done,[],[],[],[]⟩(.op⟨.nl 1 .done,[],[],[],[]⟩(.op⟨.nl 1 .done,[],[],[5],[5]⟩(.op⟨.nl 1 .done,[5],[],[],[5]⟩Nh))))))))))))))))))))))),(16,.an(.dr 8 Qi3 .done)),(33,.an(.dc 20 [62,63,64,65,66,67,68,69,70,71,72,73,74,75,61,76,77,78,79,1000000019] [5000,5] [](.op⟨.nl 1 .done,[],[],[],[5000]⟩(.op⟨.nl 1 .done,[],[],[],[5000]⟩(.op⟨.nl 1 .done,[],[5000],[],[5000]⟩(.op⟨.nl 1 .done,[],[],[],[5000]⟩(.op⟨.nl 1 .done,[],[],[],[5000]⟩(.op⟨.nl 1 .done,[],[5000],[],[]⟩(.op⟨.nl 1 .done,[],[],[],[5]⟩(.op⟨.nl 1 .done,[],[5],[],[]⟩(.op⟨.nl 1 .done,[],[],[],[5000]⟩(.op⟨.nl 1 .done,[],[5000],[],[5000]⟩(.op⟨.nl 1 .done,[],[],[],[5000]⟩(.op⟨.nl 1 .done,[],[],[],[5000]⟩(.op⟨.nl 1 .done,[],[5000],[],[]⟩(.op⟨.call 2 .done,[],[],[],[]⟩(.op⟨.nl 1 .done,[],[],[],[]⟩(.op⟨.nl 1 .done,[],[],[],[]⟩(.op⟨.nl 1 .done,[],[],[],[]⟩(.op⟨.nl 1 .done,[],[5000],[],[5000]⟩(.op⟨.nl 1 .done,[],[],[],[5000]⟩(.op⟨.nl 1 .done,[5000],[],[],[5000,5003,5004,5005,5006,5007,5008,5009]⟩(.tl .done)))))))))))))))))))))))] Tryz.func50⟩
def Qxx (N:Nat):V:=⟨⟨49,⟨Qbv,[(5000,.var 90 I7),(5001,.var 102(.ag(sL [H2,B2,V7,.ag(sL [Qdh,Yd,Ou,zs7,zs7]),.ag(sL [zs3,zs3,zs3,zs7,zs7,S7]),.ag(sL [Yd,zs3,zs7,Qbw,Qmq,Qi6,Qrj]),zs3,.ag(sL [V7,zs3,Yd,zs3,Yd,.s 5008,.s 5009,zs3,zs3,zs3,.s 5010,zs3,zs3])]))),(5002,Qre),(5003,H1),(5004,B3),(5005,Ww),(5006,Hk),(5007,Fp),(5008,Ua),(5009,Ub),(5010,Uu)]⟩,[⟨Qi7,[(5001,.var 102(.ag(sL [H2,B2,V7,Aw,B1,Q2d,zs3,Jm5]))),(1,B3),(2,Ww),(3,Hk),(4,Fp),(5,Ua),(6,Ub),(7,Uu)]⟩],fun(ct,cp,cw,gw,gx,gy,gz,j9,ja,jb,jc,jd,gg,gi,gj,cy,cz,d4,d5,d6,d7,d8,d9,da,db,de,cd,cg,ci,cj,ck,cm,dj,ge,gt)=>Qgy N ct cp cw gw gx gy gz j9 ja jb jc jd gg gi gj cy cz d4 d5 d6 d7 d8 d9 da db de cd cg ci cj ck cm dj ge gt,[5000]⟩,kF N [Qfj] [] Tryz.func49⟩
def Qxy (N:Nat):V:=⟨⟨48,⟨[(0,.f 49 Qmr),(1,.p 5011 [])],[(5000,.var 90 I7),(5001,.var 102(.ag(sL [H2,B2,V7,.ag(sL [Qdh,Yd,Ou,zs7,zs7]),.ag(sL [zs3,zs3,zs3,zs7,zs7,S7]),.ag(sL [Yd,zs3,zs7,Qbw,Qmq,Qi6,Qrj]),zs3,.ag(sL [V7,zs3,Yd,zs3,Yd,.s 5008,.s 5009,zs3,zs3,zs3,.s 5010,zs3,zs3])]))),(5002,Qre),(5003,H1),(5004,B3),(5005,Ww),(5006,Hk),(5007,Fp),(5008,Ua),(5009,Ub),(5010,Uu),(5011,Qms)]⟩,[⟨[],[(5001,Jm6),(5011,Qms),(1,B3),(2,Ww),(3,Hk),(4,Fp),(5,Ua),(6,Ub),(7,Uu)]⟩],fun(ct,cp,cw,gw,gx,gy,gz,j9,ja,jb,jc,jd,gg,gi,gj,cy,cz,d4,d5,d6,d7,d8,d9,da,db,de,cd,cg,ci,cj,ck,cm,dj,ge,gt,jo)=>Qgz N ct cp cw gw gx gy gz j9 ja jb jc jd gg gi gj cy cz d4 d5 d6 d7 d8 d9 da db de cd cg ci cj ck cm dj ge gt jo,[5000]⟩,kF N [Qxx] [(3,.rg(.n 1 Qi2))] Tryz.func48⟩
def Qa3 (N:Nat):V:=⟨⟨235,(sD [.sl .str]),[Q6f],Gi N,[]⟩,kF N [] [] Tryz.func235⟩
def P8 (N:Nat):V:=⟨⟨236,Jm8,[⟨Qg9,[(1,.row 319 Kn)]⟩],Xk N,[]⟩,kF N [] [] Tryz.func236⟩
def P9 (N:Nat):V:=⟨⟨237,Jml,[⟨Qg9,[(1,Q9c)]⟩],Xl N,[]⟩,kF N [] [] Tryz.func237⟩
def Ov (N n:Nat):Con:=⟨238,Qrh,[Qrh],fun x0=>Z8 N n x0,[]⟩
theorem Tc (N:Nat):∀n,KO(Ov N n)
 | 0=>⟨F4 fun _=>rfl,I5 Tryz.func238 rfl⟩
 | n+1=>have ih:=Tc N n; kF N [fun _=>⟨_,ih⟩] [(8,.lp [1,2,7,8] [1,2]⟨[(3,S5),(9,zs3)],[(100000,Q9d)]⟩ [(.x 0,⟨[(3,Qe7)],[(100100,Q9d)]⟩)])] Tryz.func238
def Qs6 (N:Nat):V:=⟨Ov N N,Tc N N⟩
def Qrs (N:Nat):V:=⟨⟨141,Q16,[⟨[(0,Q2d)],Jhl⟩],Qah N,[]⟩,kF N [Qa3,P8,P9,Qs6] [(10,.lp [1,2,18,19] [1,2]⟨[(3,S6),(20,zs3)],Jm9⟩Jna),(21,.an(.dc 9 [24,25,26,27,28,29,30,31,32] [100000,5] [](.op⟨.nl 1 .done,[],[],[],[100000]⟩(.op⟨.nl 1 .done,[],[100000],[],[100001]⟩(.op⟨.nl 1 .done,[],[],[],[5]⟩(.op⟨.nl 1 .done,[],[5],[],[]⟩(.op⟨.nl 1 .done,[],[],[],[5]⟩(.op⟨.nl 1 .done,[],[5],[],[]⟩(.op⟨.call 0 .done,[],[],[13001],[13001]⟩(.op⟨.nl 1 .done,[],[],[],[13001]⟩(.op⟨.fz 13001(.nl 1 .done),[13001],[],[],[13001]⟩Qrf))))))))))),(27,.lp [1,2,37,38] [1,2]⟨[(3,Qk1),(39,zs3)],Jnb⟩Jnc),(38,.an(.dc 9 [43,44,45,46,47,48,49,50,51] [100200,7] [](.op⟨.nl 1 .done,[],[],[],[100200]⟩(.op⟨.nl 1 .done,[],[100200],[],[100202]⟩(.op⟨.nl 1 .done,[],[],[],[7]⟩(.op⟨.nl 1 .done,[],[7],[],[]⟩(.op⟨.nl 1 .done,[],[],[],[7]⟩(.op⟨.nl 1 .done,[],[7],[],[]⟩(.op⟨.call 1 .done,[],[],[14901],[14901]⟩(.op⟨.nl 1 .done,[],[],[],[14901]⟩(.op⟨.fz 14901(.nl 1 .done),[14901],[],[],[14901]⟩Qrf))))))))))),(44,.lp [1,2,56,57] [1,2]⟨[(3,Qve),(58,zs3)],Jnd⟩Jnf),(57,.rg(.n 3(.fz 16401 Qi5))),(63,.lp [2,74,75] [1,2]⟨[(3,.p 100600 []),(76,zs3)],Jng⟩Jni)] Tryz.func141⟩
def Q2j (N:Nat):V:=⟨⟨87,(sD [.sl J7,.str,.i]),[⟨[(0,Q2d),(1,zs7)],Jhl⟩],fun(x0,x1,x2)=>Qkw N x0 x1 x2,[]⟩,kF N [Qrs] [(8,.lp [0,1,2,6,11,12] [6]⟨[(8,zs3),(13,zs3)],[]⟩ [(.x 0,Qkz)]),(16,.jn [13] [] Jhp)] Tryz.func87⟩
def Qxz (N:Nat):V:=⟨⟨239,Qnf,[zs5],Qg0 N,[]⟩,kF N [] [(6,.lp [0,6] [] Qne Qrd)] Tryz.func239⟩
def Qni (N:Nat):V:=⟨⟨241,⟨[(0,.d V8),(1,Gr)],Jnj⟩,[zs5],fun(x0,ca)=>Pg N x0 ca,[5000]⟩,kF N [] [] Tryz.func241⟩
def Lm (N:Nat):V:=⟨⟨328,Jnk,[zs2],fun(x0,ca)=>Zn N x0 ca,[5000]⟩,kF N [Qni] [(6,.lp [0,1,7] [] Qkz Qs3),(18,.rg(.n 5(.call 0 .done)))] Tryz.func328⟩
def Cv (N:Nat):V:=⟨⟨240,Jnk,[zs5],fun(x0,ca)=>Uf N x0 ca,[5000]⟩,kF N [Lm] [] Tryz.func240⟩
def Qrt (N:Nat):V:=⟨⟨242,Jg0,[zs5],Qai N,[]⟩,kF N [] [] Tryz.func242⟩
def Qd6 (N:Nat):V:=⟨⟨143,Qnf,[zs5],Al N,[]⟩,kF N [Qrt] [(6,.lp [0,5] [] zs9 Qrd)] Tryz.func143⟩
def Qs7 (N:Nat):V:=⟨⟨142,Jmi,[⟨[(0,.m 1),(1,zs3)],[(1,Qvf)]⟩,⟨[(0,.nm),(1,zs3)],[]⟩],Qc3 N,[]⟩,kF N [Qxz,Cv,Qd6] [(16,.lp [0,15,16] []⟨[(4,Q9e),(17,zs3)],[(100000,Qvf)]⟩ [(.x 0,⟨[(4,.m 100400)],[(100400,Qvf)]⟩),(.r,⟨[(2,.nm),(3,zs3)],[]⟩)]),(57,.lp [6,17,44,45] [6]⟨[(4,Q9f),(46,zs3)],[(100100,Qvf)]⟩ [(.x 3,⟨[(4,.m 100200)],[(100200,Qvf)]⟩),(.r,⟨[(2,.nm),(3,zs3)],[]⟩)])] Tryz.func142⟩
def Qnj (N:Nat):V:=⟨⟨144,⟨[(0,.m 5000),(1,Yd),(2,zs3)],[(5000,Qvf)]⟩,[(sD [.str,.bool])],fun(x1,x2,ca)=>Ph N x1 x2 ca,[5000]⟩,kF N [] [(4,.lp [0,1] []⟨[(2,zs3)],[]⟩ [(.x 0,zs6),(.r,⟨[(6,Yd),(7,zs7)],[]⟩)])] Tryz.func144⟩
def Qjf (N:Nat):V:=⟨⟨88,(sD [.sl V8,.str]),[(sD [.str,.bool])],fun(x0,x1)=>Qaj N x0 x1,[]⟩,kF N [Qs7,Qd6,Qnj] [(4,.an(.cn 6(.two(.two(.reg(.n 3(.sp 15 4 [1,6] [] Jgs Sx Q2e .done)))(.two Jnl(.gh(.tl .done) .nil))) .nil)(.two(.two(.reg(.n 3(.sp 15 4 [1,6] [11001] Jgs Sx Q2e .done)))(.two Jnl .nil))(.two(.reg(.n 4(.call 2 Qi5))) .nil))))] Tryz.func88⟩
def Qhg (N:Nat):V:=⟨⟨52,⟨Qbv,[(5000,.var 102(.ag(sL [H2,B2,V7,Aw,B1,.ag(sL [Yd,zs3,zs7,Qrk,Ou,S7,Qbw]),zs3,Jhq]))),(5001,B3),(5002,Ww),(5003,Hk),(5004,Fp),(5005,Ua),(5006,Ub),(5007,Uu)]⟩,[⟨Qi7,[(5000,Jhr),(1,Ww),(2,Hk),(3,Fp),(4,Ua),(5,Ub),(6,Uu)]⟩],fun(cx,dg,cq,g8,g9,gk,gm,gn,du,dv,dw,dy,dz,dl,g5,dx,dq,g6,g7,ce,cd,cg,ci,cj,ck,cm)=>Cj N cx dg cq g8 g9 gk gm gn du dv dw dy dz dl g5 dx dq g6 g7 ce cd cg ci cj ck cm,[]⟩,kF N [Q2j,Qjf] [(3,.an(.dc 21 [6,7,8,9,10,11,12,13,14,15,16,17,18,19,20,21,5,22,23,3,1000000020] [5000] [](.op⟨.nl 1 .done,[],[],[],[5000]⟩(.op⟨.nl 1 .done,[],[5000],[],[5000]⟩(.op⟨.nl 1 .done,[],[],[],[5000]⟩(.op⟨.nl 1 .done,[],[],[],[5000]⟩(.op⟨.nl 1 .done,[],[5000],[],[]⟩(.op⟨.nl 1 .done,[],[],[],[5000]⟩(.op⟨.nl 1 .done,[],[5000],[],[5000]⟩(.op⟨.nl 1 .done,[],[],[],[5000]⟩(.op⟨.nl 1 .done,[],[],[],[5000]⟩(.op⟨.nl 1 .done,[],[5000],[],[]⟩(.op⟨.nl 1 .done,[],[],[],[5000]⟩(.op⟨.nl 1 .done,[],[5000],[],[5000]⟩(.op⟨.nl 1 .done,[],[],[],[5000]⟩(.op⟨.nl 1 .done,[],[],[],[5000]⟩(.op⟨.nl 1 .done,[],[5000],[],[]⟩(.op⟨.call 0 .done,[],[],[12104,12103,12102,12101],[12101,12102,12103,12104]⟩(.op⟨.nl 1 .done,[],[],[],[12101,12102,12103,12104]⟩(.op⟨.nl 1 .done,[],[],[],[12101,12102,12103,12104]⟩(.op⟨.nl 1 .done,[],[],[],[]⟩(.op⟨.nl 1 .done,[],[],[3],[3]⟩(.op⟨.nl 1 .done,[3],[12101,12102,12103,12104],[],[3,12101,12102,12103,12104]⟩Nh))))))))))))))))))))))),(15,.an(.dc 10 [30,31,32,33,34,35,36,37,38,1000000009] [3,5000] [](.op⟨.nl 1 .done,[],[],[],[5000]⟩(.op⟨.nl 1 .done,[],[],[],[5000]⟩(.op⟨.nl 1 .done,[],[],[],[3]⟩(.op⟨.nl 1 .done,[],[3],[],[]⟩(.op⟨.nl 1 .done,[],[],[],[3]⟩(.op⟨.nl 1 .done,[],[3],[],[]⟩(.op⟨.nl 1 .done,[],[5000],[],[5000]⟩(.op⟨.nl 1 .done,[],[],[],[5000]⟩(.op⟨.nl 1 .done,[],[],[],[5000]⟩(.op⟨.nl 1 .done,[5000],[],[],[5000,5005,5006,5007,12101,12102,12103,12104]⟩(.tl Qi5))))))))))))),(17,.gh(.fz 12101(.dt 5000(.dt 3 .done)))),(17,.an(.dc 16 [43,44,45,46,47,48,49,50,51,42,52,53,54,55,56,1000000015] [3,5000] [](.op⟨.nl 1 .done,[],[],[],[5000]⟩(.op⟨.nl 1 .done,[],[],[],[3]⟩(.op⟨.nl 1 .done,[],[3],[],[]⟩(.op⟨.nl 1 .done,[],[],[],[5000]⟩(.op⟨.nl 1 .done,[],[5000],[],[5000]⟩(.op⟨.nl 1 .done,[],[],[],[5000]⟩(.op⟨.nl 1 .done,[],[],[],[5000]⟩(.op⟨.nl 1 .done,[],[5000],[],[]⟩(.op⟨.call 1 .done,[],[],[],[]⟩(.op⟨.nl 1 .done,[],[],[],[]⟩(.op⟨.nl 1 .done,[],[],[],[]⟩(.op⟨.nl 1 .done,[],[],[],[]⟩(.op⟨.nl 1 .done,[],[5000],[],[5000]⟩(.op⟨.nl 1 .done,[],[],[],[5000]⟩(.op⟨.nl 1 .done,[],[],[],[5000]⟩(.op⟨.nl 1 .done,[5000],[],[],[5000,5005,5006,5007,12102,12103,12104]⟩(.tl .done)))))))))))))))))))] Tryz.func52⟩
def Qx0 (N:Nat):V:=⟨⟨51,⟨Qbv,[(5000,.var 90 I7),(5001,.var 102(.ag(sL [H2,B2,V7,Aw,B1,.ag(sL [Yd,zs3,zs7,Ou,S7,Qbw,Qmq]),zs3,.ag(sL [V7,zs3,Yd,zs3,Yd,Qi6,Qrj,zs3,zs3,zs3,.s 5008,zs3,zs3])]))),(5002,B3),(5003,Ww),(5004,Hk),(5005,Fp),(5006,Ua),(5007,Ub),(5008,Uu)]⟩,[⟨Qi7,[(5001,Jhr),(1,Ww),(2,Hk),(3,Fp),(4,Ua),(5,Ub),(6,Uu)]⟩],fun(ct,cp,cw,dh,di,gg,gi,gj,cy,cz,d4,d5,d6,d7,d8,d9,da,db,de,cd,cg,ci,cj,ck,cm,dj)=>Qg1 N ct cp cw dh di gg gi gj cy cz d4 d5 d6 d7 d8 d9 da db de cd cg ci cj ck cm dj,[5000]⟩,kF N [Qhg] [] Tryz.func51⟩
def Qnk (N:Nat):V:=⟨⟨48,⟨[(0,.f 51 Qmr),(1,.p 5009 [])],[(5000,.var 90 I7),(5001,.var 102(.ag(sL [H2,B2,V7,Aw,B1,.ag(sL [Yd,zs3,zs7,Ou,S7,Qbw,Qmq]),zs3,.ag(sL [V7,zs3,Yd,zs3,Yd,Qi6,Qrj,zs3,zs3,zs3,.s 5008,zs3,zs3])]))),(5002,B3),(5003,Ww),(5004,Hk),(5005,Fp),(5006,Ua),(5007,Ub),(5008,Uu),(5009,Qms)]⟩,[⟨[],[(5001,Jhr),(5009,Qms),(1,Ww),(2,Hk),(3,Fp),(4,Ua),(5,Ub),(6,Uu)]⟩],fun(ct,cp,cw,dh,di,gg,gi,gj,cy,cz,d4,d5,d6,d7,d8,d9,da,db,de,cd,cg,ci,cj,ck,cm,dj,ge)=>Pi N ct cp cw dh di gg gi gj cy cz d4 d5 d6 d7 d8 d9 da db de cd cg ci cj ck cm dj ge,[5000]⟩,kF N [Qx0] [(3,.rg(.n 1 Qi2))] Tryz.func48⟩
def Qjg (N:Nat):V:=⟨⟨243,Jnn,[⟨Qg9,[(1,Um)]⟩],Ij N,[]⟩,kF N [] [(8,.lp [6,7] []⟨[(3,S5),(8,zs3)],[(100000,Um)]⟩ [(.x 0,⟨[(3,Qe7)],[(100100,Um)]⟩)]),(21,.rg(.n 2(.fz 14 Q6h)))] Tryz.func243⟩
def Io (N:Nat):V:=⟨⟨145,Jg9,[Q19],Hz N,[]⟩,kF N [Qjg] [(3,.an(.dc 8 [3,4,5,6,7,8,9,10] [1] [](.op⟨.nl 1 .done,[],[],[],[1]⟩(.op⟨.nl 1 .done,[],[1],[],[]⟩(.op⟨.call 0 .done,[],[],[10501],[10501]⟩(.op⟨.nl 1 .done,[],[],[],[1]⟩(.op⟨.nl 1 .done,[],[1],[],[]⟩(.op⟨.nl 1 .done,[],[],[8],[8]⟩Jno))))))))] Tryz.func145⟩
def Qk5 (N:Nat):V:=⟨⟨146,Q86,[zs5],fun(x0,x1,x2)=>Mt N x0 x1 x2,[]⟩,kF N [] [(6,.lp [1,2,9,10] [] Jhs Jg2)] Tryz.func146⟩
def Qk6 (N:Nat):V:=⟨⟨171,(sD [.sl Vq]),[Jnp],Mu N,[]⟩,kF N [] [(8,.lp [9,10] []⟨[(3,Q9e),(11,zs3)],[(100000,Qbu)]⟩ [(.x 0,⟨[(3,.m 100200)],[(100200,Qbu)]⟩)]),(16,.jn [11] [] [(.n,⟨[(3,Q9f)],[(100100,Qbu)]⟩)])] Tryz.func171⟩
def Qru (N:Nat):V:=⟨⟨147,(sD [.sl Vq,.i]),[⟨[(0,Sy),(1,zs3)],[(1,Qbs)]⟩],fun(x0,x1)=>Qak N x0 x1,[]⟩,kF N [Qk6] [(16,.lp [0,1] [11201] Qkz [(.x 0,Qkz)]),(19,.rg(.n 5(.sp 25 8 [8] []⟨[(33,zs7)],[]⟩Qmu Qmu .done)))] Tryz.func147⟩
def Kh (N:Nat):V:=⟨⟨246,Q9g,[zs5],fun(x0,x1,x2)=>Yr N x0 x1 x2,[]⟩,kF N [] [] Tryz.func246⟩
def Ax (N:Nat):V:=⟨⟨247,zs2,[zs5],G4 N,[]⟩,kF N [] [] Tryz.func247⟩
def Ay (N:Nat):V:=⟨⟨244,(sD [Vq]),[zs2],G5 N,[]⟩,kF N [Kh,Ax] [(5,.rg(.n 2(.call 0(.n 2(.sp 8 5 [1] [1]⟨[(13,zs7)],[]⟩Fr Jgt(.n 1(.sp 14 5 [1] [1] Jgs Fr Q15 Vp))))))),(11,.rg(.n 2(.call 0(.n 2(.sp 25 5 [1] [1]⟨[(30,zs7)],[]⟩Fr Q15 Vp)))))] Tryz.func244⟩
def Ip (N:Nat):V:=⟨⟨245,Qmv,[Qmv],fun(x0,x1)=>Vd N x0 x1,[]⟩,kF N [] [] Tryz.func245⟩
def Qnl (N:Nat):V:=⟨⟨149,Qmv,[Qmv],fun(x0,x1)=>Pj N x0 x1,[]⟩,kF N [Ay,Ip,Kh,Ax] [(14,.rg(.n 1(.call 2(.n 2(.sp 19 7 [1,2,4] [2,4]⟨[(26,zs7)],[]⟩Qay(.nl 4(.call 3 Qs2)) .done)))))] Tryz.func149⟩
def Qfk (N:Nat):V:=⟨⟨148,⟨[(0,.d Vq),(1,zs3),(2,Gr)],[(5000,Q2f)]⟩,[⟨[],[(5000,Q2f)]⟩],fun(x0,x1,ca)=>Wo N x0 x1 ca,[]⟩,kF N [] [] Tryz.func148⟩
def Qrv (N:Nat):V:=⟨⟨150,Qmv,[Qmv],fun(x0,x1)=>Qal N x0 x1,[]⟩,kF N [Ay,Ip,Kh] [] Tryz.func150⟩
def Qjh (N:Nat):V:=⟨⟨89,(sD [.sl Jv,Ud,.i,.i]),[Q19],fun(x0,x1,x2,x3)=>Ik N x0 x1 x2 x3,[]⟩,kF N [Io,Qk5,Qru,Qnl,Qfk,Qrv] [(6,.rg(.n 7(.sp 24 6 [0,2,3,8,9] [5,8,9,11701,11702,11703]⟨[(30,zs7)],[]⟩Qs4 Jk5 .done))),(22,.lp [2,3,8,9,10,11,44,45] [5,8,9,11701,11702,11703,13601]⟨[(12,Qb5),(13,.f 148(sL [Qb5])),(46,zs3)],[(100100,Q2f)]⟩ [(.x 0,⟨[(12,Qve)],[(100400,Q2f)]⟩)]),(30,.jn [46] [] [(.n,⟨[(12,Qf8),(13,.f 148(sL [Qf8]))],[(100300,Q2f)]⟩)]),(35,.an(.dr 20(.n 5(.sp 54 9 [12,13,15,46] [15,100100]⟨[(63,zs7)],[]⟩Qk0 Qk0 Q14)) .done)),(45,.rg(.n 4(.call 3 Jht))),(49,.rg(.n 4(.call 5 Jht)))] Tryz.func89⟩
def Nn (N:Nat):V:=⟨⟨151,Q9h,[Jhu],Am N,[]⟩,kF N [] [] Tryz.func151⟩
def Qmx (N:Nat):V:=⟨⟨152,Q9h,[(sD [Ux])],Sd N,[]⟩,kF N [] [] Tryz.func152⟩
def Qnm (N:Nat):V:=⟨⟨153,Qvc,[zs2],fun(x0,x1)=>Pk N x0 x1,[]⟩,kF N [] [(6,.lp [1,7,8] [] Qrl Qs3)] Tryz.func153⟩
def Qd7 (N:Nat):V:=⟨⟨330,⟨[(0,Aw),(1,Gr)],[(5000,Q2g)]⟩,[zs5],fun(x0,ca)=>E6 N x0 ca,[5000]⟩,kF N [] [(6,.lp [1,7,8] [2] Qrl [(.x 0,zs6),(.r,⟨[(3,zs7)],[]⟩)])] Tryz.func330⟩
def Qd8 (N:Nat):V:=⟨⟨374,Q80,[zs5],fun(x0,x1)=>E7 N x0 x1,[]⟩,kF N [] [] Tryz.func374⟩
def Qd9 (N:Nat):V:=⟨⟨375,Q80,[Q17],fun(x0,x1)=>E8 N x0 x1,[]⟩,kF N [] [] Tryz.func375⟩
def D4 (N:Nat):V:=⟨⟨373,⟨[(0,Q9i),(1,.f 374 .nil),(2,.f 375 .nil)],[]⟩,[Qi4],Uo N,[]⟩,kF N [Qd8,Qd9] [(8,.lp [1,2,11,12] []⟨Jmw,Q8z⟩Jnq),(16,.jn [13] [] Jnr),(22,.an(.dc 10 [19,20,21,22,23,24,25,26,27,28] [100000,9] [](.op⟨.nl 1 .done,[],[],[],[]⟩(.op⟨.nl 1 .done,[],[],[],[]⟩(.op⟨.nl 1 .done,[],[],[],[]⟩(.so 21(.op⟨.nl 1 .done,[],[],[],[]⟩(.op⟨.nl 1 .done,[],[],[],[100000]⟩(.op⟨.nl 1 .done,[],[],[],[]⟩(.op⟨.nl 1 .done,[],[],[],[]⟩(.op⟨.nl 1 .done,[],[100000],[],[100000]⟩(.op⟨.nl 1 .done,[],[100000],[],[]⟩(.op⟨.nl 1 .done,[],[9],[],[]⟩(.tl Qi2))))))))Q84)))))),(24,.an(.dc 11 [31,32,33,34,35,36,37,38,39,40,41] [100000,9] [](.op⟨.nl 1 .done,[],[],[],[100000]⟩(.op⟨.nl 1 .done,[],[],[],[]⟩(.op⟨.nl 1 .done,[],[],[],[]⟩(.op⟨.nl 1 .done,[],[],[],[]⟩(.op⟨.nl 1 .done,[],[],[],[100000]⟩(.op⟨.nl 1 .done,[],[],[],[]⟩(.op⟨.nl 1 .done,[],[],[],[]⟩(.op⟨.nl 1 .done,[],[100000],[],[100000]⟩(.op⟨.nl 1 .done,[],[100000],[],[]⟩(.op⟨.nl 1 .done,[],[9],[],[]⟩(.op⟨.call 1 .done,[],[],[],[]⟩Jcg)))))))))))))] Tryz.func373⟩
def Qhh (N:Nat):V:=⟨⟨329,⟨[(0,Jmz),(1,zs3),(2,.f 330 Qmr)],[(5000,Q2g)]⟩,[Qi4],fun(x0,x1,ca)=>Ck N x0 x1 ca,[5000]⟩,kF N [Nk,Qd7,D4] [(8,.lp [2,12,13] [11201]⟨[(7,S5),(14,zs3)],Q8z⟩Jnq),(16,.jn [14] [] Jnr),(20,.rg(.n 2(.call 1 .done)))] Tryz.func329⟩
def Qhi (N:Nat):V:=⟨⟨248,(sD [.sl Jv,.i,.str]),[Qi4],fun(x0,x1,x2)=>Cl N x0 x1 x2,[]⟩,kF N [Qhh] [] Tryz.func248⟩
def Qnn (N:Nat):V:=⟨⟨249,(sD [Ue,Ue]),[zs5],fun(x0,x1)=>Pl N x0 x1,[]⟩,kF N [] [] Tryz.func249⟩
def Qji (N:Nat):V:=⟨⟨154,Qvc,[⟨Qg9,[(1,Q9j)]⟩],fun(x0,x1)=>Il N x0 x1,[]⟩,kF N [Qhi,Qnn] [(5,.rg(.br Vp)),(12,.lp [0,1,15,16] []⟨[(5,Q9e),(6,.m 100001),(7,Jk8),(17,zs3)],[(100000,Qmp),(100001,Qvg),(100002,Q9j)]⟩ [(.x 0,⟨[(7,.s 101100)],[(101100,Q9j)]⟩)]),(20,.jn [17] [] [(.n,⟨[(5,.m 101000),(6,.m 101001),(7,.s 101002)],[(101000,Qmp),(101001,Qvg),(101002,Q9j)]⟩)]),(24,.jn [6,7,9,17] [9,100001,100002] [(.n,⟨[(5,Q9f)],[(100100,Qmp)]⟩)]),(31,.jn [5,7,9,17] [9,100002,100100] [(.n,⟨[(6,.m 100300),(51,zs7)],[(100300,Qvg)]⟩)]),(31,.gh(.op(.v 9 [.f 5 5])100001 700000 .done)),(31,.rg(.n 11(.sp 43 8 [5,6,7,9,17] [100001,700000]⟨[(51,zs7)],[]⟩Qmu(.nl 3(.br(.nl 2(.br Vp))))(.cl 100001 .done)))),(36,.jn [5,7,9,17] [9,100002,100100] [(.n,⟨[(6,.m 100500)],[(100500,Qvg)]⟩)]),(37,.jn [5,7,9,17] [] [(.n,⟨[(6,.m 100400),(56,zs7)],[(100400,Qvg)]⟩)]),(37,.gh(.op(.v 9 [.f 5 5])100300 700001 .done)),(37,.rg(.n 3(.br(.n 1(.cl 100300 .done))))),(39,.rg(.n 4(.br .done))),(42,.jn [5,7,9,17] [9,100002,100100] [(.n,⟨[(6,.m 100600)],[(100600,Qvg)]⟩)]),(42,.gh(.op(.v 9 [.f 5 5])100500 700002 .done)),(42,.rg(.n 3(.br(.n 3(.cl 100500 .done))))),(44,.an(.dc 13 [67,68,69,70,71,72,73,74,75,76,77,78,10] [9] [](.op⟨.nl 1 .done,[],[],[],[]⟩(.op⟨.nl 1 .done,[],[],[],[9]⟩(.op⟨.nl 1 .done,[],[9],[],[]⟩(.op⟨.nl 1 .done,[],[],[],[9]⟩(.op⟨.nl 1 .done,[],[9],[],[]⟩(.op⟨.nl 1 .done,[],[],[],[]⟩(.op⟨.nl 1 .done,[],[],[],[9]⟩(.op⟨.nl 1 .done,[],[9],[],[]⟩(.op⟨.nl 1 .done,[],[],[],[9]⟩(.op⟨.nl 1 .done,[],[9],[],[]⟩(.op⟨.call 0 .done,[],[],[17701],[17701]⟩(.op⟨.nl 1 .done,[],[],[],[17701]⟩(.op⟨.nl 1 .done,[],[],[10],[10]⟩Nh))))))))))))))),(49,.gh(.fz 17701 .done)),(49,.lp [5,6,7,10,17] [9,10,17701,100002,100100,100600] Jhs [(.x 2,Jhs)]),(52,.jn [11] [] Jra),(52,.an(.dc 10 [79,80,81,82,83,84,85,86,87,88] [] [100002,10](.op⟨.nl 1 .done,[],[],[],[]⟩(.op⟨.nl 1 .done,[],[],[],[100002]⟩(.op⟨.nl 1 .done,[],[100002],[],[]⟩(.op⟨.nl 1 .done,[],[],[],[]⟩(.op⟨.nl 1 .done,[],[],[],[]⟩(.so 83(.op⟨.nl 1 .done,[],[],[],[100002]⟩(.op⟨.nl 1 .done,[],[],[],[]⟩(.op⟨.nl 1 .done,[],[100002],[],[100002]⟩(.op⟨.nl 1 .done,[],[100002],[],[]⟩(.op⟨.nl 1 .done,[],[10],[],[17701]⟩(.tl Jgy))))))Jmx)))))))),(59,.rg(.n 2(.fz 100002 Q6h)))] Tryz.func154⟩
def Gt (N:Nat):V:=⟨⟨251,Q80,[Jms],fun(x0,x1)=>U9 N x0 x1,[]⟩,kF N [Kw] [(6,.rg(.n 1(.call 0(.n 2(.sp 21 4 [3,4,6] [2,3,4,6] Jhv Sx(.nl 1 Jgu)Q8x)))))] Tryz.func251⟩
def Ow (N:Nat):V:=⟨⟨385,zs2,[zs2],Zt N,[]⟩,kF N [] [(7,.jn [] [] [(.n,Q6e)])] Tryz.func385⟩
def Qno (N:Nat):V:=⟨⟨403,zs2,[zs5],Pm N,[]⟩,kF N [] [] Tryz.func403⟩
def Iq (N:Nat):V:=⟨⟨386,Ni,[zs2],fun(x0,x1)=>Z9 N x0 x1,[]⟩,kF N [Qno] [(6,.rg(.n 3(.sp 9 3 [0,1,5] [5]⟨[(12,zs7)],[]⟩Jhw Jce .done)))] Tryz.func386⟩
def Qnp (N:Nat):V:=⟨⟨341,zs2,[(sD [Qew])],Pn N,[]⟩,kF N [Ow,Iq] [(14,.lp [0,2] [2]⟨[(3,S6)],[(100000,Q9k)]⟩ [(.x 0,⟨Qvb,[(100100,Q9k)]⟩)]),(27,.lp [2] [2]⟨[(0,zs3),(3,Qk1)],[(100200,Q9k)]⟩ [(.x 2,⟨[(0,zs3),(3,Qf8)],[(100300,Q9k)]⟩)])] Tryz.func341⟩
def Td (N:Nat):V:=⟨⟨268,Ni,[zs2],fun(x0,x1)=>Gj N x0 x1,[]⟩,kF N [Qnp] [(7,.jn [] [5] [(.n,zs9)])] Tryz.func268⟩
def Qjj (N:Nat):V:=⟨⟨402,Ni,[zs2],fun(x0,x1)=>Im N x0 x1,[]⟩,kF N [Iq] [] Tryz.func402⟩
def Qrw (N:Nat):V:=⟨⟨384,(sD [Qew]),[Ni],Qam N,[]⟩,kF N [Qjj,Ow,Iq] [(4,.jn [1] [1] [(.n,Q11)]),(4,.an(.dc 11 [6,7,8,9,10,11,12,13,14,15,16] [] [1](.op⟨.nl 1 .done,[],[],[],[1]⟩(.op⟨.nl 1 .done,[],[1],[],[]⟩(.op⟨.nl 1 .done,[],[],[],[]⟩(.op⟨.nl 1 .done,[],[],[],[]⟩(.so 9 Q84(.op⟨.nl 1 .done,[],[],[],[1]⟩(.op⟨.nl 1 .done,[],[1],[],[]⟩(.op⟨.nl 1 .done,[],[],[],[1]⟩(.op⟨.nl 1 .done,[],[1],[],[]⟩(.op⟨.nl 1 .done,[],[],[],[1]⟩(.op⟨.nl 1 .done,[],[1],[],[]⟩(.op⟨.call 0 .done,[],[],[],[]⟩(.tl Qs2))))))))))))))),(11,.an(.dc 5 [19,20,21,22,23] [1] [](.op⟨.nl 1 .done,[],[],[],[1]⟩(.op⟨.nl 1 .done,[],[1],[],[]⟩(.op⟨.call 1 .done,[],[],[],[]⟩Jno))))),(16,.lp [1] [1] Jg4 [(.x 0,Q6e)])] Tryz.func384⟩
def Qk7 (N:Nat):V:=⟨⟨340,Ni,[zs2],fun(x0,x1)=>Ao N x0 x1,[]⟩,kF N [Qrw] [] Tryz.func340⟩
def Lc (N:Nat):V:=⟨⟨267,Ni,[Q17],fun(x0,x1)=>Wp N x0 x1,[]⟩,kF N [Qk7] [(5,.jn [4] [4] [(.n,⟨[(5,S6)],[(100000,Jhf)]⟩)])] Tryz.func267⟩
def Oy (N:Nat):V:=⟨⟨252,(sD [.i,Q8]),[Qi4],fun(x0,x1)=>Ed N x0 x1,[]⟩,kF N [Td,Lc] [(16,.lp [0,3] [3]⟨[(5,S5),(6,zs3)],Q8z⟩ [(.x 0,⟨[(5,Qe7)],[(100100,Dz)]⟩)])] Tryz.func252⟩
def Qea (N:Nat):V:=⟨⟨250,⟨[(0,Qdh),(1,Gr),(2,I7),(3,.p 5003 [])],[(5000,Ot),(5001,.var 242 Ou),(5002,Dz),(5003,Ot)]⟩,[⟨[],[(5001,.var 242 Sy),(1,Dz)]⟩],fun(x0,ca,cd,cg)=>E9 N x0 ca cd cg,[5000,5003]⟩,kF N [Gt,Oy] [(7,.an(.dc 4 [16,17,18,19] [5001,5] [5003](.op⟨.nl 1 .done,[],[5001],[],[5002]⟩(.op⟨.nl 1 .done,[],[5003],[],[]⟩(.op⟨.nl 1 .done,[],[5],[],[]⟩(.op⟨.call 1 .done,[],[],[11901],[11901]⟩Jcg))))))] Tryz.func250⟩
def Qeb (N:Nat):V:=⟨⟨376,Jns,[Jnt],fun(x0,x1,ce)=>Fa N x0 x1 ce,[]⟩,kF N [Kw] [(3,.lp [1,7,8] []⟨[(2,Gr),(9,zs3)],[(5000,.var 413 Qrg),(100001,Qmw)]⟩ [(.x 0,⟨[],[(5000,.var 413 Q13),(100201,Qmw)]⟩)]),(11,.jn [9] [] [(.n,⟨[(2,Gr)],[(5000,.var 413 Qdg),(100101,Qmw)]⟩)])] Tryz.func376⟩
def Te (N:Nat):V:=⟨⟨376,Jns,[Jnt],fun(x0,x1,ce)=>Wa N x0 x1 ce,[]⟩,kF N [Kw] [(3,.lp [1,7,8] []⟨[(2,Gr),(9,zs3)],[(5000,.var 413 Qrg),(100001,Qmw)]⟩ [(.x 0,⟨[],[(5000,.var 413 Q13),(100201,Qmw)]⟩)]),(11,.jn [9] [] [(.n,⟨[(2,Gr)],[(5000,.var 413 Qdg),(100101,Qmw)]⟩)])] Tryz.func376⟩
def Qhj (N:Nat):V:=⟨⟨332,(sD [.bool,.bool]),[zs5],fun(x0,x1)=>Cm N x0 x1,[]⟩,kF N [] [] Tryz.func332⟩
def Qhk (N:Nat):V:=⟨⟨331,⟨[(0,Q9i),(1,Q9i),(2,.f 332 .nil)],[]⟩,[Qi4],fun(x0,x1)=>Cn N x0 x1,[]⟩,kF N [Qeb,Te,fun _=>⟨_,Gq⟩,Qhj] [(7,.rg(.n 2(.call 0 .done))),(9,.rg(.n 2(.call 1 .done))),(22,.lp [2,7,24,25] [7,12101]⟨[(9,S5),(10,Q2a),(11,zs7),(26,zs3)],[(100000,Dz),(100001,Q9l)]⟩ [(.x 0,⟨[(9,Qri)],Jg8⟩)]),(30,.jn [26] [] [(.n,⟨[(9,Qmn),(10,Jhb),(11,zs7)],[(100300,Dz),(100301,Q9l)]⟩)]),(34,.an(.dr 8 Qi3 Vp)),(37,.an(.dr 16(.n 6(.sp 44 10 [9,10,11,12,13,26] [13,100000,100001]⟨[(54,zs7)],[]⟩Q83 Q83 .done)) .done)),(42,.rg(.n 7(.call 3 Vp))),(44,.jn [10,14,26] [13,100001] [(.n,⟨[(9,Qi1)],[(100200,Dz)]⟩)])] Tryz.func331⟩
def Qk8 (N:Nat):V:=⟨⟨253,(sD [.sl Q8]),[Qi4],Mz N,[]⟩,kF N [Qhk] [] Tryz.func253⟩
def Qnq (N:Nat):V:=⟨⟨155,(sD [.sl Ue,.i,.i]),[Qi4],fun(x0,x1,x2)=>Po N x0 x1 x2,[]⟩,kF N [Qea,Qk8,Oy] [(10,.lp [17,18] []⟨[(4,S6),(7,Q2a),(8,.f 250(sL [.p 100002 [],Q2a,S6])),(19,zs3)],[(100000,Ot),(100001,.var 242 Jpw),(100002,Ot),(100003,Dz)]⟩ [(.x 0,⟨[(4,Qf8),(7,Jhb)],[(100300,Ot),(100301,.var 242 Jhk),(100302,Dz)]⟩)]),(24,.lp [19,24,25] [10]⟨[(4,Qb5),(7,Jpu),(8,.f 250(sL [.p 100102 [],Jpu,Qb5])),(26,zs3)],[(100100,Ot),(100101,.var 242 Jgx),(100102,Ot),(100103,Dz)]⟩ [(.x 2,⟨[(4,Qk1),(7,Jhe),(8,.f 250(sL [.p 100202 [],Jhe,Qk1]))],[(100200,Ot),(100201,.var 242 Jpv),(100202,Ot),(100203,Dz)]⟩)]),(35,.rg(.n 2(.call 0 .done))),(44,.lp [4,36,37] [13601,100300,100301,100302]⟨[(13,Qri),(38,zs3)],Jg8⟩ [(.x 4,⟨[(13,Q8y)],[(100500,Dz)]⟩)])] Tryz.func155⟩
def Qrx (N:Nat):V:=⟨⟨334,⟨[(0,.d Yp),(1,Gr),(2,I7)],Jnu⟩,[zs5],fun(x0,ca,ce)=>Qan N x0 ca ce,[5000,5001]⟩,kF N [] [] Tryz.func334⟩
def Ir (N:Nat):V:=⟨⟨333,⟨[(0,.d(.sl Yp)),(1,.f 334(sL [Gr,I7]))],Jnu⟩,[⟨Qg9,[(1,Qi8)]⟩],fun(x0,ca,ce)=>Za N x0 ca ce,[5000,5001]⟩,kF N [Qrx] [(8,.lp [1,8,9] []⟨Jha,[(100000,Qi8)]⟩ [(.x 0,⟨Jk6,[(100200,Qi8)]⟩)]),(16,.jn [10] [] [(.n,⟨[(5,Qe7)],[(100100,Qi8)]⟩)]),(20,.rg(.n 2(.call 0 .done)))] Tryz.func333⟩
def Qnr (N:Nat):V:=⟨⟨335,Jrc,[⟨[(0,.ag(sL [Yd,zs3,zs3,Yd,zs7,Sy]))],[(1,Qvh)]⟩],Pp N,[]⟩,kF N [] [(8,.lp [1,2,7,8] [1,2]⟨[(3,S5),(9,zs3)],[(100000,Qvh)]⟩ [(.x 0,⟨[(3,Qe7)],[(100100,Qvh)]⟩)]),(21,.rg(.n 2(.fz 15 Q6h)))] Tryz.func335⟩
def Qx1 (N:Nat):V:=⟨⟨254,(sD [.sl Yp,.str,.i]),[⟨[(0,.ag(sL [Yd,zs3,zs3,Yd,zs7,Sy])),(1,zs7)],[(1,Qvh)]⟩],fun(x0,x1,x2)=>Qg2 N x0 x1 x2,[]⟩,kF N [Ir,Qnr] [] Tryz.func254⟩
def Qa4 (N:Nat):V:=⟨⟨156,(sD [Ue,.sl Yp,Q8]),[⟨Qg9,[(1,Q9m)]⟩],fun(x0,x1,x2)=>Gk N x0 x1 x2,[]⟩,kF N [Gt,Qx1] [(6,.lp [1,3,5,18,19] [3,5]⟨[(20,zs3)],[]⟩ [(.x 0,zs6),(.r,⟨[(6,Qri)],[(100400,Q9m)]⟩)]),(33,.lp [9,42,43] [8,9,11,13801]⟨[(13,Qe7),(44,zs3)],[(100100,Q9m)]⟩ [(.x 2,⟨[(13,Qi1)],[(100200,Q9m)]⟩)])] Tryz.func156⟩
def Oz (N:Nat):V:=⟨⟨255,Q9n,[zs5],fun(x0,x1)=>Ee N x0 x1,[]⟩,kF N [] [] Tryz.func255⟩
def Qry (N:Nat):V:=⟨⟨256,(sD [Yo,Yo,.i]),[Jhu],fun(x0,x1,x2)=>Qao N x0 x1 x2,[]⟩,kF N [Nn,Oz] [(5,.jn [6] [3,4,6] [(.n,⟨[(7,S6)],[(100000,.var 68(.ag(sL [zs3,zs3,Yd,zs3,zs3,Qrg,Qdh,zs3,zs3,zs3,zs7]))),(100001,Qre)]⟩)])] Tryz.func256⟩
def Qns (N:Nat):V:=⟨⟨257,Q9n,[zs5],fun(x0,x1)=>Pq N x0 x1,[]⟩,kF N [] [] Tryz.func257⟩
def Qhl (N:Nat):V:=⟨⟨157,⟨[(0,Gr),(1,.d H9)],[(5000,.var 234(.ag(sL [Qrk,Qvd]))),(5001,Um),(5002,Qbx)]⟩,[⟨[],[(5000,.var 234(.ag(sL [Sy,Qvd]))),(5002,Qbx),(1,Um)]⟩],fun(x1,ce,cd)=>Co N x1 ce cd,[]⟩,kF N [Qmx,Nn,Oz,Qry,Qns] [(4,.an(.dc 7 [9,10,11,12,13,14,15] [5000,3] [](.op⟨.nl 1 .done,[],[],[],[5000]⟩(.op⟨.nl 1 .done,[],[5000],[],[5000]⟩(.op⟨.nl 1 .done,[],[],[],[5000]⟩(.op⟨.nl 1 .done,[],[5000],[],[5002]⟩(.op⟨.nl 1 .done,[],[],[],[3]⟩(.op⟨.nl 1 .done,[],[3],[],[]⟩Jnv)))))))),(14,.gh(.fz 11901 .done)),(14,.lp [0,3,23,24] [3,5000,5001,5002]⟨[(4,S6),(25,zs3)],[(100000,.var 68(.ag(sL [zs3,zs3,Yd,zs3,zs3,Qrg,Qdh,zs3,zs3,zs3,zs7]))),(100001,.tail 9 .str)]⟩ [(.x 0,⟨[(4,Qb5)],[(100100,.var 68(.ag(sL [zs3,zs3,Yd,zs3,zs3,Qdg,Qdh,zs3,zs3,zs3,zs7]))),(100101,.tail 9 .str)]⟩)]),(37,.lp [0,4] [3,5000,5001,5002,100100,100101] Qne [(.x 2,Qne)]),(40,.jn [7] [] [(.n,Jpn)]),(40,.an(.dc 16 [38,39,40,41,42,43,44,45,46,47,48,49,50,51,52,53] [] [5000,5001,100100](.op⟨.nl 1 .done,[],[],[],[]⟩(.op⟨.nl 1 .done,[],[],[],[5000]⟩(.op⟨.nl 1 .done,[],[5000],[],[5000]⟩(.op⟨.nl 1 .done,[],[],[],[5000]⟩(.op⟨.nl 1 .done,[],[5000],[],[5001]⟩(.op⟨.nl 1 .done,[],[5001],[],[]⟩(.op⟨.nl 1 .done,[],[],[],[]⟩(.op⟨.nl 1 .done,[],[],[],[]⟩(.so 45(.op⟨.nl 1 .done,[],[],[],[5000]⟩(.op⟨.nl 1 .done,[],[5000],[],[5000]⟩(.op⟨.nl 1 .done,[],[],[],[5000]⟩(.op⟨.nl 1 .done,[],[5000],[],[5001]⟩(.op⟨.nl 1 .done,[],[],[],[]⟩(.op⟨.nl 1 .done,[],[5001],[],[5001]⟩(.op⟨.nl 1 .done,[],[5001],[],[]⟩(.op⟨.nl 1 .done,[],[100100],[],[100101]⟩(.tl(.call 4 Vp))))))))))(.op⟨.nl 1 .done,[],[],[],[]⟩Q84)))))))))))),(47,.rg(.n 5(.fz 5001 Q6h))),(52,.gh(.dt 100100 .done)),(52,.an(.dc 6 [80,81,82,83,84,85] [5000,100100] [](.op⟨.nl 1 .done,[],[],[],[5000]⟩(.op⟨.nl 1 .done,[],[5000],[],[5000]⟩(.op⟨.nl 1 .done,[],[],[],[5000]⟩(.op⟨.nl 1 .done,[],[5000],[],[5002]⟩(.op⟨.nl 1 .done,[],[100100],[],[]⟩Jnv)))))))] Tryz.func157⟩
def Qk9 (N:Nat):V:=⟨⟨90,(sD [.sl Jv,.sl Yp,Ud,.i,.i]),[Q19],fun(x0,x1,x2,x3,x4)=>M2 N x0 x1 x2 x3 x4,[]⟩,kF N [Nn,Qmx,Qnm,Qji,Qnq,Qa4,Qhl] [(8,.lp [0,1,3,4,7,10,27,28] [7,10]⟨[(11,S6),(29,zs3)],[(100000,.var 234(.ag(sL [Qrg,.m 100002]))),(100001,Um),(100002,Qbx)]⟩ [(.x 0,⟨[(11,Qb5)],[(100100,.var 234(.ag(sL [Qdg,.m 100102]))),(100101,Um),(100102,Qbx)]⟩)]),(20,.an(.dc 9 [33,34,35,36,37,38,39,40,41] [100000,13,100001] [](.op⟨.nl 1 .done,[],[],[],[100000]⟩(.op⟨.nl 1 .done,[],[],[],[100000]⟩(.op⟨.nl 1 .done,[],[100000],[],[100000]⟩(.op⟨.nl 1 .done,[],[],[],[100000]⟩(.op⟨.nl 1 .done,[],[100000],[],[100001]⟩(.op⟨.nl 1 .done,[],[13],[],[]⟩(.op⟨.call 0 .done,[],[],[13901],[13901]⟩(.op⟨.fz 13901(.nl 1 .done),[13901],[],[],[13901]⟩(.op⟨.nl 1 .done,[100001],[],[41],[41]⟩Qrf))))))))))),(21,.an(.dc 6 [44,45,46,47,48,49] [100000,13] [](.op⟨.nl 1 .done,[],[],[],[100000]⟩(.op⟨.nl 1 .done,[],[100000],[],[100000]⟩(.op⟨.nl 1 .done,[],[],[],[100000]⟩(.op⟨.nl 1 .done,[],[100000],[],[100002]⟩(.op⟨.nl 1 .done,[],[13],[],[]⟩(.op⟨.call 1 .done,[],[],[],[]⟩Nh)))))))),(24,.an(.dc 8 [51,52,53,54,55,56,57,14] [7] [](.op⟨.nl 1 .done,[],[],[],[7]⟩(.op⟨.nl 1 .done,[],[7],[],[]⟩(.op⟨.nl 1 .done,[],[],[53],[53]⟩(.op⟨.nl 1 .done,[],[],[],[7]⟩(.op⟨.nl 1 .done,[],[7],[],[]⟩(.op⟨.nl 1 .done,[],[],[56],[56]⟩(.op⟨.nl 1 .done,[],[],[],[53,56]⟩(.op⟨.nl 1 .done,[],[],[14],[14]⟩Nh)))))))))),(28,.jn [10,14] [7,10,14,53,56] [(.n,⟨[(11,.p 100900 [])],[(100900,.var 234(.ag(sL [.s 100901,.m 100902]))),(100901,Um),(100902,Qbx)]⟩)]),(36,.lp [1,4,10,14,16,77,78] [17301,17701]⟨[(11,Qk1),(79,zs3)],[(100200,.var 234(.ag(sL [Q13,.m 100202]))),(100201,Um),(100202,Qbx)]⟩ [(.x 2,⟨[(11,.p 100800 [])],[(100800,.var 234(.ag(sL [.s 100801,.m 100802]))),(100801,Um),(100802,Qbx)]⟩)]),(50,.lp [18,79,83,84] [18]⟨[(11,Qf8),(85,zs3)],[(100300,.var 234(.ag(sL [Q2c,.m 100302]))),(100301,Um),(100302,Qbx)]⟩ [(.x 4,⟨[(11,.p 100700 [])],[(100700,.var 234(.ag(sL [Jho,.m 100702]))),(100701,Um),(100702,Qbx)]⟩)]),(64,.lp [85,92,93] [20,19201]⟨[(11,Qve),(94,zs3)],[(100400,.var 234(.ag(sL [Q9b,.m 100402]))),(100401,Um),(100402,Qbx)]⟩ [(.x 6,⟨[(11,.p 100600 [])],[(100600,.var 234(.ag(sL [Jhn,.m 100602]))),(100601,Um),(100602,Qbx)]⟩)]),(72,.jn [94] [] [(.n,⟨[(11,.p 100500 [])],[(100500,.var 234(.ag(sL [Jhm,.m 100502]))),(100501,Um),(100502,Qbx)]⟩)])] Tryz.func90⟩
def Qrz (N:Nat):V:=⟨⟨336,Q9h,[Jhu],Qap N,[]⟩,kF N [] [] Tryz.func336⟩
def Qnt (N:Nat):V:=⟨⟨258,Jnn,[⟨Qg9,[(1,Um)]⟩],Pr N,[]⟩,kF N [Qrz] [(8,.lp [6,7] []⟨[(3,S5),(8,zs3)],[(100000,Um)]⟩ [(.x 0,⟨[(3,Qe7)],[(100100,Um)]⟩)]),(19,.rg(.n 2(.call 0(.fz 11401 Q6h))))] Tryz.func258⟩
def Qla (N:Nat):V:=⟨⟨379,Ni,[zs2],fun(x0,x1)=>Kt N x0 x1,[]⟩,kF N [] [] Tryz.func379⟩
def Qlb (N:Nat):V:=⟨⟨337,Q9n,[zs5],fun(x0,x1)=>M3 N x0 x1,[]⟩,kF N [Qla] [] Tryz.func337⟩
def Ld (N n:Nat):Con:=⟨259,(sD [.sl Yo,.i,.i]),[(sD [.sl .i])],fun(x0,x1,x2)=>Ug N n x0 x1 x2,[]⟩
theorem No (N:Nat):∀n,KO(Ld N n)
 | 0=>⟨F4 fun _=>rfl,I5 Tryz.func259 rfl⟩
 | n+1=>have ih:=No N n; kF N [fun _=>⟨_,ih⟩,Qlb] [(12,.lp [2] [] Jmn [(.x 0,⟨[(7,Qe7)],[(100100,H1)]⟩)]),(37,.lp [0,10,11] []⟨[(12,Qi1),(13,zs3),(14,zs3)],Jg7⟩ [(.x 2,⟨[(12,Qri)],Jg6⟩)]),(46,.jn [12,13,14] [100200] [(.n,⟨[(85,zs7)],[]⟩)]),(46,.an(.dc 24 [58,59,60,61,62,63,64,65,66,67,68,69,70,71,72,73,74,75,76,77,78,79,80,81] [] [](.op⟨.nl 1 .done,[],[],[],[]⟩(.op⟨.nl 1 .done,[],[],[],[]⟩(.op⟨.nl 1 .done,[],[],[],[]⟩(.op⟨.nl 1 .done,[],[],[],[]⟩(.op⟨.nl 1 .done,[],[],[],[]⟩(.so 62(.op⟨.nl 1 .done,[],[],[],[]⟩(.op⟨.nl 1 .done,[],[],[],[]⟩(.op⟨.nl 1 .done,[],[],[],[]⟩(.op⟨.nl 1 .done,[],[],[],[]⟩(.op⟨.nl 1 .done,[],[],[],[]⟩Jnw)))))(.op⟨.nl 1 .done,[],[],[],[]⟩(.op⟨.nl 1 .done,[],[],[],[]⟩(.op⟨.nl 1 .done,[],[],[],[]⟩(.op⟨.nl 1 .done,[],[],[],[]⟩(.op⟨.nl 1 .done,[],[],[],[]⟩(.so 67(.op⟨.nl 1 .done,[],[],[],[]⟩(.op⟨.nl 1 .done,[],[],[],[]⟩(.op⟨.nl 1 .done,[],[],[],[]⟩(.op⟨.nl 1 .done,[],[],[],[]⟩(.op⟨.nl 1 .done,[],[],[],[]⟩(.op⟨.nl 1 .done,[],[],[],[]⟩(.op⟨.nl 1 .done,[],[],[],[]⟩(.op⟨.nl 1 .done,[],[],[],[]⟩(.op⟨.nl 1 .done,[],[],[],[]⟩(.op⟨.nl 1 .done,[],[],[],[]⟩(.op⟨.nl 1 .done,[],[],[],[]⟩(.op⟨.nl 1 .done,[],[],[],[]⟩(.op⟨.nl 1 .done,[],[],[],[]⟩(.op⟨.nl 1 .done,[],[],[],[]⟩(.tl(.call 1 Jce))))))))))))))))Jnw))))))))))))))] Tryz.func259
def Qnu (N:Nat):V:=⟨Ld N N,No N N⟩
def Qnv (N:Nat):V:=⟨⟨260,(sD [Yo,.i,.i,.i,.str,.bool,.i]),[zs5],fun(x0,x1,x2,x3,x4,x5,x6)=>Ps N x0 x1 x2 x3 x4 x5 x6,[]⟩,kF N [Lb] [(4,.rg(.n 10(.sp 26 6 [1,2,4,5,6,7] [7]⟨[(32,zs7)],[]⟩Qs4(.nl 3 Jgu) .done))),(22,.lp [4,7,53,54] [7]⟨[(55,zs3)],[]⟩ [(.x 0,zs6),(.r,⟨[(14,zs7)],[]⟩)])] Tryz.func260⟩
def Q2k (N:Nat):V:=⟨⟨261,Q9h,[(sD [Sa])],Qkx N,[]⟩,kF N [] [] Tryz.func261⟩
def Qs8 (N:Nat):V:=⟨⟨158,(sD [.sl Yo,.i,.i,.i,.str,.bool,.i,.i]),[⟨[(0,Sy),(1,Q12),(2,zs3)],[(1,Um),(2,Ua)]⟩],fun(x0,x1,x2,x3,x4,x5,x6,x7)=>Qc5 N x0 x1 x2 x3 x4 x5 x6 x7,[]⟩,kF N [Qnt,Qnu,Qnv,Q2k] [(12,.lp [0,1,2,3,4,5,6,32,33] []⟨[(7,zs3),(19,S5),(20,Qrg),(34,zs3)],[(100000,Um),(100001,Ua)]⟩ [(.x 0,⟨[(7,zs3),(19,Qmn),(20,Q2c)],[(100300,Um),(100301,Ua)]⟩)]),(20,.jn [34] [] [(.n,⟨[(7,zs3),(19,Qi1),(20,Q13)],[(100200,Um),(100201,Ua)]⟩),(.x 0,⟨[(7,zs3),(19,Qe7),(20,Qdg)],[(100100,Um),(100101,Ua)]⟩)])] Tryz.func158⟩
def Qnw (N:Nat):V:=⟨⟨91,(sD [Ud,J2,.str,.bool]),[⟨[(0,Jcf),(1,.s 4),(2,zs3)],[(1,Um),(2,Qbs),(3,Qbt),(4,Ua)]⟩],fun(x0,x1,x2,x3)=>Pt N x0 x1 x2 x3,[]⟩,kF N [Io,Qs8] [] Tryz.func91⟩
def Qlc (N:Nat):V:=⟨⟨54,⟨Qbv,[(5000,.var 102(.ag(sL [H2,B2,V7,Aw,B1,.ag(sL [Yd,zs3,zs7,Qmt,Qrk,Ou,S7]),zs3,.ag(sL [V7,zs3,Yd,zs3,Yd,Qbw,Qmq,zs3,zs3,zs3,Qi6,zs3,zs3])]))),(5001,Ww),(5002,Hk),(5003,Fp),(5004,Ua),(5005,Ub),(5006,Uu)]⟩,[⟨[],[(5000,.var 102(.ag(sL [H2,Jcf,V7,Aw,B1,.ag(sL [Yd,zs3,zs7,Qmt,.s 4,.s 5,.s 6]),zs3,.ag(sL [V7,zs3,Yd,zs3,Yd,.s 7,.s 8,zs3,zs3,zs3,.s 9,zs3,zs3])]))),(1,Um),(2,Qbs),(3,Qbt),(4,Ww),(5,Hk),(6,Fp),(7,Ua),(8,Ub),(9,Uu)]⟩],fun(cx,dg,cq,g8,g9,gk,gm,gn,gq,du,dv,dw,dy,dz,dl,g5,dx,dq,g6,g7,ce,cd,cg,ci,cj,ck)=>M4 N cx dg cq g8 g9 gk gm gn gq du dv dw dy dz dl g5 dx dq g6 g7 ce cd cg ci cj ck,[5004]⟩,kF N [Qjh,Qk9,Qnw] [(1,.an(.dc 21 [5,6,7,8,9,10,11,12,13,14,15,16,17,18,19,20,21,22,23,24,2] [5000] [](.op⟨.nl 1 .done,[],[],[],[5000]⟩(.op⟨.nl 1 .done,[],[5000],[],[5000]⟩(.op⟨.nl 1 .done,[],[],[],[5000]⟩(.op⟨.nl 1 .done,[],[],[],[5000]⟩(.op⟨.nl 1 .done,[],[5000],[],[]⟩(.op⟨.nl 1 .done,[],[],[],[5000]⟩(.op⟨.nl 1 .done,[],[5000],[],[5000]⟩(.op⟨.nl 1 .done,[],[],[],[5000]⟩(.op⟨.nl 1 .done,[],[5000],[],[]⟩(.op⟨.nl 1 .done,[],[],[],[5000]⟩(.op⟨.nl 1 .done,[],[5000],[],[5000]⟩(.op⟨.nl 1 .done,[],[],[],[5000]⟩(.op⟨.nl 1 .done,[],[],[],[5000]⟩(.op⟨.nl 1 .done,[],[5000],[],[]⟩(.op⟨.nl 1 .done,[],[],[],[5000]⟩(.op⟨.nl 1 .done,[],[5000],[],[5000]⟩(.op⟨.nl 1 .done,[],[],[],[5000]⟩(.op⟨.nl 1 .done,[],[],[],[5000]⟩(.op⟨.nl 1 .done,[],[5000],[],[]⟩(.op⟨.call 0 .done,[],[],[12403,12402,12401],[12401,12402,12403]⟩(.op⟨.nl 1 .done,[],[],[2],[2]⟩Nh))))))))))))))))))))))),(3,.an(.dr 21(.n 21 .done)Jgy)),(5,.gh(.fz 14601(.dt 2(.fz 14602(.dt 2(.fz 14603(.dt 2 .done))))))),(5,.an(.dc 22 [48,49,50,51,52,53,54,55,56,57,58,59,60,61,62,63,47,64,65,66,1000000020,3] [2,5000] [](.op⟨.nl 1 .done,[],[2],[],[]⟩(.op⟨.nl 1 .done,[],[],[],[5000]⟩(.op⟨.nl 1 .done,[],[5000],[],[5000]⟩(.op⟨.nl 1 .done,[],[],[],[5000]⟩(.op⟨.nl 1 .done,[],[5000],[],[]⟩(.op⟨.nl 1 .done,[],[],[],[5000]⟩(.op⟨.nl 1 .done,[],[5000],[],[5000]⟩(.op⟨.nl 1 .done,[],[],[],[5000]⟩(.op⟨.nl 1 .done,[],[],[],[5000]⟩(.op⟨.nl 1 .done,[],[5000],[],[]⟩(.op⟨.nl 1 .done,[],[],[],[5000]⟩(.op⟨.nl 1 .done,[],[5000],[],[5000]⟩(.op⟨.nl 1 .done,[],[],[],[5000]⟩(.op⟨.nl 1 .done,[],[],[],[5000]⟩(.op⟨.nl 1 .done,[],[5000],[],[]⟩(.op⟨.call 2 .done,[],[],[16304,16303,16302,16301],[16301,16302,16303,16304]⟩(.op⟨.nl 1 .done,[],[],[],[16301,16302,16303,16304]⟩(.op⟨.nl 1 .done,[],[],[],[16301,16302,16303]⟩(.op⟨.nl 1 .done,[],[],[],[16304]⟩(.op⟨.nl 1 .done,[],[],[],[]⟩(.op⟨.nl 1 .done,[2],[16301,16302,16303],[],[2,16301,16302,16303]⟩(.op⟨.nl 1 .done,[],[],[],[16304]⟩Nh))))))))))))))))))))))))] Tryz.func54⟩
def Qld (N:Nat):V:=⟨⟨262,(sD [J2,.i]),[zs5],fun(x0,x1)=>M5 N x0 x1,[]⟩,kF N [] [] Tryz.func262⟩
def Qx2 (N:Nat):V:=⟨⟨269,Qnf,[zs5],Qg3 N,[]⟩,kF N [] [(6,.lp [0,6] [] Qne Qrd)] Tryz.func269⟩
def Qnx (N:Nat):V:=⟨⟨271,⟨[(0,.d Vv),(1,Gr)],Jnx⟩,[zs5],fun(x0,ca)=>Pu N x0 ca,[5000]⟩,kF N [] [] Tryz.func271⟩
def Ln (N:Nat):V:=⟨⟨342,Jnz,[zs2],fun(x0,ca)=>Zo N x0 ca,[5000]⟩,kF N [Qnx] [(6,.lp [0,1,7] [] Qkz Qs3),(18,.rg(.n 5(.call 0 .done)))] Tryz.func342⟩
def Cw (N:Nat):V:=⟨⟨270,Jnz,[zs5],fun(x0,ca)=>Uh N x0 ca,[5000]⟩,kF N [Ln] [] Tryz.func270⟩
def Qs9 (N:Nat):V:=⟨⟨272,Jm8,[zs2],Qc7 N,[]⟩,kF N [] [(22,.lp [11,12] []⟨[(13,zs3)],[]⟩Qng)] Tryz.func272⟩
def Ra (N:Nat):V:=⟨⟨164,Jmj,[zs2],Dr N,[]⟩,kF N [Qx2,Cw,Qs9] [(22,.lp [0,12,13] []⟨[(14,zs3)],[]⟩Qng),(30,.jn [14] [] [(.n,zs6),(.r,⟨[(2,zs3)],[]⟩)])] Tryz.func164⟩
def Qhm (N:Nat):V:=⟨⟨344,Q18,[zs2],fun(x0,x1)=>Cq N x0 x1,[]⟩,kF N [] [(6,.lp [0,1,7] [] Qkz Qs3)] Tryz.func344⟩
def Qcd (N:Nat):V:=⟨⟨275,Q18,[zs5],fun(x0,x1)=>Hu N x0 x1,[]⟩,kF N [Qhm] [] Tryz.func275⟩
def Np (N:Nat):V:=⟨⟨170,zs2,[zs2],G6 N,[]⟩,kF N [] [] Tryz.func170⟩
def Qmy (N:Nat):V:=⟨⟨166,Q18,[zs2],fun(x0,x1)=>Qex N x0 x1,[]⟩,kF N [Qcd,Np] [] Tryz.func166⟩
def Qr0 (N:Nat):V:=⟨⟨273,⟨[(0,.d Kn),(1,Gr),(2,I7)],Jn0⟩,[zs5],fun(x0,ca,ce)=>Qaq N x0 ca ce,[5000,5001]⟩,kF N [] [] Tryz.func273⟩
def Lo (N:Nat):V:=⟨⟨343,Jn1,[zs2],fun(x0,ca,ce)=>Zp N x0 ca ce,[5000,5001]⟩,kF N [Qr0] [(6,.lp [0,1,7] [] Qkz Qs3),(18,.rg(.n 5(.call 0 .done)))] Tryz.func343⟩
def Cy (N:Nat):V:=⟨⟨274,Jn1,[zs5],fun(x0,ca,ce)=>Ui N x0 ca ce,[5000,5001]⟩,kF N [Lo] [] Tryz.func274⟩
def Qjk (N:Nat):V:=⟨⟨165,(sD [.sl Vv,.i,.i]),[Qnf],fun(x0,x1,x2)=>Qar N x0 x1 x2,[]⟩,kF N [Cy] [(8,.lp [0,7,11,12] [4,5]⟨[(13,zs3)],[]⟩ [(.x 0,zs6),(.r,⟨[(6,Yd)],[]⟩)])] Tryz.func165⟩
def Qr1 (N:Nat):V:=⟨⟨95,(sD [.sl Vv,.sl .i,.i]),[Qnf],fun(x0,x1,x2)=>Qiw N x0 x1 x2,[]⟩,kF N [Ra,Qmy,Qjk] [] Tryz.func95⟩
def Qr2 (N:Nat):V:=⟨⟨338,(sD [.sl Vv,.i]),[Jg5],fun(x0,x1)=>Qas N x0 x1,[]⟩,kF N [fun _=>⟨_,Qg8⟩,fun _=>⟨_,Qb4⟩,fun _=>⟨_,In⟩] [(3,.rg(.br Vp)),(8,.lp [1,11,12] []⟨[(5,S5),(13,zs3)],Jg3⟩ [(.x 0,⟨[(5,Qri)],Jg6⟩)]),(22,.lp [13,18,19] [7]⟨[(5,Qe7),(20,zs3)],[(100100,H1)]⟩ [(.x 2,⟨[(5,Qmn)],[(100300,H1)]⟩)]),(30,.jn [20] [] [(.n,⟨Jk6,Jg7⟩)]),(36,.rg(.n 5(.br Q6i)))] Tryz.func338⟩
def Q2l (N:Nat):V:=⟨⟨263,(sD [.sl Vv,.sl .i,Q8]),[⟨Qg9,[(1,Qvi)]⟩],fun(x0,x1,x2)=>Qky N x0 x1 x2,[]⟩,kF N [Ra,Kw,Qmy,Qr2,Gt,Qjk] [(4,.rg(.n 1(.call 0(.n 2(.sp 21 4 [0,1,5] [5] Jhv Sx Q2e Qi3))))),(16,.lp [0,1,5] [5]⟨[(7,Qe7),(8,zs3)],[(100100,Qvi)]⟩ [(.x 0,⟨[(7,.s 100700)],[(100700,Qvi)]⟩)]),(32,.lp [8,9,10,51,52] [15001]⟨[(7,Qi1),(53,zs3)],[(100200,Qvi)]⟩ [(.x 2,⟨[(7,.s 100600)],[(100600,Qvi)]⟩)]),(40,.jn [53] [] [(.n,⟨[(7,Q8y)],[(100500,Qvi)]⟩)]),(46,.jn [7,12,53] [100200] [(.n,⟨[(13,Qf8)],[(100300,Jhf)]⟩)]),(60,.an(.dc 7 [90,91,92,93,94,95,16] [14] [](.op⟨.nl 1 .done,[],[],[],[]⟩(.op⟨.nl 1 .done,[],[],[],[]⟩(.op⟨.nl 1 .done,[],[],[],[]⟩(.op⟨.call 5 .done,[],[],[],[]⟩(.op⟨.nl 1 .done,[],[14],[],[]⟩(.op⟨.nl 1 .done,[],[],[],[]⟩(.op⟨.nl 1 .done,[],[],[16],[16]⟩Nh))))))))),(64,.an(.dr 12(.n 3(.sp 101 9 [7,14,16,17,53] [14,16,100200,100300]⟨[(110,zs7)],[]⟩Qk0 Qk0 .done)) .done))] Tryz.func263⟩
def Qle (N:Nat):V:=⟨⟨264,⟨[(0,.d G0),(1,Gr),(2,I7),(3,.p 5002 [])],[(5000,Ot),(5001,Q2g),(5002,Q2g)]⟩,[zs5],fun(x0,ca,ce,cd)=>M6 N x0 ca ce cd,[5000,5001,5002]⟩,kF N [] [] Tryz.func264⟩
def Qr3 (N:Nat):V:=⟨⟨160,(sD [J7,.i,.str,.str]),[⟨[(0,.ag(sL [zs3,Yd,Yd,zs3,Sy])),(1,zs7)],[(1,Q9c)]⟩],fun(x0,x1,x2,x3)=>Qat N x0 x1 x2 x3,[]⟩,kF N [Qle] [(8,.lp [10,15,16] [4,5,6,7]⟨[(8,S6),(17,zs3)],[(100000,Jn2)]⟩ [(.x 0,⟨[(8,Qb5)],[(100100,Jn2)]⟩),(.r,⟨[(8,Qk1),(9,zs7)],[(100200,.var 142(.ag(sL [zs3,Yd,Yd,zs3,Q13]))),(100201,Q9c)]⟩)]),(20,.rg(.n 2(.call 0 .done)))] Tryz.func160⟩
def Tf (N:Nat):V:=⟨⟨339,(sD [.i,.sl .i]),[zs5],fun(x0,x1)=>Gl N x0 x1,[]⟩,kF N [] [(6,.lp [0,7,8] [] Qrl zs8)] Tryz.func339⟩
def Qhn (N:Nat):V:=⟨⟨265,⟨[(0,.s 5000)],Jhx⟩,[zs2],Cr N,[5000]⟩,kF N [Tf] [(24,.lp [0,12,13] []⟨[(3,zs3),(14,zs3)],[]⟩Qng),(37,.rg(.n 5(.call 0(.n 7(.sp 31 6 [3,4,5,14] [5] Jpk Qs4(.nl 3 Jgu) .done)))))] Tryz.func265⟩
def Qjl (N:Nat):V:=⟨⟨266,⟨[(0,.s 5000),(1,zs3)],Jhx⟩,[Qrm],fun(x1,ca)=>Ef N x1 ca,[5000]⟩,kF N [] [(8,.lp [1,12,13] []⟨[(6,zs3),(7,zs3),(14,zs3)],[]⟩ [(.x 0,zs9),(.r,⟨[(4,zs3),(5,zs7)],[]⟩)]),(22,.jn [6,7,9,14] [9] [(.n,⟨[(10,zs3)],[]⟩)]),(37,.an(.dr 7 Q8x .done))] Tryz.func266⟩
def Qfl (N:Nat):V:=⟨⟨161,⟨[(0,.s 5000),(1,zs3),(2,zs3)],Jhx⟩,[Ni],fun(x1,x2,ca)=>Ap N x1 x2 ca,[5000]⟩,kF N [Qhn,Qjl] [] Tryz.func161⟩
def Qlf (N:Nat):V:=⟨⟨159,Jn3,[⟨Qg9,[(1,Ub)]⟩],fun(x0,x1,x2,x3)=>M8 N x0 x1 x2 x3,[]⟩,kF N [Qld,Ra,Qr1,Q2l] [(4,.rg(.n 2(.call 0(.n 2(.sp 17 5 [1,3,4,6] [4,6]⟨[(22,zs7)],[]⟩Fr Jgt .done))))),(13,.jn [1,3,4,6] [4,6] [(.n,Qrl)]),(23,.an(.dc 10 [39,40,41,42,43,44,45,46,47,48] [4,6] [](.op⟨.nl 1 .done,[],[],[],[4]⟩(.op⟨.nl 1 .done,[],[4],[],[]⟩(.op⟨.nl 1 .done,[],[],[],[]⟩(.op⟨.nl 1 .done,[],[],[],[]⟩(.op⟨.call 2 .done,[],[],[],[]⟩(.op⟨.nl 1 .done,[],[],[],[]⟩(.op⟨.nl 1 .done,[],[],[],[6]⟩(.op⟨.nl 1 .done,[],[6],[],[]⟩(.op⟨.nl 1 .done,[],[],[],[]⟩(.op⟨.nl 1 .done,[],[],[],[]⟩(.tl(.n 1(.br Vp))))))))))))))),(32,.lp [61,62] [4,6,16101]⟨[(10,Qi1),(63,zs3)],[(100200,Ub)]⟩ [(.x 0,⟨[(10,Qmn)],[(100300,Ub)]⟩)]),(43,.rg(.n 14(.br Q6i)))] Tryz.func159⟩
def Qny (N:Nat):V:=⟨⟨92,Jn3,[⟨Jn4,[(1,Ub)]⟩],fun(x0,x1,x2,x3)=>Pv N x0 x1 x2 x3,[]⟩,kF N [Qjf,Qlf,Qr3,Qfl] [(15,.lp [4,6,11,37] [4,6]⟨[(13,S5),(14,zs3),(15,zs3),(16,zs3),(17,zs3),(38,zs3)],[(100000,Ub)]⟩ [(.x 0,⟨[(13,Qi1),(14,zs3),(15,zs3),(17,zs3)],[(100200,Ub)]⟩)]),(27,.an(.dc 15 [42,43,44,45,46,47,48,49,50,51,41,52,53,19,1000000014] [100000] [4,6](.op⟨.nl 1 .done,[],[4],[],[]⟩(.op⟨.nl 1 .done,[],[],[],[6]⟩(.op⟨.nl 1 .done,[],[6],[],[]⟩(.op⟨.nl 1 .done,[],[],[],[]⟩(.op⟨.nl 1 .done,[],[],[],[100000]⟩(.op⟨.nl 1 .done,[],[],[],[]⟩(.op⟨.nl 1 .done,[],[100000],[],[100000]⟩(.op⟨.nl 1 .done,[],[],[],[100000]⟩(.op⟨.nl 1 .done,[],[100000],[],[]⟩(.op⟨.call 2 .done,[],[],[15101],[15101]⟩(.op⟨.nl 1 .done,[],[],[],[15101]⟩(.op⟨.nl 1 .done,[],[],[],[15101]⟩(.op⟨.nl 1 .done,[],[],[],[]⟩(.op⟨.nl 1 .done,[],[],[19],[19]⟩(.op⟨.nl 1 .done,[19],[15101],[],[19,15101]⟩Nh))))))))))))))))),(37,.jn [13,15,16,17,18,19,38] [19,15101,100000] [(.n,⟨[(14,zs3)],[]⟩)]),(43,.an(.dc 13 [61,62,63,64,65,66,67,68,69,60,70,71,21] [19,100000,15101] [](.op⟨.nl 1 .done,[],[],[],[19]⟩(.op⟨.nl 1 .done,[],[19],[],[15101]⟩(.op⟨.nl 1 .done,[],[],[],[]⟩(.op⟨.nl 1 .done,[],[],[],[100000]⟩(.op⟨.nl 1 .done,[],[],[],[]⟩(.op⟨.nl 1 .done,[],[100000],[],[100000]⟩(.op⟨.nl 1 .done,[],[],[],[100000]⟩(.op⟨.nl 1 .done,[],[100000],[],[]⟩(.op⟨.call 3 .done,[],[15101],[],[]⟩Jn5))))))))))),(59,.jn [13,14] [4,6,100200] [(.n,⟨[(17,zs3)],[]⟩)])] Tryz.func92⟩
def Qlg (N:Nat):V:=⟨⟨55,⟨Qbv,[(5000,.var 102(.ag(sL [H2,.ag(sL [Qrk,Ou,S7]),V7,Aw,B1,.ag(sL [Yd,zs3,zs7,Qmt,Qbw,Qmq,Qi6]),zs3,Jm4]))),(5001,Um),(5002,Qbs),(5003,Qbt),(5004,Ww),(5005,Hk),(5006,Fp),(5007,Ua),(5008,Ub),(5009,Uu)]⟩,[⟨Qi7,[(5000,Jn6),(1,Um),(2,Qbs),(3,Qbt),(4,Ua),(5,Ub),(6,Uu)]⟩],fun(cx,cq,g8,g9,gk,gm,gn,gq,du,dv,dw,dy,dz,dl,g5,dx,dq,g6,g7,ce,cd,cg,ci,cj,ck,cm,dj,ge)=>M9 N cx cq g8 g9 gk gm gn gq du dv dw dy dz dl g5 dx dq g6 g7 ce cd cg ci cj ck cm dj ge,[]⟩,kF N [Qny] [(3,.gh(.fz 5004(.dt 5000(.fz 5005(.dt 5000 Jm0))))),(3,.an(.dc 24 [10,11,12,13,14,15,16,17,18,19,20,21,22,23,24,25,26,27,9,28,29,30,3,4] [5000] [](.op⟨.nl 1 .done,[],[],[],[5000]⟩(.op⟨.nl 1 .done,[],[5000],[],[5000]⟩(.op⟨.nl 1 .done,[],[],[],[5000]⟩(.op⟨.nl 1 .done,[],[5000],[],[]⟩(.op⟨.nl 1 .done,[],[],[],[5000]⟩(.op⟨.nl 1 .done,[],[5000],[],[5000]⟩(.op⟨.nl 1 .done,[],[],[],[5000]⟩(.op⟨.nl 1 .done,[],[],[],[5000]⟩(.op⟨.nl 1 .done,[],[5000],[],[]⟩(.op⟨.nl 1 .done,[],[],[],[5000]⟩(.op⟨.nl 1 .done,[],[5000],[],[5000]⟩(.op⟨.nl 1 .done,[],[],[],[5000]⟩(.op⟨.nl 1 .done,[],[5000],[],[]⟩(.op⟨.nl 1 .done,[],[],[],[5000]⟩(.op⟨.nl 1 .done,[],[5000],[],[5000]⟩(.op⟨.nl 1 .done,[],[],[],[5000]⟩(.op⟨.nl 1 .done,[],[5000],[],[]⟩(.op⟨.call 0 .done,[],[],[12701],[12701]⟩(.op⟨.nl 1 .done,[],[],[],[12701]⟩(.op⟨.nl 1 .done,[],[],[],[12701]⟩(.op⟨.nl 1 .done,[],[],[],[]⟩(.op⟨.nl 1 .done,[],[],[],[]⟩(.op⟨.nl 1 .done,[],[],[],[12701]⟩Qva))))))))))))))))))))))))),(18,.lp [0,3,4,35,36] [5000,5001,5002,5003,5004,5005,5006,5007,5008,5009,12701]⟨[(6,zs3),(37,zs3)],[]⟩ [(.x 0,zs9)]),(26,.jn [37] [] [(.n,zs9)])] Tryz.func55⟩
def Qx3 (N:Nat):V:=⟨⟨53,⟨Qbv,[(5000,.var 90 I7),(5001,.var 102(.ag(sL [H2,B2,V7,Aw,B1,.ag(sL [Yd,zs3,zs7,Qmt,Ou,S7,Qbw]),zs3,Jhq]))),(5002,Ww),(5003,Hk),(5004,Fp),(5005,Ua),(5006,Ub),(5007,Uu)]⟩,[⟨Qi7,[(5001,Jn6),(1,Um),(2,Qbs),(3,Qbt),(4,Ua),(5,Ub),(6,Uu)]⟩],fun(ct,cp,cw,dh,di,gg,gi,gj,gr,cy,cz,d4,d5,d6,d7,d8,d9,da,db,de,cd,cg,ci,cj,ck,cm)=>Qg4 N ct cp cw dh di gg gi gj gr cy cz d4 d5 d6 d7 d8 d9 da db de cd cg ci cj ck cm,[5000,5005]⟩,kF N [Qlc,Qlg] [] Tryz.func53⟩
def Qnz (N:Nat):V:=⟨⟨48,⟨[(0,.f 53 Qmr),(1,.p 5008 [])],[(5000,.var 90 I7),(5001,.var 102(.ag(sL [H2,B2,V7,Aw,B1,.ag(sL [Yd,zs3,zs7,Qmt,Ou,S7,Qbw]),zs3,Jhq]))),(5002,Ww),(5003,Hk),(5004,Fp),(5005,Ua),(5006,Ub),(5007,Uu),(5008,Qms)]⟩,[⟨[],[(5001,.var 102(.ag(sL [H2,Q9o,V7,Aw,B1,.ag(sL [Yd,zs3,zs7,Qmt,Jny,.d(.sl G0),.d(.sl Vc)]),zs3,Q9p]))),(5008,Qms),(1,Ua),(2,Ub),(3,Uu)]⟩],fun(ct,cp,cw,dh,di,gg,gi,gj,gr,cy,cz,d4,d5,d6,d7,d8,d9,da,db,de,cd,cg,ci,cj,ck,cm,dj)=>Pw N ct cp cw dh di gg gi gj gr cy cz d4 d5 d6 d7 d8 d9 da db de cd cg ci cj ck cm dj,[5000]⟩,kF N [Qx3] [(3,.rg(.n 1 Qi2))] Tryz.func48⟩
def Qlh (N:Nat):V:=⟨⟨163,Ni,[Q17],fun(x0,x1)=>Na N x0 x1,[]⟩,kF N [Td,Lc] [] Tryz.func163⟩
def Tg (N:Nat):V:=⟨⟨94,Jhy,[zs2],fun(cx,dg,cq,g8,g9,gp,du,dv,dw,dy,dz,dl,g5,dx,dq,g6,g7,ce,cd,cg)=>Aq N cx dg cq g8 g9 gp du dv dw dy dz dl g5 dx dq g6 g7 ce cd cg,[5000,5001,5002,5003]⟩,kF N [Qlh] [(3,.an(.dr 10 Jgz Jhz))] Tryz.func94⟩
def Az (N:Nat):V:=⟨⟨162,(sD [Yq,Yq]),[zs2],fun(x0,x1)=>Xu N x0 x1,[]⟩,kF N [] [(6,.lp [22] [2,3]⟨[(23,zs3)],[]⟩Qs3)] Tryz.func162⟩
def Qta (N:Nat):V:=⟨⟨93,(sD [.sl Yq,.i,.i,.i]),[Jh0],fun(x0,x1,x2,x3)=>Qda N x0 x1 x2 x3,[]⟩,kF N [Az] [(8,.lp [9,16,17] [9]⟨[(8,S6),(18,zs3)],[(100000,Q2h)]⟩ [(.x 0,⟨[(8,Qb5)],[(100100,Q2h)]⟩),(.r,⟨[(8,Qk1)],[(100200,Q2h)]⟩)])] Tryz.func93⟩
def Qr4 (N:Nat):V:=⟨⟨97,(sD [J2,.str,.str,Yq,.bool]),[(sD [R9])],fun(x0,x1,x2,x3,x4)=>Lj N x0 x1 x2 x3 x4,[]⟩,kF N [Np] [(17,.an(.dr 9(.n 9 .done)Vp))] Tryz.func97⟩
def Qho (N:Nat):V:=⟨⟨387,zs2,[zs2],Ku N,[]⟩,kF N [] [] Tryz.func387⟩
def Qfm (N:Nat):V:=⟨⟨388,Qnf,[zs2],Yc N,[]⟩,kF N [] [(7,.jn [3] [] [(.n,⟨[(4,zs7)],[]⟩)]),(33,.jn [3] [] [(.n,⟨[(11,zs7)],[]⟩)])] Tryz.func388⟩
def Qhp (N:Nat):V:=⟨⟨389,(sD [.i,.arr 2 .i]),[Ni],fun(x0,x1)=>Cs N x0 x1,[]⟩,kF N [] [(3,.an(.dr 6 Q14 .done)),(7,.jn [] [3] [(.n,⟨[(8,zs3),(9,zs7)],[]⟩)]),(15,.jn [6,7,8,14] [] [(.n,Jhv)]),(23,.jn [6,7,8,14] [] [(.n,⟨[(34,zs7)],[]⟩)]),(31,.jn [6,7,8] [] [(.n,⟨[(44,zs7)],[]⟩)])] Tryz.func389⟩
def Nq (N n:Nat):Con:=⟨345,zs1,[Ni],fun(x0,x1)=>V6 N n x0 x1,[]⟩
theorem O4 (N:Nat):∀n,KO(Nq N n)
 | 0=>⟨F4 fun _=>rfl,I5 Tryz.func345 rfl⟩
 | n+1=>have ih:=O4 N n; kF N [Qho,Tf,Qfm,fun _=>⟨_,ih⟩,Qhp] [(12,.an(.dc 6 [14,15,16,17,18,19] [2] [](.op⟨.nl 1 .done,[],[],[],[2]⟩(.op⟨.nl 1 .done,[],[2],[],[]⟩(.op⟨.call 0 .done,[],[],[],[]⟩(.op⟨.nl 1 .done,[],[],[],[2]⟩(.op⟨.nl 1 .done,[],[2],[],[]⟩Qva))))))),(73,.lp [1,2,46,47] [2]⟨[(7,S6),(48,zs3)],[(100000,Q9l)]⟩ [(.x 1,⟨[(7,Qb5)],[(100100,Q9l)]⟩),(.r,Jg4)])] Tryz.func345
def Qr5 (N:Nat):V:=⟨Nq N N,O4 N N⟩
def Qec (N:Nat):V:=⟨⟨276,Qrh,[Ni],G7 N,[]⟩,kF N [Qr5] [] Tryz.func276⟩
def Hv (N n:Nat):Con:=⟨277,Q2i,[zs5],fun(x0,x1)=>Yl N n x0 x1,[]⟩
theorem Qn0 (N n:Nat)(ih:KO(Hv N n)):KO⟨346,Jn9,[zs5],fun(x0,ca,ce)=>Up N(Yl N n)x0 ca ce,[5000,5001]⟩:=kF N [fun _=>⟨_,ih⟩] [(3,.an(.dr 6 Q14 Qi2))] Tryz.func346
def Q2m (N:Nat):V:=⟨⟨390,Q2i,[Qnf],fun(x0,x1)=>Qey N x0 x1,[]⟩,kF N [] [] Tryz.func390⟩
def Qtb (N:Nat):V:=⟨⟨404,zs2,[Qrm],Fn N,[]⟩,kF N [] [] Tryz.func404⟩
def Qli (N:Nat):V:=⟨⟨405,(sD [.str,R9]),[zs2],fun(x0,x1)=>Nb N x0 x1,[]⟩,kF N [] [] Tryz.func405⟩
def A1 (N n:Nat):Con:=⟨391,Q2i,[Qrm],fun(x0,x1)=>Us N n x0 x1,[]⟩
theorem Qlj (N n:Nat)(ih:KO(A1 N n)):KO⟨406,Jn9,[Qrm],fun(x0,ca,ce)=>X5 N(Us N n)x0 ca ce,[5000,5001]⟩:=kF N [fun _=>⟨_,ih⟩] [(3,.an(.dc 9 [6,7,8,9,10,11,12,13,14] [] [5000,5001](.op⟨.nl 1 .done,[],[],[],[5000]⟩(.op⟨.nl 1 .done,[],[5000],[],[]⟩(.op⟨.nl 1 .done,[],[],[],[]⟩(.op⟨.nl 1 .done,[],[],[],[]⟩(.op⟨.nl 1 .done,[],[],[],[]⟩(.op⟨.nl 1 .done,[],[5001],[],[]⟩(.op⟨.call 0 .done,[],[],[],[]⟩Jmq)))))))))] Tryz.func406
def Q6j (N:Nat):V:=⟨⟨407,Ni,[Qrm],fun(x0,x1)=>Qiz N x0 x1,[]⟩,kF N [] [] Tryz.func407⟩
def Qr6 (N:Nat):V:=⟨⟨408,Ni,[Qrm],fun(x0,x1)=>Lk N x0 x1,[]⟩,kF N [] [] Tryz.func408⟩
theorem Th (N:Nat):∀n,KO(A1 N n)
 | 0=>⟨F4 fun _=>rfl,I5 Tryz.func391 rfl⟩
 | n+1=>have ih:=Th N n; kF N [Qtb,Qli,fun _=>⟨_,Qlj N n ih⟩,Q6j,Qr6] [(22,.rg(.n 1(.call 2 Jk9))),(24,.rg(.n 1(.call 2 Jk9))),(40,.jn [2,7] [2,3] [(.n,Qrl),(.x 1,Qrl),(.x 4,Qrl)])] Tryz.func391
def Qtc (N:Nat):V:=⟨A1 N N,Th N N⟩
def Qr7 (N:Nat):V:=⟨⟨347,Q2i,[Qrm],fun(x0,x1)=>Ll N x0 x1,[]⟩,kF N [Qec,Q2m,Qtc] [(9,.an(.dc 11 [24,25,26,27,28,29,30,31,32,33,34] [2,3] [](.op⟨.nl 1 .done,[],[],[],[2]⟩(.op⟨.nl 1 .done,[],[2],[],[]⟩(.op⟨.nl 1 .done,[],[],[],[]⟩(.op⟨.nl 1 .done,[],[],[],[]⟩(.op⟨.nl 1 .done,[],[3],[],[]⟩(.op⟨.call 1 .done,[],[],[],[]⟩(.op⟨.nl 1 .done,[],[],[],[2]⟩(.op⟨.nl 1 .done,[],[2],[],[]⟩(.op⟨.nl 1 .done,[],[],[],[]⟩(.op⟨.nl 1 .done,[],[],[],[]⟩(.op⟨.nl 1 .done,[],[3],[],[]⟩(.tl(.call 1 Q6i))))))))))))))),(30,.an(.dc 10 [45,46,47,48,49,50,44,51,52,10] [2,3] [] Joa)),(32,.an(.dc 10 [54,55,56,57,58,59,53,60,61,12] [2,3] [] Joa))] Tryz.func347⟩
theorem Nr (N:Nat):∀n,KO(Hv N n)
 | 0=>⟨F4 fun _=>rfl,I5 Tryz.func277 rfl⟩
 | n+1=>have ih:=Nr N n; kF N [fun _=>⟨_,Qn0 N n ih⟩,Qr7] [(18,.rg(.n 1 Jhz)),(24,.rg(.n 1(.call 0(.n 1(.sp 24 3 [5] [2,3]⟨[(27,zs7)],[]⟩Jhw Jce Vp))))),(30,.rg(.n 1(.call 0(.n 1(.sp 32 3 [5] [2,3] Jg1 Jce Jhw Vp)))))] Tryz.func277
def Qn1 (N:Nat):V:=⟨Hv N N,Nr N N⟩
def Qx4 (N:Nat):V:=⟨⟨168,Q2i,[zs5],fun(x0,x1)=>Qg5 N x0 x1,[]⟩,kF N [Qec,Qn1] [] Tryz.func168⟩
def Qhq (N:Nat):V:=⟨⟨167,⟨[(0,.d Vc),(1,Gr)],[(5000,Jn8)]⟩,[zs5],fun(x0,ca)=>Ct N x0 ca,[5000]⟩,kF N [Qx4] [] Tryz.func167⟩
def Qn2 (N:Nat):V:=⟨⟨348,Q9g,[Ni],fun(x0,x1,x2)=>Px N x0 x1 x2,[]⟩,kF N [] [(8,.lp [0,1,2] []⟨[(8,zs3),(9,zs3),(10,zs3)],[]⟩ [(.x 0,Job),(.r,⟨[(6,zs3),(7,zs3)],[]⟩)]),(20,.jn [10] [] [(.n,Job)])] Tryz.func348⟩
def Qlk (N:Nat):V:=⟨⟨349,zs2,[Ni],Nc N,[]⟩,kF N [Ax] [] Tryz.func349⟩
def Qr8 (N:Nat):V:=⟨⟨278,Q9g,[Ni],fun(x0,x1,x2)=>Qav N x0 x1 x2,[]⟩,kF N [Ax,Qn2,Qlk] [(13,.jn [0] [] Jhp),(19,.jn [] [] Jhp)] Tryz.func278⟩
def Qll (N:Nat):V:=⟨⟨169,Ni,[Ni],fun(x0,x1)=>Nd N x0 x1,[]⟩,kF N [Qr8] [] Tryz.func169⟩
def Qlm (N:Nat):V:=⟨⟨96,(sD [.sl Vc,R9,.i]),[⟨Jn4,[(1,Uu)]⟩],fun(x0,x1,x2)=>Nf N x0 x1 x2,[]⟩,kF N [Qhq,Qll] [(20,.lp [9,24,25] [4]⟨[(10,S5),(11,zs3),(26,zs3)],[(100000,Uu)]⟩ [(.x 0,⟨[(10,Qmn),(11,zs3)],[(100300,Uu)]⟩),(.r,⟨[(6,.ns),(7,zs3),(8,zs3)],[]⟩)]),(28,.jn [26] [] [(.n,⟨[(10,Qe7),(11,zs3)],[(100100,Uu)]⟩),(.r,⟨[(6,.ns),(7,zs3),(8,zs3)],[]⟩)]),(33,.rg(.n 2 Qi2))] Tryz.func96⟩
def Qed (N:Nat):V:=⟨⟨57,Jhy,[⟨Qi7,[(5000,Jh1),(1,Ua),(2,Ub),(3,Uu)]⟩],fun(cx,dg,cq,g8,g9,gp,du,dv,dw,dy,dz,dl,g5,dx,dq,g6,g7,ce,cd,cg)=>Fb N cx dg cq g8 g9 gp du dv dw dy dz dl g5 dx dq g6 g7 ce cd cg,[]⟩,kF N [Tg,Qta,Qr1,Qr4,Qlm] [(3,.an(.dc 19 [8,9,10,11,12,13,14,15,16,17,18,19,20,21,22,23,24,25,3] [5000,5001,5002,5003] [](.op⟨.nl 1 .done,[],[],[],[5000]⟩(.op⟨.nl 1 .done,[],[5000],[],[5000]⟩(.op⟨.nl 1 .done,[],[],[],[5000]⟩(.op⟨.nl 1 .done,[],[],[],[5000]⟩(.op⟨.nl 1 .done,[],[5000],[],[]⟩(.op⟨.nl 1 .done,[],[],[],[5000]⟩(.op⟨.nl 1 .done,[],[5000],[],[5000]⟩(.op⟨.nl 1 .done,[],[],[],[5000]⟩(.op⟨.nl 1 .done,[],[],[],[5000]⟩(.op⟨.nl 1 .done,[],[5000],[],[]⟩(.op⟨.nl 1 .done,[],[],[],[5000]⟩(.op⟨.nl 1 .done,[],[5000],[],[5000]⟩(.op⟨.nl 1 .done,[],[],[],[5000]⟩(.op⟨.nl 1 .done,[],[],[],[5000]⟩(.op⟨.nl 1 .done,[],[5000],[],[]⟩(.op⟨.nl 1 .done,[],[],[],[5000]⟩(.op⟨.call 0 .done,[],[5000,5001,5002,5003],[],[]⟩(.op⟨.call 1 .done,[],[],[],[]⟩Q81)))))))))))))))))))),(5,.an(.dr 15 Jpo(.call 2 Vp))),(7,.an(.dc 34 [43,44,45,46,47,48,49,50,51,52,53,54,55,56,57,58,59,60,61,62,63,64,65,66,67,68,69,70,42,71,72,73,5,6] [5000,3] [](.op⟨.nl 1 .done,[],[],[],[5000]⟩(.op⟨.nl 1 .done,[],[5000],[],[5000]⟩(.op⟨.nl 1 .done,[],[],[],[5000]⟩(.op⟨.nl 1 .done,[],[],[],[5000]⟩(.op⟨.nl 1 .done,[],[5000],[],[]⟩(.op⟨.nl 1 .done,[],[],[],[5000]⟩(.op⟨.nl 1 .done,[],[5000],[],[5000]⟩(.op⟨.nl 1 .done,[],[],[],[5000]⟩(.op⟨.nl 1 .done,[],[5000],[],[]⟩(.op⟨.nl 1 .done,[],[],[],[5000]⟩(.op⟨.nl 1 .done,[],[5000],[],[5000]⟩(.op⟨.nl 1 .done,[],[],[],[5000]⟩(.op⟨.nl 1 .done,[],[],[],[5000]⟩(.op⟨.nl 1 .done,[],[5000],[],[]⟩(.op⟨.nl 1 .done,[],[],[],[]⟩(.op⟨.nl 1 .done,[],[3],[],[]⟩(.op⟨.nl 1 .done,[],[],[],[5000]⟩(.op⟨.nl 1 .done,[],[5000],[],[5000]⟩(.op⟨.nl 1 .done,[],[],[],[5000]⟩(.op⟨.nl 1 .done,[],[],[],[5000]⟩(.op⟨.nl 1 .done,[],[5000],[],[]⟩(.op⟨.call 3 .done,[],[],[],[]⟩(.op⟨.nl 1 .done,[],[],[],[5000]⟩(.op⟨.nl 1 .done,[],[5000],[],[5000]⟩(.op⟨.nl 1 .done,[],[],[],[5000]⟩(.op⟨.nl 1 .done,[],[],[],[5000]⟩(.op⟨.nl 1 .done,[],[5000],[],[]⟩(.op⟨.call 4 .done,[],[],[17001],[17001]⟩(.op⟨.nl 1 .done,[],[],[],[17001]⟩(.op⟨.nl 1 .done,[],[],[],[17001]⟩(.op⟨.nl 1 .done,[],[],[],[]⟩(.op⟨.nl 1 .done,[],[],[],[]⟩(.op⟨.nl 1 .done,[],[],[],[17001]⟩Qva)))))))))))))))))))))))))))))))))))] Tryz.func57⟩
def Qx5 (N:Nat):V:=⟨⟨56,Joc,[Jod],fun(ct,cp,cw,dh,di,gc,cy,cz,d4,d5,d6,d7,d8,d9,da,db,de,cd,cg,ci)=>Qg6 N ct cp cw dh di gc cy cz d4 d5 d6 d7 d8 d9 da db de cd cg ci,[5000]⟩,kF N [Qed] [] Tryz.func56⟩
def Qn3 (N:Nat):V:=⟨⟨48,⟨[(0,.f 56 Qmr),(1,.p 5005 [])],Joe⟩,[Jof],fun(ct,cp,cw,dh,di,gc,cy,cz,d4,d5,d6,d7,d8,d9,da,db,de,cd,cg,ci,cj)=>Py N ct cp cw dh di gc cy cz d4 d5 d6 d7 d8 d9 da db de cd cg ci cj,[5000]⟩,kF N [Qx5] [(3,.rg(.n 1 Qi2))] Tryz.func48⟩
def Qf9 (N:Nat):V:=⟨⟨172,(sD [Vq]),[zs2],Or N,[]⟩,kF N [Ay] [] Tryz.func172⟩
def Qr9 (N:Nat):V:=⟨⟨173,Qmv,[Qmv],fun(x0,x1)=>Qaw N x0 x1,[]⟩,kF N [Ay,Ip,Kh,Qf9] [] Tryz.func173⟩
def Qfn (N:Nat):V:=⟨⟨171,⟨[(0,.s 5000)],[(5000,Qbs)]⟩,[Jnp],Ar N,[5000]⟩,kF N [] [(8,.lp [9,10] []⟨[(3,Q9e),(11,zs3)],[(100000,Qbu)]⟩ [(.x 0,⟨[(3,.m 100200)],[(100200,Qbu)]⟩)]),(16,.jn [11] [] [(.n,⟨[(3,Q9f)],[(100100,Qbu)]⟩)])] Tryz.func171⟩
def Qtd (N:Nat):V:=⟨⟨98,(sD [Ud,.i,.i,.bool]),[⟨[(0,Jcf),(1,zs3),(2,zs3)],Jmu⟩],fun(x0,x1,x2,x3)=>Qdc N x0 x1 x2 x3,[]⟩,kF N [Io,Qfn,Qf9,Qr9] [] Tryz.func98⟩
def Qn4 (N:Nat):V:=⟨⟨279,zs2,[zs5],Pz N,[]⟩,kF N [] [(6,.lp [0,5] [] zs9 Qrd)] Tryz.func279⟩
def Le (N:Nat):V:=⟨⟨175,Jh0,[zs5],Wq N,[]⟩,kF N [Qn4] [(3,.rg(.n 9(.sp 11 4 [1] [1]⟨[(15,zs7)],[]⟩(.nl 2 Qi2)Sx(.n 11 .done))))] Tryz.func175⟩
def Ti (N:Nat):V:=⟨⟨176,Jh0,[zs5],Gm N,[]⟩,kF N [] [] Tryz.func176⟩
def Qn5 (N:Nat):V:=⟨⟨174,(sD [.sl Yq]),[zs5],P0 N,[]⟩,kF N [Le,Ti,Az] [(6,.lp [0,5,6] [] Qne Qrd),(19,.rg(.n 1(.call 0(.n 2(.sp 15 4 [3,4,7] [4] Jgs Sx Q2e Jgz))))),(26,.jn [7] [4] [(.n,Jgv)]),(26,.an(.dc 9 [30,31,32,33,34,35,36,37,38] [] [4](.op⟨.nl 1 .done,[],[],[],[]⟩(.op⟨.nl 1 .done,[],[],[],[]⟩(.op⟨.nl 1 .done,[],[],[],[]⟩(.so 32(.op⟨.nl 1 .done,[],[],[],[]⟩(.op⟨.nl 1 .done,[],[],[],[]⟩(.op⟨.nl 1 .done,[],[],[],[]⟩(.op⟨.nl 1 .done,[],[],[],[]⟩(.op⟨.nl 1 .done,[],[],[],[]⟩(.op⟨.nl 1 .done,[],[4],[],[]⟩(.tl Jk3)))))))Jq5))))))] Tryz.func174⟩
def Qn6 (N:Nat):V:=⟨⟨177,⟨[(0,Gr),(1,I7)],[(5000,.var 35 Jn7),(5001,Q2h)]⟩,[Ni],fun(ca,ce)=>P1 N ca ce,[5000,5001]⟩,kF N [Az] [(6,.lp [0,1,6,7] [] Qkz Jrb),(35,.an(.dr 6 Q14 .done))] Tryz.func177⟩
def Qte (N:Nat):V:=⟨⟨99,(sD [.sl Yq,Yq]),[⟨[(0,Sy),(1,zs3)],[(1,Qbt)]⟩],fun(x0,x1)=>Qdd N x0 x1,[]⟩,kF N [Qn5,Le,Ti,Qn6] [(4,.rg(.n 1(.call 0(.n 2(.sp 14 4 [2,3] [2,3] Q11 Sx Q2e .done))))),(21,.rg(.n 1(.call 3 Jk9))),(25,.jn [2,7,8] [2,3] [(.n,⟨[(9,Qb5)],[(100100,Q2h)]⟩)]),(29,.an(.dr 9(.n 9 .done)Vp)),(30,.an(.dr 9(.n 9 .done)Vp)),(43,.jn [2,8] [2,3,100100] [(.n,⟨[(10,Qi1)],[(100200,Qbt)]⟩)])] Tryz.func99⟩
def Qsa (N:Nat):V:=⟨⟨59,Jhy,[⟨Qi7,[(5000,.var 102(.ag(sL [H2,Q9o,V7,Aw,B1,Qvj,zs3,Q9p]))),(1,Ua),(2,Ub),(3,Uu)]⟩],fun(cx,dg,cq,g8,g9,gp,du,dv,dw,dy,dz,dl,g5,dx,dq,g6,g7,ce,cd,cg)=>Qax N cx dg cq g8 g9 gp du dv dw dy dz dl g5 dx dq g6 g7 ce cd cg,[]⟩,kF N [Qtd,Tg,Qte] [(3,.an(.dc 27 [9,10,11,12,13,14,15,16,17,18,19,20,21,22,23,24,25,26,27,28,8,29,30,31,3,1000000025,4] [5000] [](.op⟨.nl 1 .done,[],[],[],[5000]⟩(.op⟨.nl 1 .done,[],[5000],[],[5000]⟩(.op⟨.nl 1 .done,[],[],[],[5000]⟩(.op⟨.nl 1 .done,[],[5000],[],[]⟩(.op⟨.nl 1 .done,[],[],[],[5000]⟩(.op⟨.nl 1 .done,[],[5000],[],[5000]⟩(.op⟨.nl 1 .done,[],[],[],[5000]⟩(.op⟨.nl 1 .done,[],[],[],[5000]⟩(.op⟨.nl 1 .done,[],[5000],[],[]⟩(.op⟨.nl 1 .done,[],[],[],[5000]⟩(.op⟨.nl 1 .done,[],[5000],[],[5000]⟩(.op⟨.nl 1 .done,[],[],[],[5000]⟩(.op⟨.nl 1 .done,[],[],[],[5000]⟩(.op⟨.nl 1 .done,[],[5000],[],[]⟩(.op⟨.nl 1 .done,[],[],[],[5000]⟩(.op⟨.nl 1 .done,[],[5000],[],[5000]⟩(.op⟨.nl 1 .done,[],[],[],[5000]⟩(.op⟨.nl 1 .done,[],[],[],[5000]⟩(.op⟨.nl 1 .done,[],[5000],[],[]⟩(.op⟨.call 0 .done,[],[],[12803,12802,12801],[12801,12802,12803]⟩(.op⟨.nl 1 .done,[],[],[],[12801,12802,12803]⟩(.op⟨.nl 1 .done,[],[],[],[12801,12802,12803]⟩(.op⟨.nl 1 .done,[],[],[],[]⟩(.op⟨.nl 1 .done,[],[],[],[]⟩(.op⟨.nl 1 .done,[],[],[3],[3]⟩(.op⟨.nl 1 .done,[3],[12801,12802,12803],[],[3,12801,12802,12803]⟩Qva)))))))))))))))))))))))))))),(5,.gh(.fz 12803(.dt 3 .done))),(5,.an(.dc 30 [33,34,35,36,37,38,39,40,41,42,43,44,45,46,47,48,49,50,51,52,53,54,55,56,57,58,32,59,60,6] [3,5000,5001,5002,5003] [](.op⟨.nl 1 .done,[],[],[],[3]⟩(.op⟨.nl 1 .done,[],[3],[],[]⟩(.op⟨.nl 1 .done,[],[],[],[5000]⟩(.op⟨.nl 1 .done,[],[5000],[],[5000]⟩(.op⟨.nl 1 .done,[],[],[],[5000]⟩(.op⟨.nl 1 .done,[],[],[],[5000]⟩(.op⟨.nl 1 .done,[],[5000],[],[]⟩(.op⟨.nl 1 .done,[],[],[],[5000]⟩(.op⟨.nl 1 .done,[],[5000],[],[5000]⟩(.op⟨.nl 1 .done,[],[],[],[5000]⟩(.op⟨.nl 1 .done,[],[],[],[5000]⟩(.op⟨.nl 1 .done,[],[5000],[],[]⟩(.op⟨.nl 1 .done,[],[],[],[5000]⟩(.op⟨.call 1 .done,[],[5000,5001,5002,5003],[],[]⟩(.op⟨.nl 1 .done,[],[],[],[5000]⟩(.op⟨.nl 1 .done,[],[5000],[],[5000]⟩(.op⟨.nl 1 .done,[],[],[],[5000]⟩(.op⟨.nl 1 .done,[],[],[],[5000]⟩(.op⟨.nl 1 .done,[],[5000],[],[]⟩(.op⟨.nl 1 .done,[],[],[],[5000]⟩(.op⟨.nl 1 .done,[],[5000],[],[5000]⟩(.op⟨.nl 1 .done,[],[],[],[5000]⟩(.op⟨.nl 1 .done,[],[],[],[5000]⟩(.op⟨.nl 1 .done,[],[5000],[],[]⟩(.op⟨.nl 1 .done,[],[],[],[]⟩(.op⟨.call 2 .done,[],[],[15801],[15801]⟩(.op⟨.nl 1 .done,[],[],[],[15801]⟩(.op⟨.nl 1 .done,[],[],[],[15801]⟩(.op⟨.nl 1 .done,[],[],[],[]⟩(.op⟨.nl 1 .done,[],[],[],[15801]⟩Nh))))))))))))))))))))))))))))))))] Tryz.func59⟩
def Qx6 (N:Nat):V:=⟨⟨58,Joc,[Jod],fun(ct,cp,cw,dh,di,gc,cy,cz,d4,d5,d6,d7,d8,d9,da,db,de,cd,cg,ci)=>Qg7 N ct cp cw dh di gc cy cz d4 d5 d6 d7 d8 d9 da db de cd cg ci,[5000]⟩,kF N [Qsa] [] Tryz.func58⟩
def Qn7 (N:Nat):V:=⟨⟨48,⟨[(0,.f 58 Qmr),(1,.p 5005 [])],Joe⟩,[Jof],fun(ct,cp,cw,dh,di,gc,cy,cz,d4,d5,d6,d7,d8,d9,da,db,de,cd,cg,ci,cj)=>P2 N ct cp cw dh di gc cy cz d4 d5 d6 d7 d8 d9 da db de cd cg ci cj,[5000]⟩,kF N [Qx6] [(3,.rg(.n 1 Qi2))] Tryz.func48⟩
def Q6k (N:Nat):V:=⟨⟨17,(sD [Vw,Ud,J2]),[⟨[(0,Q9o),(1,Q9p)],[(1,Ua),(2,Ub),(3,Uu)]⟩],fun(x0,x1,x2)=>Ng N x0 x1 x2,[]⟩,kF N [Qxw,Qxy,Qnk,Qnz,Qn3,Qn7] [(7,.an(.dc 5 [18,19,20,21,1000000004] [4,5,6] [](.op⟨.nl 1 .done,[],[4],[],[]⟩(.op⟨.call 0 .done,[],[],[11903,11902,11901],[11901,11902,11903]⟩(.op⟨.nl 1 .done,[],[5],[],[]⟩(.op⟨.nl 1 .done,[],[],[],[]⟩(.op⟨.nl 1 .done,[6],[11901,11902,11903],[],[6,11901,11902,11903]⟩Nh))))))),(17,.rg(.n 2(.call 1 .done))),(19,.rg(.n 2(.call 2 .done))),(21,.rg(.n 2(.call 3 .done))),(23,.rg Jht),(25,.rg(.n 2(.call 5 .done))),(31,.an(.dc 6 [47,48,49,50,51,1000000005] [4,5,9,6] [](.op⟨.nl 1 .done,[],[4],[],[]⟩(.op⟨.call 0 .done,[],[],[14803,14802,14801],[14801,14802,14803]⟩(.op⟨.nl 1 .done,[],[5],[],[]⟩(.op⟨.nl 1 .done,[],[9],[],[]⟩(.op⟨.nl 1 .done,[],[],[],[]⟩(.op⟨.nl 1 .done,[6],[14801,14802,14803],[],[6,14801,14802,14803]⟩Nh)))))))),(35,.an(.dc 9 [52,53,54,55,56,57,58,59,1000000008] [8,28,6] [](.op⟨.nl 1 .done,[],[8],[],[28]⟩(.op⟨.nl 1 .done,[],[28],[],[28]⟩(.op⟨.nl 1 .done,[],[],[],[28]⟩(.op⟨.nl 1 .done,[],[28],[],[]⟩(.op⟨.nl 1 .done,[],[8],[],[28]⟩(.op⟨.nl 1 .done,[],[28],[],[28]⟩(.op⟨.nl 1 .done,[],[],[],[28]⟩(.op⟨.nl 1 .done,[],[28],[],[14401,14402,14403]⟩(.op⟨.nl 1 .done,[6],[],[],[6]⟩Nh)))))))))))] Tryz.func17⟩
def Xv (N n:Nat):Con:=⟨100,Qrh,[Qrh],fun x0=>J3 N n x0,[]⟩
theorem Wx (N:Nat):∀n,KO(Xv N n)
 | 0=>⟨F4 fun _=>rfl,I5 Tryz.func100 rfl⟩
 | n+1=>have ih:=Wx N n; kF N [fun _=>⟨_,ih⟩] [(8,.lp [1,2] [1,2]⟨Jh2,[(100000,.var 180(.ag(sL [zs3,zs3,Yd,Qrg]))),(100001,Q9d)]⟩ [(.x 0,⟨Qvb,[(100100,.var 180(.ag(sL [zs3,zs3,Yd,Qdg]))),(100101,Q9d)]⟩)]),(17,.an(.dc 9 [19,20,21,22,23,24,25,26,27] [100000] [1](.op⟨.nl 1 .done,[],[],[],[100000]⟩(.op⟨.nl 1 .done,[],[100000],[],[100001]⟩(.op⟨.nl 1 .done,[],[],[],[1]⟩(.op⟨.nl 1 .done,[],[1],[],[]⟩(.op⟨.nl 1 .done,[],[],[],[]⟩(.op⟨.nl 1 .done,[],[],[],[]⟩(.op⟨.nl 1 .done,[],[],[],[]⟩(.op⟨.call 0 .done,[],[],[],[]⟩(.op⟨.nl 1 .done,[],[],[],[]⟩Qrf)))))))))))] Tryz.func100
def Rb (N:Nat):V:=⟨Xv N N,Wx N N⟩
def Ns (N:Nat):V:=⟨⟨60,Q16,[⟨[(0,Q2d)],Jhl⟩],Ka N,[]⟩,kF N [Rb] [(8,.lp [1,2] [1,2]⟨Jh2,Jm9⟩Jna),(17,.an(.dc 18 [24,25,26,27,28,29,30,31,32,33,34,35,36,37,38,39,40,41] [100000] [1](.op⟨.nl 1 .done,[],[],[],[100000]⟩(.op⟨.nl 1 .done,[],[100000],[],[100001]⟩(.op⟨.nl 1 .done,[],[],[],[1]⟩(.op⟨.nl 1 .done,[],[1],[],[]⟩(.op⟨.nl 1 .done,[],[],[],[]⟩(.op⟨.nl 1 .done,[],[],[],[]⟩(.op⟨.nl 1 .done,[],[],[],[]⟩(.op⟨.nl 1 .done,[],[],[],[]⟩(.op⟨.nl 1 .done,[],[],[32],[32]⟩(.op⟨.nl 1 .done,[],[],[],[1]⟩(.op⟨.nl 1 .done,[],[1],[],[]⟩(.op⟨.nl 1 .done,[],[],[],[]⟩(.op⟨.nl 1 .done,[],[],[],[]⟩(.op⟨.nl 1 .done,[],[],[],[]⟩(.op⟨.nl 1 .done,[],[],[],[]⟩(.op⟨.nl 1 .done,[32],[],[39],[39]⟩(.op⟨.nl 1 .done,[],[],[],[39]⟩(.op⟨.fz 39(.nl 1 .done),[39],[],[],[39]⟩Qrf)))))))))))))))))))),(23,.lp [1,2] [1,2]⟨[(3,Qk1),(5,zs3)],Jnb⟩Jnc),(32,.an(.dc 18 [51,52,53,54,55,56,57,58,59,60,61,62,63,64,65,66,67,68] [100200] [1](.op⟨.nl 1 .done,[],[],[],[100200]⟩(.op⟨.nl 1 .done,[],[100200],[],[100202]⟩(.op⟨.nl 1 .done,[],[],[],[1]⟩(.op⟨.nl 1 .done,[],[1],[],[]⟩(.op⟨.nl 1 .done,[],[],[],[]⟩(.op⟨.nl 1 .done,[],[],[],[]⟩(.op⟨.nl 1 .done,[],[],[],[]⟩(.op⟨.nl 1 .done,[],[],[],[]⟩(.op⟨.nl 1 .done,[],[],[59],[59]⟩(.op⟨.nl 1 .done,[],[],[],[1]⟩(.op⟨.nl 1 .done,[],[1],[],[]⟩(.op⟨.nl 1 .done,[],[],[],[]⟩(.op⟨.nl 1 .done,[],[],[],[]⟩(.op⟨.nl 1 .done,[],[],[],[]⟩(.op⟨.nl 1 .done,[],[],[],[]⟩(.op⟨.nl 1 .done,[59],[],[66],[66]⟩(.op⟨.nl 1 .done,[],[],[],[66]⟩(.op⟨.fz 66(.nl 1 .done),[66],[],[],[66]⟩Qrf)))))))))))))))))))),(38,.lp [1,2] [1,2]⟨[(3,Qve),(6,zs3)],Jnd⟩Jnf),(51,.rg(.n 3(.fz 86 Qi5))),(57,.lp [1,2] [1,2]⟨[(3,.p 100600 []),(8,zs3)],Jng⟩Jni)] Tryz.func60⟩
def Rc (N:Nat):V:=⟨⟨18,(sD [Vw]),[⟨[(0,.ag(sL [Sy,Q12,.s 3,.s 4,.s 5,.s 6]))],[(1,Qrn),(2,Qro),(3,Qi8),(4,Qrp),(5,H1),(6,Jh3)]⟩],Vk N,[]⟩,kF N [Ns] [(3,.an(.dc 14 [11,12,13,14,15,16,17,18,19,20,21,22,23,3] [1] [](.op⟨.nl 1 .done,[],[],[11],[11]⟩(.op⟨.nl 1 .done,[],[],[],[1]⟩(.op⟨.nl 1 .done,[],[1],[],[]⟩(.op⟨.nl 1 .done,[11],[],[14],[14]⟩(.op⟨.nl 1 .done,[],[],[15],[15]⟩(.op⟨.nl 1 .done,[],[],[],[1]⟩(.op⟨.nl 1 .done,[],[1],[],[]⟩(.op⟨.nl 1 .done,[15],[],[18],[18]⟩(.op⟨.nl 1 .done,[],[],[19],[19]⟩(.op⟨.nl 1 .done,[],[],[],[1]⟩(.op⟨.nl 1 .done,[],[1],[],[]⟩(.op⟨.nl 1 .done,[19],[],[22],[22]⟩(.op⟨.nl 1 .done,[],[],[],[14,18,22]⟩Q81))))))))))))))),(8,.lp [1,2] [1,2]⟨Jh2,[(100000,.var 29(.ag(sL [Qrg,Jk8,.ns,Jpw,.s 100004,.ns]))),(100001,Qrn),(100002,Qro),(100003,Qrp),(100004,H1)]⟩ [(.x 0,⟨Qvb,[(100100,.var 29(.ag(sL [Qdg,Jgw,.ns,Jgx,.s 100104,.ns]))),(100101,Qrn),(100102,Qro),(100103,Qrp),(100104,H1)]⟩)]),(17,.an(.dc 9 [31,32,33,34,35,36,37,38,39] [100000] [1](.op⟨.nl 1 .done,[],[],[],[100000]⟩(.op⟨.nl 1 .done,[],[100000],[],[100002]⟩(.op⟨.nl 1 .done,[],[],[],[1]⟩(.op⟨.nl 1 .done,[],[1],[],[]⟩(.op⟨.nl 1 .done,[],[],[],[]⟩(.op⟨.nl 1 .done,[],[],[],[]⟩(.op⟨.nl 1 .done,[],[],[],[]⟩(.op⟨.call 0 .done,[],[],[13804,13803,13802,13801],[13801,13802,13803,13804]⟩(.op⟨.fz 13801(.fz 13802(.fz 13803(.fz 13804(.nl 1 .done)))),[13801,13802,13803,13804],[],[],[13801,13802,13803,13804]⟩Qrf))))))))))),(23,.lp [1,2] [1,2]⟨[(3,Qk1),(5,zs3)],[(100200,.var 29(.ag(sL [Q13,Jk7,Jpv,.s 100204,.s 100205,.ns]))),(100201,Qrn),(100202,Qro),(100203,Qi8),(100204,Qrp),(100205,H1)]⟩ [(.x 2,⟨Jne,[(100500,.var 29(.ag(sL [Jhm,.s 100502,.s 100503,.s 100504,.s 100505,.ns]))),(100501,Qrn),(100502,Qro),(100503,Qi8),(100504,Qrp),(100505,H1)]⟩)]),(40,.lp [3,5] [100200,100201,100202,100203,100204,100205]⟨[(6,Qf8),(7,zs3)],[(100300,.var 108(.ag(sL [Yd,zs3,zs3,Yd,zs7,Q2c]))),(100301,Qvh)]⟩ [(.x 4,⟨[(6,Qve)],[(100400,.var 108(.ag(sL [Yd,zs3,zs3,Yd,zs7,Q9b]))),(100401,Qvh)]⟩)]),(53,.rg(.n 3(.fz 78 Qi5))),(55,.rg(.n 3(.fz 100401 Qi5))),(61,.lp [1,2] [1,2]⟨[(3,.p 100600 []),(9,zs3)],[(100600,.var 29(.ag(sL [Jhn,.s 100602,.s 100603,.s 100604,.s 100605,.s 100606]))),(100601,Qrn),(100602,Qro),(100603,Qi8),(100604,Qrp),(100605,H1),(100606,Jh3)]⟩ [(.x 6,⟨Jnh,[(100700,.var 29(.ag(sL [Jho,.s 100702,.s 100703,.s 100704,.s 100705,.s 100706]))),(100701,Qrn),(100702,Qro),(100703,Qi8),(100704,Qrp),(100705,H1),(100706,Jh3)]⟩)]),(74,.rg(.n 3(.fz 107 Qi5)))] Tryz.func18⟩
def Qfo (N:Nat):V:=⟨⟨22,(sD [Xa,Xa]),[zs5],fun(x0,x1)=>At N x0 x1,[]⟩,kF N [] [(22,.lp [2,3] [2,3] zs4 zs8),(32,.an(.dr 11(.n 11 .done) .done)),(43,.lp [2,3] [2,3] zs9 Jky),(53,.an(.dr 11(.n 11 .done) .done)),(64,.lp [2,3] [2,3] Qne Jkz),(74,.an(.dr 11(.n 11 .done) .done))] Tryz.func22⟩
def Nz (N:Nat):V:=⟨⟨63,Q9n,[zs5],fun(x0,x1)=>Kv N x0 x1,[]⟩,kF N [] [(14,.lp [2,3] [2,3] zs4 zs8),(24,.an(.dr 11(.n 11 .done) .done))] Tryz.func63⟩
def Rd (N:Nat):V:=⟨⟨21,(sD [Ud,Ud]),[zs5],fun(x0,x1)=>Uq N x0 x1,[]⟩,kF N [Nz] [(14,.lp [2,3] [2,3] zs4 zs8),(24,.an(.dr 10 Jgz Qi2)),(35,.lp [2,3] [2,3] zs9 Jky),(45,.an(.dr 11(.n 11 .done) .done)),(56,.lp [2,3] [2,3] Qne Jkz),(66,.an(.dr 11(.n 11 .done) .done))] Tryz.func21⟩
def Qfp (N:Nat):V:=⟨⟨25,Jog,[zs5],fun(x0,x1,x2)=>Wv N x0 x1 x2,[]⟩,kF N [Qd2,Qcc,Qff] [(4,.rg(.n 5(.sp 13 5 [1,2,3] [3] Q11 Fr Q15 .done))),(14,.lp [1] [3] Qne Jg2),(25,.rg(.n 4(.call 1(.n 2(.sp 31 8 [7] []⟨[(39,zs7)],[]⟩Qmu(.nl 5 Jk3)(.n 1(.sp 40 8 [7] [] Jpl Qmu Qmu(.n 1(.sp 49 8 [7] []⟨[(57,zs7)],[]⟩Qmu Qmu .done))))))))),(34,.lp [7] [] Qkz [(.x 2,zs6),(.r,⟨[(6,zs7)],[]⟩)]),(44,.an(.dr 11(.n 11 .done) .done))] Tryz.func25⟩
def Qn8 (N:Nat):V:=⟨⟨66,Jg9,[Q19],P3 N,[]⟩,kF N [] [(3,.an(.dc 8 [6,7,8,9,10,11,12,3] [1] [](.op⟨.nl 1 .done,[],[],[],[1]⟩(.op⟨.nl 1 .done,[],[1],[],[]⟩(.op⟨.nl 1 .done,[],[],[8],[8]⟩(.op⟨.nl 1 .done,[],[],[],[1]⟩(.op⟨.nl 1 .done,[],[1],[],[]⟩(.op⟨.nl 1 .done,[],[],[11],[11]⟩(.op⟨.nl 1 .done,[],[],[],[8,11]⟩Q81))))))))),(8,.lp [2,14,15] [1,2]⟨[(3,S6),(16,zs3)],[(100000,.var 37 Jpx),(100001,Um),(100002,Qbs),(100003,Qbt)]⟩ [(.x 0,⟨Qvb,[(100100,.var 37(.ag(sL [Qdg,Jgw,Jgx]))),(100101,Um),(100102,Qbs),(100103,Qbt)]⟩)]),(21,.rg(.n 3(.fz 22 Qi5)))] Tryz.func66⟩
def Qx7 (N:Nat):V:=⟨⟨119,(sD [J2]),[(sD [Li])],Cu N,[]⟩,kF N [] [] Tryz.func119⟩
def Qln (N:Nat):V:=⟨⟨118,(sD [Li,Li]),[zs5],fun(x0,x1)=>Gp N x0 x1,[]⟩,kF N [] [] Tryz.func118⟩
def Lf (N n:Nat):Con:=⟨67,Joh,[Joh],fun x0=>Zu N n x0,[]⟩
theorem Nt (N:Nat):∀n,KO(Lf N n)
 | 0=>⟨F4 fun _=>rfl,I5 Tryz.func67 rfl⟩
 | n+1=>have ih:=Nt N n; kF N [fun _=>⟨_,ih⟩,Qx7,Qln] [(11,.an(.dc 11 [11,12,13,14,15,16,17,18,19,20,21] [] [](.op⟨.nl 1 .done,[],[],[],[]⟩(.op⟨.nl 1 .done,[],[],[],[]⟩(.op⟨.nl 1 .done,[],[],[],[]⟩(.op⟨.nl 1 .done,[],[],[],[]⟩(.op⟨.nl 1 .done,[],[],[],[]⟩(.op⟨.call 0 .done,[],[],[],[]⟩(.op⟨.nl 1 .done,[],[],[],[]⟩(.op⟨.nl 1 .done,[],[],[],[]⟩(.op⟨.nl 1 .done,[],[],[],[]⟩(.op⟨.nl 1 .done,[],[],[],[]⟩(.op⟨.nl 1 .done,[],[],[],[]⟩(.tl Jhz)))))))))))))),(16,.lp [] []⟨[(3,Joi),(4,Joi),(5,S5)],[(100000,Joj)]⟩ [(.x 0,⟨Jk6,[(100200,Joj)]⟩)]),(25,.jn [3,4,5] [100000] Jq8),(25,.an(.dc 15 [34,35,36,37,38,39,40,41,42,43,44,45,46,47,48] [] [](.op⟨.nl 1 .done,[],[],[],[]⟩(.op⟨.nl 1 .done,[],[],[],[]⟩(.op⟨.nl 1 .done,[],[],[],[]⟩(.op⟨.nl 1 .done,[],[],[],[]⟩(.so 37(.op⟨.nl 1 .done,[],[],[],[]⟩(.op⟨.nl 1 .done,[],[],[],[]⟩(.op⟨.nl 1 .done,[],[],[],[]⟩(.op⟨.nl 1 .done,[],[],[],[]⟩Jok))))(.op⟨.nl 1 .done,[],[],[],[]⟩(.op⟨.nl 1 .done,[],[],[],[]⟩(.op⟨.nl 1 .done,[],[],[],[]⟩(.op⟨.nl 1 .done,[],[],[],[]⟩(.so 41(.op⟨.nl 1 .done,[],[],[],[]⟩(.op⟨.nl 1 .done,[],[],[],[]⟩(.op⟨.nl 1 .done,[],[],[],[]⟩(.op⟨.call 1 .done,[],[],[],[]⟩(.op⟨.nl 1 .done,[],[],[],[]⟩(.op⟨.nl 1 .done,[],[],[],[]⟩(.op⟨.nl 1 .done,[],[],[],[]⟩(.tl(.call 1(.call 2 Jce))))))))))Jok))))))))))))] Tryz.func67
def Qn9 (N:Nat):V:=⟨Lf N N,Nt N N⟩
def Qlo (N:Nat):V:=⟨⟨30,(sD [Vw,Ud,.sl J2]),[Jol],fun(x0,x1,x2)=>Au N x0 x1 x2,[]⟩,kF N [Qn8,Qn9,Q6k] [(10,.gh(.fz 11501(.fz 11502(.fz 11503 .done)))),(10,.lp [3,6,17,18] [3,4,6]⟨[(8,S6),(9,Qrg),(19,zs3)],[(100000,.var 37 Q9o),(100001,Jh4)]⟩ [(.x 0,⟨[(8,Qb5),(9,Qdg)],[(100100,.var 37 B2),(100101,Jh4)]⟩)]),(25,.rg(.n 2(.fz 12701(.fz 12702(.fz 12703 Q6h)))))] Tryz.func30⟩
def Qga (N:Nat):V:=⟨⟨27,(sD [Vw,.sl J2]),[Jol],fun(x0,x1)=>Ut N x0 x1,[]⟩,kF N [Qlo] [] Tryz.func27⟩
def Qlp (N:Nat):V:=⟨⟨64,(sD [.sl Xa]),[Q9g],Qde N,[]⟩,kF N [] [(8,.lp [10,11] []⟨[(5,zs3),(6,zs3),(7,zs3),(12,zs3)],[]⟩ [(.x 0,⟨[(5,zs3),(6,zs3),(7,zs3)],[]⟩)])] Tryz.func64⟩
def Qee (N:Nat):V:=⟨⟨26,(sD []),[zs5],fun _=>Zc N,[]⟩,kF N [Qa2,Qga,Qlp] [(13,.an(.dc 10 [14,15,16,17,18,13,19,20,3,1000000009] [1,2] [](.op⟨.call 0 .done,[],[],[],[]⟩(.op⟨.nl 1 .done,[],[1],[],[]⟩(.op⟨.nl 1 .done,[],[2],[],[]⟩(.op⟨.nl 1 .done,[],[],[],[]⟩(.op⟨.call 1 .done,[],[],[11801],[11801]⟩(.op⟨.nl 1 .done,[],[],[],[11801]⟩(.op⟨.nl 1 .done,[],[],[],[]⟩(.op⟨.nl 1 .done,[],[],[],[11801]⟩Jm7)))))))))),(16,.rg(.n 10(.sp 30 7 [3,4] [1,2,3,11801] Jpk Qay Qay(.n 1(.sp 38 7 [3,4] [1,2,3,11801]⟨[(45,zs7)],[]⟩Qay Qay .done))))),(25,.rg(.n 7(.sp 58 6 [3,4,5,6,7] [1,2,3,11801]⟨[(64,zs7)],[]⟩Qs4 Qs4(.n 1(.sp 65 9 [3,4,5,6,7] [1,2,3,11801]⟨[(74,zs7)],[]⟩Qk0 Qk0(.n 1(.sp 75 6 [3,4,5,6,7] [1,2,3,11801]⟨[(81,zs7)],[]⟩Qs4 Qs4(.n 1(.sp 82 9 [3,4,5,6,7] [1,2,3,11801]⟨[(91,zs7)],[]⟩Qk0 Qk0(.n 13(.sp 104 7 [3] [1,2,3,11801]⟨[(111,zs7)],[]⟩Qay Qay Vp)))))))))))] Tryz.func26⟩
def Re (N:Nat):V:=⟨⟨29,(sD [.sl Xa,.sl Xa]),[zs5],fun(x0,x1)=>Ur N x0 x1,[]⟩,kF N [Qfo] [(14,.lp [0,1] [] zs4 zs8),(24,.an(.dr 8 Qi3 Qi2))] Tryz.func29⟩
def Xw (N:Nat):V:=⟨⟨8,Jog,[zs5],fun(x0,x1,x2)=>Vn N x0 x1 x2,[]⟩,kF N [Qfp,Qee,Rc,Qga,Rd,Re] [(11,.an(.dc 8 [27,28,29,30,31,32,33,34] [] [](.op⟨.nl 1 .done,[],[],[27],[27]⟩(.op⟨.nl 1 .done,[],[],[],[]⟩(.op⟨.nl 1 .done,[],[],[],[]⟩(.op⟨.nl 1 .done,[],[],[],[]⟩(.op⟨.nl 1 .done,[27],[],[31],[31]⟩Jmr))))))),(17,.rg(.n 2(.call 4(.n 1(.fz 14001(.fz 14901(.sp 55 4 [9,11] [3,8,10,35,48,13801,13802,13803,13804,13805,13806,14001,14501,14502,14503,14504,14505,14506,14901]⟨[(59,zs7)],[]⟩Jmt Sx(.n 1(.sp 60 2 [] [3,8,10,35,48,13801,13802,13803,13804,13805,13806,14001,14501,14502,14503,14504,14505,14506,14901]⟨[(62,zs7)],[]⟩Jgy Qs2 Vp)))))))))] Tryz.func8⟩
end Gx
